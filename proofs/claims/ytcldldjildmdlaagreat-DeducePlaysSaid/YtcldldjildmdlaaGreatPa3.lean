import Derived.Test.YtcldldjildmdlaaGreatProg
import Derived.KernelRfl
import Derived.Test.YtcldldjildmdlaaGreatPa2
import Derived.IntWalk
section
open Go Go.SE
open Go.IntKind renaming i64 → q6
namespace Go.Proofs
open Tryz
set_option maxRecDepth 100000
set_option maxHeartbeats 4000000
attribute [local irreducible] wpL wpX opE wpE Calls
def m_V1 (p1:Option Addr) (w0:World) (K:(Option Addr)→WP):Prop :=Br (Option.isNone p1) (K none w0) (∀p2 w1,New w0 (.map #[] 0) p2 w1→∀p3 w2,New w1 (.cells #[(vp p1),Sl.nil.v,(.map (some p2.block)),Sl.nil.v] 109) p3 w2→K (some p3) w2)
theorem w_V1 (p1 w0 K) (h:m_V1 p1 w0 K):
  Calls prog 20 #[(vp p1)] w0 (fun e w'=>∃r1,e=.returned (vp r1)∧K r1 w'):=by
 refine cw (args:=[(vp p1)]) func20 ntmps20 (eg (q0 (vp none) (ln (jA (eg (q0 (vp p1) (q2 (vb (Option.isNone p1)) (kC (by kernel_rfl) rfl underlying26) (jB ?_))))))))
 refine jJ (cbr h ?_ ?_)<;>intro h
 refine eg (q (ln (er (jW (rs1 results20 ⟨none,rfl,h⟩)))))
 refine jC (jJ (eg (q (nw4 (fun p=>.map (some p.block)) h fun p2 w1 h=>q (nw1 h xb fun p3 w2 h=>q (ln (er (rs1 results20 ⟨(some p3),rfl,h⟩))))))))
def m_W1 (k1:Option Addr) (w0:World) (K:(Option Addr)→WP):Prop :=Br (Option.isNone k1) (K none w0) (∃C1:WP,C1 w0.drew∧∀w1,w1=w0.drew→∃a1,k1=some a1∧∃v1,(∀w',C1 w'→w'.cell? a1=some (vp v1))∧∃a2,k1=some a2∧∃v2:Sl,(∀w',C1 w'→w'.cell? (a2.add 1)=some v2.v)∧∃a3,k1=some a3∧∃v3:Option Nat,(∀w',C1 w'→w'.cell? (a3.add 2)=some (.map v3))∧∃a4,k1=some a4∧∃v4:Sl,(∀w',C1 w'→w'.cell? (a4.add 3)=some v4.v)∧Calls prog 56 #[v2.v] w1 (fun e w2=>∃r1:Sl,e=.returned r1.v∧C1 w2∧Kept None w1 w2∧Calls prog 57 #[(.map v3)] w2 (fun e w3=>∃r2:Option Nat,e=.returned (.map r2)∧C1 w3∧Kept None w2 w3∧Calls prog 56 #[v4.v] w3 (fun e w4=>∃r3:Sl,e=.returned r3.v∧C1 w4∧Kept None w3 w4∧∀p1 w5,New w4 (.cells #[(vp v1),r1.v,(.map r2),r3.v] 109) p1 w5→C1 w5∧K (some p1) w5))))
theorem w_W1 (k1 w0 K) (h:m_W1 k1 w0 K):
  Calls prog 21 #[(vp k1)] w0 (fun e w'=>∃r4,e=.returned (vp r4)∧K r4 w'):=by
 refine cw (args:=[(vp k1)]) func21 ntmps21 ?_
 obtain ⟨hs,hb⟩:=st0 w0
 refine eg (q (ln (jA (eg (q (q2 (vb (Option.isNone k1)) (kC (by kernel_rfl) rfl underlying55) (ln (cbr h ?_ ?_))))))))<;>intro h
 refine eg (q (ln (er (jW (rs1 results21 ⟨none,rfl,h⟩)))))
 refine jC (jJ (jA ?_))
 obtain ⟨C1,hC,h⟩:=h
 refine dr2 C1 [8,13,18,20] [] hC h hs hb fun w1 hs hb h=>?_
 have hs:=hs.here
 refine qx 0 (vp k1) Kp0 (qg 1 ?_)
 obtain ⟨a1,hp1,h⟩:=h
 refine sy Kp1 (fun _ _=>xn hp1) (qx 2 (vp (some a1)) Kp2 (qg 3 ?_))
 obtain ⟨v1,hv4,h⟩:=h
 refine sy Kp3 (fun _ k=>xl (isAgg26 _) (hv4 _ k)) (qx 4 (vp k1) Kp4 (qg 5 ?_))
 obtain ⟨a2,hp2,h⟩:=h
 refine sy Kp5 (fun _ _=>xn hp2) (qx 6 (vp (some (a2.add 1))) Kp6 (qg 7 ?_))
 obtain ⟨v2,hv3,h⟩:=h
 refine sy Kp7 (fun _ k=>xl (isAgg52 _) (hv3 _ k)) (qx 9 (vp k1) Kp9 (qg 10 ?_))
 obtain ⟨a3,hp3,h⟩:=h
 refine sy (jL (S8 (jE (jE jK)))) (fun _ _=>xn hp3) (qx 11 (vp (some (a3.add 2))) (jL (S8 (jE (jE (jE jK))))) (qg 12 ?_))
 obtain ⟨v3,hv2,h⟩:=h
 refine sy (jL (S8 (S4 jK))) (fun _ k=>xl (isAgg107 _) (hv2 _ k)) (qx 14 (vp k1) (jL (S8 (S4 (jE (jE jK))))) (qg 15 ?_))
 obtain ⟨a4,hp4,h⟩:=h
 refine sy (jL (S8 (S4 (jE (jE (jE jK)))))) (fun _ _=>xn hp4) (qx 16 (vp (some (a4.add 3))) (jL (S8 (S8 jK))) (qg 17 ?_))
 obtain ⟨v4,hv1,h⟩:=h
 refine sy (jL (S8 (S8 (jE jK)))) (fun _ k=>xl (isAgg52 _) (hv1 _ k)) (lg 8 (slc Kp8 call56 (h.mono ?_)))
 rintro e w2 ⟨r1,rfl,hC,hk,h⟩
 refine ⟨_,rfl,.inr hC,?_⟩
 obtain ⟨hs,hb⟩:=hk.hh hs hb
 refine lg 13 (slc (jL (S8 (S4 (jE jK)))) call57 (h.mono ?_))
 rintro e w3 ⟨r2,rfl,hC,hk,h⟩
 refine ⟨_,rfl,.inr hC,?_⟩
 obtain ⟨hs,hb⟩:=hk.hh hs hb
 refine lg 18 (slc (jL (S8 (S8 (jE (jE jK))))) call56 (h.mono ?_))
 rintro e w4 ⟨r3,rfl,hC,hk,h⟩
 refine ⟨_,rfl,.inr hC,?_⟩
 obtain ⟨hs,hb⟩:=hk.hh hs hb
 refine qx 19 (.agg #[(vp v1),r1.v,(.map r2),r3.v]) (jL (S8 (S8 (jE (jE (jE jK)))))) (lg 20 (uQ (O:=(.cells #[(vp v1),r1.v,(.map r2),r3.v] 109)) (fun p=>.pointer (some p)) (jL (S8 (S8 (S4 jK)))) (jP rfl) (by kernel_rfl) xb ?_))
 intro p1 w5 hn1
 have h:=h p1 w5 hn1
 refine ⟨.inr h.1,?_⟩
 have h:=h.2
 obtain ⟨hs,hb⟩:=hs.nw hb hn1
 refine qx 21 (vp (some p1)) (jL (S8 (S8 (S4 (jE jK))))) (wn (jJ (er (rs1 results21 ⟨(some p1),rfl,h⟩))))
def m_N_j2 (p1:Addr) (at1:Int) (p5 a9:Addr) (w0:World) (H:NP) (w:World) (Kc1:Int→NP→WP) (_K:WP):Prop :=∃v15,w.cell? a9=some (vi v15)∧Br (v15 == 4) (∃v16,w.cell? (a9.add 5)=some (vi v16)∧Calls prog 97 #[(vi v16),(vi 1),(vp (some p1)),(vp (some p5))] w (fun e w13=>e=.returned (.tuple #[])∧Kept H w w13∧∃v17,w13.cell? (a9.add 6)=some (vi v17)∧Calls prog 97 #[(vi v17),(vi 2),(vp (some p1)),(vp (some p5))] w13 (fun e w14=>e=.returned (.tuple #[])∧Kept H w13 w14∧Kc1 (q6.wrap (at1+1)) H w14))) (∀y1:Bool,y1=(cond (v15 == 7) (v15 == 7) (cond (v15 == 8) (v15 == 8) (v15 == 9)))→Br y1 (∀H3 w15,Hst w0 H w H3 w15→∃v18,w15.cell? (a9.add 5)=some (vi v18)∧Calls prog 97 #[(vi v18),(vi 3),(vp (some p1)),(vp (some p5))] w15 (fun e w16=>e=.returned (.tuple #[])∧Kept H3 w15 w16∧Kc1 (q6.wrap (at1+1)) H3 w16)) (∀H3 w15,Hst w0 H w H3 w15→Kc1 (q6.wrap (at1+1)) H3 w15))
def m_N_l1 (p1:Addr) (at1:Int) (w0:World) (Hl1:NP) (wl1:World) (Kc1:Int→NP→WP) (K:WP):Prop :=∃v10,wl1.cell? p1=some (vp v10)∧∃a6,v10=some a6∧∃v11:Sl,wl1.cell? (a6.add 3)=some v11.v∧Br (decide (at1<(v11.len:Int))) (∃v12,wl1.cell? p1=some (vp v12)∧∃a7,v12=some a7∧∃v13:Sl,wl1.cell? (a7.add 3)=some v13.v∧∃a8:Addr,At v13 at1 1 a8∧∃v14,wl1.cell? a8=some (vi v14)∧∀p5 w11,New wl1 (.cells #[(vi 0)] 30) p5 w11→zQ w11 p5∧¬ Hl1 p5.block∧∀w12,w12=w11.setCell p5 (vi v14)→∃C3:WP,C3 w12.drew∧∀w17,w17=w12.drew→∃v19,(∀w',C3 w'→w'.cell? p1=some (vp v19))∧∃a10,v19=some a10∧∃v20,(∀w',C3 w'→w'.cell? a10=some (vp v20))∧∃v21,(∀w',C3 w'→w'.cell? p5=some (vi v21))∧(Calls prog 43 #[(vp v20),(vi v21)] w17 (fun e w18=>∃aA aG aI aK aL aC aF r1,e=.returned (.tuple #[(Ab aA aG aI aK aL aC aF),(vb r1)])∧C3 w18∧Kept Hl1 w17 w18∧∀p6 w19,New w18 (.cells #[(vi 0),(vi 0),(vi 0),(vu 0),ve,(vi 0),(vi 0)] 86) p6 w19→C3 w19∧(∀j,j<7→zQ w19 (p6.add j))∧¬ Hl1 p6.block∧∀w20,w20=storeRow w19 p6 (Aa aA aG aI aK aL aC aF)→C3 w20∧m_N_j2 p1 at1 p5 p6 w0 Hl1 w20 Kc1 K))∧(∀p7 w21,New w17 (.cells #[(vi 0),(vi 0),(vi 0),(vu 0),ve,(vi 0),(vi 0)] 86) p7 w21→C3 w21∧Calls prog 43 #[(vp v20),(vi v21)] w21 (fun e w22=>∃aZ bA bB bC bD bE bF r2,e=.returned (.tuple #[(Ab aZ bA bB bC bD bE bF),(vb r2)])∧C3 w22∧Kept Hl1 w21 w22∧(∀j,j<7→zQ w22 (p7.add j))∧¬ Hl1 p7.block∧∀w23,w23=storeRow w22 p7 (Aa aZ bA bB bC bD bE bF)→C3 w23∧m_N_j2 p1 at1 p5 p7 w0 Hl1 w23 Kc1 K))) (K wl1)
def m_N (k1:Option Addr) (t1 wrule1 wfrom1:Int) (w0:World) (K:WP):Prop :=∀p1 w1,New w0 (.cells #[(vp k1)] 55) p1 w1→∀H1 w2,Hst w0 None w1 H1 w2→∃v1,w2.cell? p1=some (vp v1)∧∃a1,v1=some a1∧∃v2:Option Nat,w2.cell? (a1.add 2)=some (.map v2)∧∃vrule1 vfrom1 ok1,(Instr.lookup 107 (.map v2) (vi t1) true).run prog w2=.ok (.tuple #[(.agg #[(vi vrule1),(vi vfrom1)]),(vb ok1)]) w2∧Br ok1 (∀H2 w4,Hst w0 H1 w2 H2 w4→K w4) (∀H2 w4,Hst w0 H1 w2 H2 w4→∃C1:WP,C1 w4.drew∧∀w5,w5=w4.drew→∃v3,(∀w',C1 w'→w'.cell? p1=some (vp v3))∧∃a2,v3=some a2∧∃v4:Option Nat,(∀w',C1 w'→w'.cell? (a2.add 2)=some (.map v4))∧∃w6:World,(Instr.mapUpdate 107 (.map v4) (vi t1) (.agg #[(vi wrule1),(vi wfrom1)])).run prog w5=.ok () w6∧Kept H2 w5 w6∧∃v5,w6.cell? p1=some (vp v5)∧∃a3,v5=some a3∧∃v6:Sl,w6.cell? (a3.add 3)=some v6.v∧∃C2:WP,C2 w6.drew∧∀w7,w7=w6.drew→∃v7,(∀w',C2 w'→w'.cell? p1=some (vp v7))∧∃v8,(∀w',C2 w'→w'.cell? p1=some (vp v8))∧∃a4,v8=some a4∧∃v9:Sl,(∀w',C2 w'→w'.cell? (a4.add 3)=some v9.v)∧∀p4 w8,New w7 (.cells #[(vi t1)] 30) p4 w8→C2 w8∧∃s1:Sl,∃w9:World,(Builtin.append_ #[52,52] 52 #[v9.v,(Sl.mk (some p4) 1 1).v]).run prog w8=.ok s1.v w9∧C2 w9∧Kept H2 w8 w9∧∃a5,v7=some a5∧zQ w9 (a5.add 3)∧¬ H2 (a5.add 3).block∧∀w10,w10=w9.setCell (a5.add 3) s1.v→∃(I1:Int→NP→WP) (mu1:Int→World→Nat),I1 (v6.len:Int) H2 w10∧∀(at1:Int) (Hl1:NP) (wl1:World),Hst w0 Hl1 wl1 Hl1 wl1→I1 at1 Hl1 wl1→m_N_l1 p1 at1 w0 Hl1 wl1 (fun y'0 H' w'=>I1 y'0 H' w'∧mu1 y'0 w'<mu1 at1 wl1) K)
theorem w_N (k1 t1 wrule1 wfrom1 w0 K) (h:m_N k1 t1 wrule1 wfrom1 w0 K):
  Calls prog 59 #[(vp k1),(vi t1),(.agg #[(vi wrule1),(vi wfrom1)])] w0 (fun e w'=>e=.returned (.tuple #[])∧K  w'):=by
 refine cw (args:=[(vp k1),(vi t1),(.agg #[(vi wrule1),(vi wfrom1)])]) func59 ntmps59 ?_
 obtain ⟨hs,hb⟩:=st0 w0
 refine eg (nw2 hs hb h xb fun p1 w1 hs hb h=>nw3 [(vi wrule1),(vi wfrom1)] 113 hs hb xb fun p2 w2 H1 hs hb=>ln (jA (eg ?_)))
 have ⟨h,hs⟩:=hs.hr (h H1 w2)
 refine ql (isAgg55 _) h fun v1 h=>qm h fun a1 h=>q (ql (isAgg107 _) h fun v2 h=>q ?_)
 obtain ⟨vrule1,vfrom1,ok1,hv23,h⟩:=h
 refine q2 (.tuple #[(.agg #[(vi vrule1),(vi vfrom1)]),(vb ok1)]) (kQ (by kernel_rfl) (by kernel_rfl) hv23) (qc (nw3 [(vi 0),(vi 0)] 113 hs hb (jT (zeroValue113 _) rfl) fun p3 w3 H2 hs hb=>sbx 0 [(vi vrule1),(vi vfrom1)] (sizeOf113 _) hs hb gZ fun w4 hs hb=>q (ln (eg (q (ln (cbr h ?_ ?_)))))))<;>intro h
 refine er (jW ?_)
 have ⟨h,hs⟩:=hs.hr (h H2 w4)
 refine jEE (.inl rfl) results59 ⟨rfl,h⟩
 refine jC (jJ (jA ?_))
 have ⟨h,hs⟩:=hs.hr (h H2 w4)
 obtain ⟨C1,hC,h⟩:=h
 refine dr2 (fun x=>C1 x∧HB H2 x _) [6] [6] ⟨hC,hb.drew⟩ h hs hb fun w5 hs hb h=>?_
 have hs:=hs.here
 refine qg 0 ?_
 obtain ⟨v3,hv22,h⟩:=h
 refine sy Kp0 (fun _ k=>xl (isAgg55 _) (hv22 _ k.1)) (qg 1 ?_)
 obtain ⟨a2,hp2,h⟩:=h
 refine sy Kp1 (fun _ _=>xn hp2) (qx 2 (vp (some (a2.add 2))) Kp2 (qg 3 ?_))
 obtain ⟨v4,hv21,h⟩:=h
 refine sy Kp3 (fun _ k=>xl (isAgg107 _) (hv21 _ k.1)) (qx 4 (vi t1) Kp4 (qz 5 (.agg #[(vi wrule1),(vi wfrom1)]) Kp5 (fun w' hw'=>(xa p2 [(vi wrule1),(vi wfrom1)] (isAgg113 _) (sizeOf113 _) (hw'.2.r0 1 2 (gS gZ)))) (lg 6 ?_)))
 obtain ⟨w6,hv20,hk,h⟩:=h
 refine xU Kp6 (jP rfl) (by kernel_rfl) (kW (by kernel_rfl) (by kernel_rfl) (by kernel_rfl) hv20) (.inl (by kernel_rfl)) ?_
 obtain ⟨hs,hb⟩:=hk.hh hs hb
 refine wn (jJ (eg (ql (isAgg55 _) h fun v5 h=>qm h fun a3 h=>q (ql (isAgg52 _) h fun v6 h=>qb (ln (jA ?_))))))
 obtain ⟨C2,hC,h⟩:=h
 refine dr2 (fun x=>C2 x∧HB H2 x _) [6,7,10] [10] ⟨hC,hb.drew⟩ h hs hb fun w7 hs hb h=>?_
 have hs:=hs.here
 refine qg 0 ?_
 obtain ⟨v7,hv17,h⟩:=h
 refine sy Kp0 (fun _ k=>xl (isAgg55 _) (hv17 _ k.1)) (qg 1 ?_)
 obtain ⟨v8,hv16,h⟩:=h
 refine sy Kp1 (fun _ k=>xl (isAgg55 _) (hv16 _ k.1)) (qg 2 ?_)
 obtain ⟨a4,hp4,h⟩:=h
 refine sy Kp2 (fun _ _=>xn hp4) (qx 3 (vp (some (a4.add 3))) Kp3 (qg 4 ?_))
 obtain ⟨v9,hv15,h⟩:=h
 refine sy Kp4 (fun _ k=>xl (isAgg52 _) (hv15 _ k.1)) (qx 5 (vi t1) Kp5 (lg 6 (uQ (O:=(.cells #[(vi t1)] 30)) (fun p=>(Sl.mk (some p) 1 1).v) Kp6 (jP rfl) (by kernel_rfl) (zM (vs:=#[(0,(vi t1))]) (by kernel_rfl) (by kernel_rfl)) ?_)))
 intro p4 w8 hn11
 have h:=h p4 w8 hn11
 refine ⟨.inr ⟨h.1,hb.kept (Ext.new (F:=None) hn11).keptP⟩,?_⟩
 have h:=h.2
 obtain ⟨hs,hb⟩:=hs.nw hb hn11
 refine lg 7 ?_
 obtain ⟨s1,w9,hv14,hC,hk,h⟩:=h
 refine sl (v:=s1.v) Kp7 (jP rfl) (by kernel_rfl) (zH (args:=#[v9.v,(Sl.mk (some p4) 1 1).v]) (by kernel_rfl) (fun _=>rfl) hv14) (.inr ⟨hC,hb.kept hk⟩) ?_
 obtain ⟨hs,hb⟩:=hk.hh hs hb
 refine qg 8 ?_
 obtain ⟨a5,hp5,h⟩:=h
 refine sy Kp8 (fun _ _=>xn hp5) (qx 9 (vp (some (a5.add 3))) Kp9 (lg 10 ?_))
 obtain ⟨hp6,hnh,h⟩:=h
 refine sl_t (jL (S8 (jE (jE jK)))) (xs (v:=s1.v) (sizeOf52 _) hp6) ?_
 intro w10 hn4
 have h:=h w10 hn4
 refine ⟨.inl (by kernel_rfl),?_⟩
 have hk:=Kept.sc hnh hn4
 obtain ⟨hs,hb⟩:=hk.hh hs hb
 refine wn (jJ (jF ?_))
 obtain ⟨I1,mu1,h0,hr⟩:=h
 refine zI (σ:=Int×NP×World) (fun s ρ w=>w=s.2.2∧Has ρ [(3,(vp (some p1))),(8,(vi s.1))]∧Hst w0 s.2.1 w s.2.1 w∧HB s.2.1 w [(p3,[(vi vrule1),(vi vfrom1)],113),(p2,[(vi wrule1),(vi wfrom1)],113)]∧I1 s.1 s.2.1 s.2.2) (fun s=>mu1 s.1 s.2.2) ((v6.len:Int),H2,w10) ⟨rfl,hm,hs,hb,h0⟩ ?_
 rintro ⟨at1,Hl1,wl1⟩ ρ w ⟨hw,hH,hs,hb,hI⟩
 dsimp only at hw hH hs hb;subst w
 have h:=hr at1 Hl1 wl1 hs hI
 refine jO hH (jA (eg (q (ql (isAgg55 _) h fun v10 h=>qm h fun a6 h=>q (ql (isAgg52 _) h fun v11 h=>qb (ln (cbr h ?_ ?_)))))))<;>intro h
 refine jC (jJ (jA (jF (eg (ql (isAgg55 _) h fun v12 h=>qm h fun a7 h=>q (ql (isAgg52 _) h fun v13 h=>q (qi (runUnderlying52 _) (sizeOf30 _) h fun a8 h=>ql (isAgg30 _) h fun v14 h=>sn (O:=(.cells #[(vi 0)] 30)) (jT (zeroValue30 _) rfl) ?_)))))))
 intro p5 w11 hn10
 have h:=h p5 w11 hn10
 obtain ⟨hs,hb⟩:=hs.nw hb hn10
 refine st2 (sizeOf30 _) hs hb h fun w12 hs hb h=>ln (jA (zX (fun ρ w=>∃a9:Addr,∃H:NP,Has ρ [(3,(vp (some p1))),(8,(vi at1)),(9,(vp (some p5))),(10,(vp (some a9)))]∧Hst w0 H w H w∧HB H w [(p3,[(vi vrule1),(vi vfrom1)],113),(p2,[(vi wrule1),(vi wfrom1)],113)]∧m_N_j2 p1 at1 p5 a9 w0 H w (fun y'0 H' w'=>I1 y'0 H' w'∧mu1 y'0 w'<mu1 at1 wl1) K) ?_ ?_))
 rintro ρ w ⟨a9,H,hH,hs,hb,h⟩
 refine jO hH (eg (qb (ln (eg (q (ql (isAgg3 _) h fun v15 h=>ln (jF (eg (qb (ln (cbr h ?_ ?_)))))))))))<;>intro h
 refine eg (qb (ql (isAgg30 _) h fun v16 h=>jV (jP rfl) (xL (fs:=#[]) (caps:=#[(vp (some p1)),(vp (some p5))]) (args:=#[(vi v16),(vi 1)]) (args':=#[(vi v16),(vi 1),(vp (some p1)),(vp (some p5))]) (by kernel_rfl) call97 (by kernel_rfl) (by kernel_rfl)) (h.mono ?_)))
 rintro e w13 ⟨rfl,hk,h⟩
 refine ⟨_,rfl,?_⟩
 obtain ⟨hs,hb⟩:=hk.hh hs hb
 refine ln (rg (qb (ql (isAgg30 _) h fun v17 h=>jV (jP rfl) (xL (fs:=#[]) (caps:=#[(vp (some p1)),(vp (some p5))]) (args:=#[(vi v17),(vi 2)]) (args':=#[(vi v17),(vi 2),(vp (some p1)),(vp (some p5))]) (by kernel_rfl) call97 (by kernel_rfl) (by kernel_rfl)) (h.mono ?_))))
 rintro e w14 ⟨rfl,hk,h⟩
 refine ⟨_,rfl,?_⟩
 obtain ⟨hs,hb⟩:=hk.hh hs hb
 refine jB (kD (kD (jJ (rg (qc (ln ⟨((q6.wrap (at1+1)),H,w14),⟨rfl,hm,hs,hb,h.1⟩,h.2⟩))))))
 refine jA (eg (qb (ln (zC (fun ρ wJ=>∃b1'0 b1'1 y1:Bool,∃HJ:NP,((v15 == 7)=b1'0)∧((v15 == 8)=b1'1)∧(y1=(cond b1'0 (v15 == 7) (cond b1'1 (v15 == 8) (v15 == 9))))∧Hst w0 H w HJ wJ∧HB HJ wJ [(p3,[(vi vrule1),(vi vfrom1)],113),(p2,[(vi wrule1),(vi wfrom1)],113)]∧Has ρ [(3,(vp (some p1))),(8,(vi at1)),(10,(vp (some a9))),(12,(.func (.func 97) #[] #[(vp (some p1)),(vp (some p5))])),(82,(vb y1))]) ?_ ?_))))
 refine jZ (t:=(v15 == 7)) (by kernel_rfl) (fun hc6=>?_) (fun hc6=>?_)
 refine jC (jJ ⟨true,_,_,_,hc6,rfl,rfl,hs,hb,hm⟩)
 refine eg (qb (ln (jZ (t:=(v15 == 8)) (by kernel_rfl) (fun hc7=>?_) (fun hc7=>?_))))
 refine jC (jJ ⟨false,true,_,_,hc6,hc7,rfl,hs,hb,hm⟩)
 refine rg (qb (ln ⟨false,false,_,_,hc6,hc7,rfl,hs,hb,hm⟩))
 rintro ρ w15 ⟨b1'0,b1'1,y1,H3,he0,he1,hy1,hs,hb,hH⟩
 subst he0
 subst he1
 have h:=h y1 hy1
 refine jQ hH (jJ (cbr h ?_ ?_))<;>intro h
 refine rg (qb ?_)
 have ⟨h,hs⟩:=hs.hr (h H3 w15)
 refine ql (isAgg30 _) h fun v18 h=>jV (jP rfl) (xL (fs:=#[]) (caps:=#[(vp (some p1)),(vp (some p5))]) (args:=#[(vi v18),(vi 3)]) (args':=#[(vi v18),(vi 3),(vp (some p1)),(vp (some p5))]) (by kernel_rfl) call97 (by kernel_rfl) (by kernel_rfl)) (h.mono ?_)
 rintro e w16 ⟨rfl,hk,h⟩
 refine ⟨_,rfl,?_⟩
 obtain ⟨hs,hb⟩:=hk.hh hs hb
 refine jB (kD (kD (jJ (rg (qc (ln ⟨((q6.wrap (at1+1)),H3,w16),⟨rfl,hm,hs,hb,h.1⟩,h.2⟩))))))
 refine jC (kD (kD (jJ (rg (qc (jB ?_))))))
 have ⟨h,hs⟩:=hs.hr (h H3 w15)
 refine jJ ⟨((q6.wrap (at1+1)),H3,w15),⟨rfl,hm,hs,hb,h.1⟩,h.2⟩
 obtain ⟨C3,hC,h⟩:=h
 refine dr2 (fun x=>C3 x∧HB Hl1 x _) [5,9,10] [] ⟨hC,hb.drew⟩ h hs hb fun w17 hs hb h=>?_
 have hs:=hs.here
 refine qg 0 ?_
 obtain ⟨v19,hv7,h⟩:=h
 refine sy Kp0 (fun _ k=>xl (isAgg55 _) (hv7 _ k.1)) (qg 1 ?_)
 obtain ⟨a10,hp10,h⟩:=h
 refine sy Kp1 (fun _ _=>xn hp10) (qx 2 (vp (some a10)) Kp2 (qg 3 ?_))
 obtain ⟨v20,hv6,h⟩:=h
 refine sy Kp3 (fun _ k=>xl (isAgg26 _) (hv6 _ k.1)) (qg 4 ?_)
 obtain ⟨v21,hv5,h⟩:=h
 refine sy Kp4 (fun _ k=>xl (isAgg30 _) (hv5 _ k.1)) (lgo2 (k:=5) (k':=9) (by kernel_rfl) ?_ ?_)
 have h:=h.1
 refine slc Kp5 call43 (h.mono ?_)
 rintro e w18 ⟨aA,aG,aI,aK,aL,aC,aF,r1,rfl,hC,hk,h⟩
 refine ⟨_,rfl,.inr ⟨hC,hb.kept hk⟩,?_⟩
 obtain ⟨hs,hb⟩:=hk.hh hs hb
 refine qx 6 (.tuple #[(Ab aA aG aI aK aL aC aF),(vb r1)]) Kp6 (qx 7 (Ab aA aG aI aK aL aC aF) Kp7 (qx 8 (vb r1) Kp8 (lg 9 (uQ (O:=(.cells #[(vi 0),(vi 0),(vi 0),(vu 0),ve,(vi 0),(vi 0)] 86)) (fun p=>.pointer (some p)) Kp9 (jP rfl) (by kernel_rfl) (jT (zeroValue86 _) rfl) ?_))))
 intro p6 w19 hn7
 have h:=h p6 w19 hn7
 refine ⟨.inr ⟨h.1,hb.kept (Ext.new (F:=None) hn7).keptP⟩,?_⟩
 have h:=h.2
 obtain ⟨hs,hb⟩:=hs.nw hb hn7
 refine lg 10 ?_
 obtain ⟨hp11,hnh,h⟩:=h
 refine jBS (jL (S8 (jE (jE jK)))) (jP rfl) (by kernel_rfl) (xo p6 (Aa aA aG aI aK aL aC aF) (sizeOf86 _) hp11) ?_
 intro w20 hn6
 have h:=h w20 hn6
 refine ⟨.inr ⟨h.1,hb.kept (by rw [hn6];exact Kept.storeRow hnh)⟩,?_⟩
 have h:=h.2
 have hk:Kept Hl1 w19 w20:=by rw [hn6];exact Kept.storeRow hnh
 obtain ⟨hs,hb⟩:=hk.hh hs hb
 refine qx 11 (vb r1) (jL (S8 (jE (jE (jE jK))))) (wn (jJ ⟨p6,Hl1,hm,hs,hb,h⟩))
 have h:=h.2
 refine uQ (O:=(.cells #[(vi 0),(vi 0),(vi 0),(vu 0),ve,(vi 0),(vi 0)] 86)) (fun p=>.pointer (some p)) Kp9 (jP rfl) (by kernel_rfl) (jT (zeroValue86 _) rfl) ?_
 intro p7 w21 hn9
 have h:=h p7 w21 hn9
 refine ⟨.inr ⟨h.1,hb.kept (Ext.new (F:=None) hn9).keptP⟩,?_⟩
 have h:=h.2
 obtain ⟨hs,hb⟩:=hs.nw hb hn9
 refine lg 5 (slc Kp5 call43 (h.mono ?_))
 rintro e w22 ⟨aZ,bA,bB,bC,bD,bE,bF,r2,rfl,hC,hk,h⟩
 refine ⟨_,rfl,.inr ⟨hC,hb.kept hk⟩,?_⟩
 obtain ⟨hs,hb⟩:=hk.hh hs hb
 refine qx 6 (.tuple #[(Ab aZ bA bB bC bD bE bF),(vb r2)]) Kp6 (qx 7 (Ab aZ bA bB bC bD bE bF) Kp7 (qx 8 (vb r2) Kp8 (lg 10 ?_)))
 obtain ⟨hp12,hnh,h⟩:=h
 refine jBS (jL (S8 (jE (jE jK)))) (jP rfl) (by kernel_rfl) (xo p7 (Aa aZ bA bB bC bD bE bF) (sizeOf86 _) hp12) ?_
 intro w23 hn8
 have h:=h w23 hn8
 refine ⟨.inr ⟨h.1,hb.kept (by rw [hn8];exact Kept.storeRow hnh)⟩,?_⟩
 have h:=h.2
 have hk:Kept Hl1 w22 w23:=by rw [hn8];exact Kept.storeRow hnh
 obtain ⟨hs,hb⟩:=hk.hh hs hb
 refine qx 11 (vb r2) (jL (S8 (jE (jE (jE jK))))) (wn (jJ ⟨p7,Hl1,hm,hs,hb,h⟩))
 refine zE (kP (kP (kO (jEE (.inr rfl) results59 ⟨rfl,h⟩))))
def m_M1 (k1:Option Addr) (t1:Int) (w0:World) (K:Int→WP):Prop :=Br (Option.isNone k1) (K 7 w0) (∃a1,k1=some a1∧∃v1,w0.cell? a1=some (vp v1)∧Calls prog 43 #[(vp v1),(vi t1)] w0 (fun e w1=>∃aA aG aI aK aL aC aF r1,e=.returned (.tuple #[(Ab aA aG aI aK aL aC aF),(vb r1)])∧Kept None w0 w1∧Br (!r1) (∀H1 w3,Hst w0 None w1 H1 w3→K 51 w3) (∃a2,k1=some a2∧∀H1 w3,Hst w0 None w1 H1 w3→∃v2:Sl,w3.cell? (a2.add 1)=some v2.v∧Calls prog 58 #[v2.v,(vi t1)] w3 (fun e w4=>∃r2,e=.returned (vb r2)∧Kept H1 w3 w4∧Br (!r2) (∃a3,k1=some a3∧∃v3:Sl,w4.cell? (a3.add 1)=some v3.v∧∀p2 w5,New w4 (.cells #[(vi t1)] 30) p2 w5→∃s1:Sl,∃w6:World,(Builtin.append_ #[52,52] 52 #[v3.v,(Sl.mk (some p2) 1 1).v]).run prog w5=.ok s1.v w6∧Kept H1 w5 w6∧∃a4,k1=some a4∧zQ w6 (a4.add 1)∧¬ H1 (a4.add 1).block∧∀w7,w7=w6.setCell (a4.add 1) s1.v→Calls prog 59 #[(vp k1),(vi t1),(.agg #[(vi 0),(vi 0)])] w7 (fun e w8=>e=.returned (.tuple #[])∧Kept H1 w7 w8∧K 0 w8)) (Calls prog 59 #[(vp k1),(vi t1),(.agg #[(vi 0),(vi 0)])] w4 (fun e w9=>e=.returned (.tuple #[])∧Kept H1 w4 w9∧K 0 w9))))))
theorem w_M1 (k1 t1 w0 K) (h:m_M1 k1 t1 w0 K):
  Calls prog 23 #[(vp k1),(vi t1)] w0 (fun e w'=>∃r3,e=.returned (vi r3)∧K r3 w'):=by
 refine cw (args:=[(vp k1),(vi t1)]) func23 ntmps23 ?_
 obtain ⟨hs,hb⟩:=st0 w0
 refine eg (q (ln (jA (eg (q (q2 (vb (Option.isNone k1)) (kC (by kernel_rfl) rfl underlying55) (ln (cbr h ?_ ?_))))))))<;>intro h
 refine eg (q (ln (er (jW (rs1 results23 ⟨7,rfl,h⟩)))))
 refine jC (jJ (jA (eg (q (qm h fun a1 h=>q (ql (isAgg26 _) h fun v1 h=>q (sc call43 (h.mono fun e w1 ⟨aA,aG,aI,aK,aL,aC,aF,r1,k,hk,h⟩=>have ⟨hs,hb⟩:=hk.hh hs hb;⟨_,k,?_⟩))))))))
 refine qc (nw3 (Ag 0 0 0 0 0 0) 86 hs hb (jT (zeroValue86 _) rfl) fun p1 w2 H1 hs hb=>sbx 0 (Aa aA aG aI aK aL aC aF) (sizeOf86 _) hs hb gZ fun w3 hs hb=>q (ln (eg (qb (ln (cbr h ?_ ?_))))))<;>intro h
 refine eg (q (ln (er (jW ?_))))
 have ⟨h,hs⟩:=hs.hr (h H1 w3)
 refine rs1 results23 ⟨51,rfl,h⟩
 refine jC (jJ (jA (eg (q (qm h fun a2 h=>q ?_)))))
 have ⟨h,hs⟩:=hs.hr (h H1 w3)
 refine ql (isAgg52 _) h fun v2 h=>q (sc call58 (h.mono fun e w4 ⟨r2,k,hk,h⟩=>have ⟨hs,hb⟩:=hk.hh hs hb;⟨_,k,?_⟩))
 refine q (ln (cbr h ?_ ?_))<;>intro h
 refine rg (qb (qm h fun a3 h=>q (ql (isAgg52 _) h fun v3 h=>q (vU (O:=(.cells #[(vi t1)] 30)) (fun p=>(Sl.mk (some p) 1 1).v) (jP rfl) (zM (vs:=#[(0,(vi t1))]) (by kernel_rfl) (by kernel_rfl)) ?_))))
 intro p2 w5 hn4
 have h:=h p2 w5 hn4
 obtain ⟨hs,hb⟩:=hs.nw hb hn4
 obtain ⟨s1,w6,hv1,hk,h⟩:=h
 refine st (v:=s1.v) (jP rfl) (zH (args:=#[v3.v,(Sl.mk (some p2) 1 1).v]) (by kernel_rfl) (fun _=>rfl) hv1) ?_
 obtain ⟨hs,hb⟩:=hk.hh hs hb
 refine qm h fun a4 h=>q (st2 (sizeOf52 _) hs hb h fun w7 hs hb h=>ln (eg (qc (sc call59 (h.mono fun e w8 ⟨k,hk,h⟩=>have ⟨hs,hb⟩:=hk.hh hs hb;⟨_,k,?_⟩)))))
 refine ln (eg (q (ln (er (rs1 results23 ⟨0,rfl,h⟩)))))
 refine jC (jJ (eg (qc (sc call59 (h.mono fun e w9 ⟨k,hk,h⟩=>have ⟨hs,hb⟩:=hk.hh hs hb;⟨_,k,?_⟩)))))
 refine ln (eg (q (ln (er (rs1 results23 ⟨0,rfl,h⟩)))))
def m_N1 (k1:Option Addr) (t1:Int) (w0:World) (K:Sl→Bool→WP):Prop :=∀p1 w1,New w0 (.cells #[(vp k1)] 55) p1 w1→∃v1,w1.cell? p1=some (vp v1)∧Br (Option.isNone v1) (K Sl.nil false w1) (∀p2 w2,New w1 (.cells #[Sl.nil.v] 101) p2 w2→∀p3 w3,New w2 (.map #[] 0) p3 w3→∀p4 w4,New w3 (.cells #[(.map none)] 152) p4 w4→zQ w4 p4∧∀w5,w5=w4.setCell p4 (.map (some p3.block))→∀p5 w6,New w5 (.map #[] 0) p5 w6→∀p6 w7,New w6 (.cells #[(.map none)] 153) p6 w7→zQ w7 p6∧∀w8,w8=w7.setCell p6 (.map (some p5.block))→∀p7 w9,New w8 (.cells #[(.nilFunc:Value)] 154) p7 w9→zQ w9 p7∧∀w10,w10=w9.setCell p7 (.func (.func 92) #[] #[(vp (some p4)),(vp (some p6)),(vp (some p1)),(vp (some p7)),(vp (some p2))])→∃v2:Value,w10.cell? p7=some v2∧∃(f1:FuncId) (fs1 cs1:Array Value),v2=.func (.func f1) fs1 cs1∧(∀args w,(callFunc f1 args).run prog w=.ok (.enter f1 args) w)∧Calls prog f1 (fs1++#[(vi t1)]++cs1) w10 (fun e w11=>∃r1 r2,e=.returned (.tuple #[(vi r1),(vb r2)])∧Br (!r2) (K Sl.nil false w11) (∃v3:Sl,w11.cell? p2=some v3.v∧K v3 true w11)))
theorem w_N1 (k1 t1 w0 K) (h:m_N1 k1 t1 w0 K):
  Calls prog 51 #[(vp k1),(vi t1)] w0 (fun e w'=>∃r3:Sl,∃r4,e=.returned (.tuple #[r3.v,(vb r4)])∧K r3 r4 w'):=by
 refine cw (args:=[(vp k1),(vi t1)]) func51 ntmps51 (eg (sn (O:=(.cells #[(vp k1)] 55)) xb ?_))
 intro p1 w1 hn10
 have h:=h p1 w1 hn10
 refine qb (ln (jA (eg (ql (isAgg55 _) h fun v1 h=>q2 (vb (Option.isNone v1)) (kC (by kernel_rfl) rfl underlying55) (ln (cbr h ?_ ?_))))))<;>intro h
 refine eg (qb (ln (er (jW (vD (.inl rfl) results51 (v:=Sl.nil.v) (by kernel_rfl) (v':=(vb false)) (by kernel_rfl) ⟨Sl.nil,false,rfl,h⟩)))))
 refine jC (jJ (eg (nw1 h (jT (zeroValue101 _) rfl) fun p2 w2 h=>ln (eg (nw4 (fun p=>.map (some p.block)) h fun p3 w3 h=>nw1 h (jT (zeroValue152 _) rfl) fun p4 w4 h=>st1 (sizeOf152 _) h fun w5 h=>ln (eg (nw4 (fun p=>.map (some p.block)) h fun p5 w6 h=>nw1 h (jT (zeroValue153 _) rfl) fun p6 w7 h=>st1 (sizeOf153 _) h fun w8 h=>ln (eg (nw1 h (jT (zeroValue154 _) rfl) fun p7 w9 h=>ln (eg (q (st1 (sizeOf154 _) h fun w10 h=>ln (jA (eg (ql (isAgg154 _) h fun v2 h=>q ?_)))))))))))))))
 obtain ⟨f1,fs1,cs1,hp4,h⟩:=h
 obtain ⟨hf1,h⟩:=h
 refine jV (jP rfl) (uF (fs:=fs1) (caps:=cs1) (args:=#[(vi t1)]) (by kernel_rfl) hp4 hf1 (by kernel_rfl) rfl) (h.mono ?_)
 rintro e w11 ⟨r1,r2,rfl,h⟩
 refine ⟨_,rfl,?_⟩
 refine q (qd (ln (eg (qb (jB (jJ (cbr h ?_ ?_)))))))<;>intro h
 refine eg (qb (ln (er (jW (vD (.inl rfl) results51 (v:=Sl.nil.v) (by kernel_rfl) (v':=(vb false)) (by kernel_rfl) ⟨Sl.nil,false,rfl,h⟩)))))
 refine jC (jJ (eg (ql (isAgg101 _) h fun v3 h=>qb (ln (er (vD (.inl rfl) results51 (v:=v3.v) (by kernel_rfl) (v':=(vb true)) (by kernel_rfl) ⟨v3,true,rfl,h⟩))))))
def s_A (kind1 rule1:Int):Bool×Bool :=(((cond (rule1 == 1) (rule1 == 1) (cond (rule1 == 2) (rule1 == 2) (rule1 == 3))) || (rule1 == 5)),(!(cond (rule1 == 1) (rule1 == 1) (cond (rule1 == 2) (rule1 == 2) (rule1 == 3))) && ((rule1 == 5) && (kind1 != 5))))
theorem pw_A (kind1 rule1:Int) (w0:World) :
  Calls prog 138 #[(vi kind1),(vi rule1)] w0 (fun e w'=>∃b'0 b'1:Bool,((cond (rule1 == 1) (rule1 == 1) (cond (rule1 == 2) (rule1 == 2) (rule1 == 3)))=b'0∧(rule1 == 5)=b'1)∧(e=.returned (.tuple #[(vb (b'0 || b'1)),(vb (!b'0 && (b'1 && (kind1 != 5))))]))∧Pure w0 w'):=by
 refine cw (args:=[(vi kind1),(vi rule1)]) func138 ntmps138 (eg (q0 (vb false) (q0 (vb false) (ln (jA (eg (q0 (vi rule1) (jB ?_))))))))
 refine jJ (jF (jA (eg (qb (ln (zC (fun ρ wJ=>∃b1'0 b1'1:Bool,((rule1 == 1)=b1'0)∧((rule1 == 2)=b1'1)∧w0=wJ∧Has ρ [(0,(vi kind1)),(6,(vi rule1)),(7,(vb (cond b1'0 (rule1 == 1) (cond b1'1 (rule1 == 2) (rule1 == 3)))))]) ?_ ?_))))))
 refine jZ (t:=(rule1 == 1)) (by kernel_rfl) (fun hc3=>?_) (fun hc3=>?_)
 refine jC (jJ ⟨true,_,hc3,rfl,rfl,hm⟩)
 refine eg (qb (ln (jZ (t:=(rule1 == 2)) (by kernel_rfl) (fun hc4=>?_) (fun hc4=>?_))))
 refine jC (jJ ⟨false,true,hc3,hc4,rfl,hm⟩)
 refine rg (qb (ln ⟨false,false,hc3,hc4,rfl,hm⟩))
 rintro ρ w1 ⟨b1'0,b1'1,he0,he1,hw,hH⟩
 subst he0
 subst he1
 subst hw
 refine jQ hH (jJ (jZ (t:=(cond (rule1 == 1) (rule1 == 1) (cond (rule1 == 2) (rule1 == 2) (rule1 == 3)))) (by kernel_rfl) (fun hc5=>?_) (fun hc5=>?_)))
 refine eg (qb (ln (er (kG (jW (vD (.inl rfl) results138 (v:=(vb true)) (by kernel_rfl) (v':=(vb false)) (by kernel_rfl) ⟨true,_,⟨hc5,rfl⟩,by kernel_rfl,Ext.refl _⟩))))))
 refine eg (qb (ln (jZ (t:=(rule1 == 5)) (by kernel_rfl) (fun hc6=>?_) (fun hc6=>?_))))
 refine eg (qd (ln (er (kG (jW (vD (.inl rfl) results138 (v:=(vb true)) (by kernel_rfl) (v':=(vb (kind1 != 5))) (by kernel_rfl) ⟨false,true,⟨hc5,hc6⟩,by kernel_rfl,Ext.refl _⟩))))))
 refine jC (kD (jJ (eg (qb (ln (er (vD (.inl rfl) results138 (v:=(vb false)) (by kernel_rfl) (v':=(vb false)) (by kernel_rfl) ⟨false,false,⟨hc5,hc6⟩,by kernel_rfl,Ext.refl _⟩)))))))
theorem p_A (kind1 rule1:Int) (w0:World):Calls prog 138 #[(.int .i64 kind1),(.int .i64 rule1)] w0 (fun e w'=>e=.returned (.tuple #[(.bool (s_A kind1 rule1).1),(.bool (s_A kind1 rule1).2)])∧Pure w0 w'):=by
 refine (pw_A kind1 rule1 w0).mono ?_;rintro e w' ⟨b'0,b'1,⟨e0,e1⟩,h,E⟩;subst e0;subst e1;exact ⟨h,E⟩
def m_H_j3 (l1:Sl) (aD aC:Int) (aP aO who1:Int) (w0:World) (H:NP) (w:World) (K:Bool→WP):Prop :=∃a2:Addr,At l1 aD 4 a2∧∀w57,Hst w0 H w H w57→∃v1,w57.cell? (a2.add 3)=some (vi v1)∧Br (v1 == aC) (Br (aP == 6) (K (aO == who1) w57) (K false w57)) (K false w57)
def m_H_j2 (given1 l1:Sl) (aB aD:Int) (aH aJ:Int) (aA aG:Int) (aI aC:Int) (aF aE:Int) (aM aN:Int) (aP aO:Int) (aU aV:Int) (aW:ByteArray) (aX aY:Int) (w0:World) (H:NP) (w:World) (K:Bool→WP):Prop :=Br (aB == 0) (Calls prog 58 #[given1.v,(vi aJ)] w (fun e w38=>∃r2,e=.returned (vb r2)∧Kept H w w38∧K r2 w38)) (Br (aB == 1) (∀H35 w40,Hst w0 H w H35 w40→K ((aE == 4) && (aM == aJ)) w40) (Br (aB == 2) (∀H38 w43,Hst w0 H w H38 w43→K ((aE == 4) && (aN == aJ)) w43) (Br (aB == 3) (∀H43 w48,Hst w0 H w H43 w48→K ((((aE == 7) || (aE == 8)) || (aE == 9)) && (aM == aJ)) w48) (Br (aB == 4) (∀H49 w54,Hst w0 H w H49 w54→K (((aA == 1) || (aA == 2)) || (aA == 3)) w54) (Br (aB == 5) (Br (aA == 4) (∃a3:Addr,At l1 aD 4 a3∧∀w58,Hst w0 H w H w58→∃v2,w58.cell? (a3.add 3)=some (vi v2)∧Br (v2 == aC) (∃a4:Addr,At l1 aH 4 a4∧∃v3,w58.cell? (a4.add 3)=some (vi v3)∧K (v3 == aF) w58) (K false w58)) (Br (aA == 5) (∃a5:Addr,At l1 aD 4 a5∧∀w59,Hst w0 H w H w59→∃v4,w59.cell? (a5.add 3)=some (vi v4)∧K (v4 == aC) w59) (Br (aA == 9) (m_H_j3 l1 aD aC aP aO aI w0 H w K) (Br (cond (aA == 7) (aA == 7) (aA == 8)) (∀H52 w60,Hst w0 H w H52 w60→m_H_j3 l1 aD aC aP aO aG w0 H52 w60 K) (∀H52 w60,Hst w0 H w H52 w60→K false w60))))) (K false w))))))
def m_H_j1 (p1:Option Addr) (given1 l1:Sl) (aB aD:Int) (aH aJ:Int) (aA aG:Int) (aI aC:Int) (aF aE:Int) (aQ aR aS:Int) (aT:ByteArray) (aM aN:Int) (w0:World) (H:NP) (w:World) (K:Bool→WP):Prop :=Br ((s_A aA aB).2) (∃a6:Addr,At l1 aH 4 a6∧∃v5,w.cell? (a6.add 3)=some (vi v5)∧Calls prog 43 #[(vp p1),(vi v5)] w (fun e w61=>∃aZ bA bB bC bD bE bF r3,e=.returned (.tuple #[(Ab aZ bA bB bC bD bE bF),(vb r3)])∧Kept H w w61∧∀w62,Hst w0 H w61 H w62→m_H_j2 given1 l1 aB aD aH aJ aA aG aI aC aF aE aM aN aZ bA bB bC bD bE bF w0 H w62 K)) (m_H_j2 given1 l1 aB aD aH aJ aA aG aI aC aF aE aM aN 0 0 0 0 ⟨#[]⟩ 0 0 w0 H w K)
def m_H (p1:Option Addr) (given1 l1:Sl) (i1:Int) (w0:World) (K:Bool→WP):Prop :=∃a1:Addr,At l1 i1 4 a1∧∃aB aD aH aJ,Row w0 a1 (Ad aB aD aH aJ)∧∀H1 w2,Hst w0 None w0 H1 w2→Calls prog 43 #[(vp p1),(vi aJ)] w2 (fun e w3=>∃aA aG aI aK aL aC aF r1,e=.returned (.tuple #[(Ab aA aG aI aK aL aC aF),(vb r1)])∧Kept H1 w2 w3∧Br (!r1) (∀H2 w5,Hst w0 H1 w3 H2 w5→K false w5) (∀y1:Bool,y1=((((((s_A aA aB).1) && ((decide (aD<0)) || (decide (aD≥i1)))) || ((!((s_A aA aB).1)) && (aD != 0))) || (((s_A aA aB).2) && ((decide (aH<0)) || (decide (aH≥i1))))) || ((!((s_A aA aB).2)) && (aH != 0)))→Br y1 (∀H17 w21,Hst w0 H1 w3 H17 w21→K false w21) (Br ((s_A aA aB).1) (∃a7:Addr,At l1 aD 4 a7∧∀H33 w37,Hst w0 H1 w3 H33 w37→∃v6,w37.cell? (a7.add 3)=some (vi v6)∧Calls prog 43 #[(vp p1),(vi v6)] w37 (fun e w63=>∃bJ bK bL bM bN bO bP r4,e=.returned (.tuple #[(Ab bJ bK bL bM bN bO bP),(vb r4)])∧Kept H33 w37 w63∧∀w64,Hst w0 H33 w63 H33 w64→m_H_j1 p1 given1 l1 aB aD aH aJ aA aG aI aC aF bJ bK bL bM bN bO bP w0 H33 w64 K)) (∀H33 w37,Hst w0 H1 w3 H33 w37→m_H_j1 p1 given1 l1 aB aD aH aJ aA aG aI aC aF 0 0 0 0 ⟨#[]⟩ 0 0 w0 H33 w37 K))))
theorem w_H (p1 given1 l1 i1 w0 K) (h:m_H p1 given1 l1 i1 w0 K):
  Calls prog 94 #[(vp p1),given1.v,l1.v,(vi i1)] w0 (fun e w'=>∃r5,e=.returned (vb r5)∧K r5 w'):=by
 refine cw (args:=[(vp p1),given1.v,l1.v,(vi i1)]) func94 ntmps94 ?_
 obtain ⟨hs,hb⟩:=st0 w0
 refine eg (q (ln (eg (qb (qi (runUnderlying101 _) (sizeOf157 _) h fun a1 h=>?_)))))
 obtain ⟨aB,aD,aH,aJ,hv13,h⟩:=h
 refine qa (isAgg157 _) (sizeOf157 _) hv13 (nw3 (Ad 0 0 0 0) 157 hs hb (jT (zeroValue157 _) rfl) fun p2 w1 H1 hs hb=>sbx 0 (Ad aB aD aH aJ) (sizeOf157 _) hs hb gZ fun w2 hs hb=>ln (eg (qb (q3 (xl (isAgg30 _) (hb.d 0 3 gZ)) ?_))))
 have ⟨h,hs⟩:=hs.hr (h H1 w2)
 refine sc call43 (h.mono fun e w3 ⟨aA,aG,aI,aK,aL,aC,aF,r1,k,hk,h⟩=>have ⟨hs,hb⟩:=hk.hh hs hb;⟨_,k,?_⟩)
 refine qc (nw3 (Ag 0 0 0 0 0 0) 86 hs hb (jT (zeroValue86 _) rfl) fun p3 w4 H2 hs hb=>sbx 0 (Aa aA aG aI aK aL aC aF) (sizeOf86 _) hs hb gZ fun w5 hs hb=>q (ln (jA (eg (qb (ln (cbr h ?_ ?_)))))))<;>intro h
 refine eg (q (ln (er (jW ?_))))
 have ⟨h,hs⟩:=hs.hr (h H2 w5)
 refine rs1 results94 ⟨false,rfl,h⟩
 refine jC (jJ (eg (q (q3 (xl (isAgg3 _) (hb.d0 0 gZ)) (q (q3 (xl (isAgg3 _) (hb.d0 1 (gS gZ))) (sc call138 ((p_A aA aB w5).mono ?_))))))))
 rintro e w6 ⟨he,hE⟩
 refine ⟨_,he,?_⟩
 obtain ⟨hs,hb⟩:=hs.pp hb hE
 refine q (qd (ln (jA (jA (zC (fun ρ wJ=>∃b15'0 y1:Bool,∃HJ:NP,((((((s_A aA aB).1) && ((decide (aD<0)) || (decide (aD≥i1)))) || ((!((s_A aA aB).1)) && (aD != 0))) || (((s_A aA aB).2) && ((decide (aH<0)) || (decide (aH≥i1)))))=b15'0)∧(y1=(b15'0 || ((!((s_A aA aB).2)) && (aH != 0))))∧Hst w0 H1 w3 HJ wJ∧HB HJ wJ [(p3,(Aa aA aG aI aK aL aC aF),86),(p2,(Ad aB aD aH aJ),157)]∧Has ρ [(0,(vp p1)),(1,given1.v),(2,l1.v),(9,(vp (some p2))),(10,(vp (some p3))),(12,(vb (s_A aA aB).1)),(13,(vb (s_A aA aB).2)),(81,(vb y1))]) ?_ ?_)))))
 refine rg (qb (jH 10 (fun ρ wJ=>∃b17'0:Bool,∃HJ:NP,((s_A aA aB).1=b17'0)∧Hst w0 H1 w3 HJ wJ∧HB HJ wJ [(p3,(Aa aA aG aI aK aL aC aF),86),(p2,(Ad aB aD aH aJ),157)]∧Has ρ [(0,(vp p1)),(1,given1.v),(2,l1.v),(3,(vi i1)),(9,(vp (some p2))),(10,(vp (some p3))),(12,(vb (s_A aA aB).1)),(13,(vb (s_A aA aB).2)),(49,(vb (b17'0 && ((decide (aD<0)) || (decide (aD≥i1))))))]) ?_ ?_))
 rintro ρ w23 ⟨b17'0,H19,he0,hs,hb,hH⟩
 subst he0
 refine jM hH (q (jH 8 (fun ρ wJ=>∃b20'0:Bool,∃HJ:NP,((((s_A aA aB).1) && ((decide (aD<0)) || (decide (aD≥i1))))=b20'0)∧Hst w0 H1 w3 HJ wJ∧HB HJ wJ [(p3,(Aa aA aG aI aK aL aC aF),86),(p2,(Ad aB aD aH aJ),157)]∧Has ρ [(0,(vp p1)),(1,given1.v),(2,l1.v),(3,(vi i1)),(9,(vp (some p2))),(10,(vp (some p3))),(12,(vb (s_A aA aB).1)),(13,(vb (s_A aA aB).2)),(58,(vb (b20'0 || ((!((s_A aA aB).1)) && (aD != 0)))))]) ?_ ?_))
 rintro ρ w26 ⟨b20'0,H22,he0,hs,hb,hH⟩
 subst he0
 refine jM hH (q (jH 13 (fun ρ wJ=>∃b25'0:Bool,∃HJ:NP,(((((s_A aA aB).1) && ((decide (aD<0)) || (decide (aD≥i1)))) || ((!((s_A aA aB).1)) && (aD != 0)))=b25'0)∧Hst w0 H1 w3 HJ wJ∧HB HJ wJ [(p3,(Aa aA aG aI aK aL aC aF),86),(p2,(Ad aB aD aH aJ),157)]∧Has ρ [(0,(vp p1)),(1,given1.v),(2,l1.v),(9,(vp (some p2))),(10,(vp (some p3))),(12,(vb (s_A aA aB).1)),(13,(vb (s_A aA aB).2)),(72,(vb (b25'0 || (((s_A aA aB).2) && ((decide (aH<0)) || (decide (aH≥i1)))))))]) ?_ ?_))
 rintro ρ w31 ⟨b25'0,H27,he0,hs,hb,hH⟩
 subst he0
 refine jM hH (q ?_)
 rcases bte (((((s_A aA aB).1) && ((decide (aD<0)) || (decide (aD≥i1)))) || ((!((s_A aA aB).1)) && (aD != 0))) || (((s_A aA aB).2) && ((decide (aH<0)) || (decide (aH≥i1))))) with hg56 | hg56
 refine sj3 73 hg56 (sm (sm (sm (sj 73 hg56 (q2 (vb true) (xT hg56) (ln ⟨true,_,_,hg56,rfl,hs,hb,hm⟩))))))
 refine qk 73 hg56 (qk 73 hg56 (qk 73 hg56 (jH 4 (fun ρ wJ=>∃b29'0:Bool,∃HJ:NP,((!((s_A aA aB).2))=b29'0)∧Hst w0 H1 w3 HJ wJ∧HB HJ wJ [(p3,(Aa aA aG aI aK aL aC aF),86),(p2,(Ad aB aD aH aJ),157)]∧Has ρ [(0,(vp p1)),(1,given1.v),(2,l1.v),(9,(vp (some p2))),(10,(vp (some p3))),(12,(vb (s_A aA aB).1)),(13,(vb (s_A aA aB).2)),(73,(vb (((((s_A aA aB).1) && ((decide (aD<0)) || (decide (aD≥i1)))) || ((!((s_A aA aB).1)) && (aD != 0))) || (((s_A aA aB).2) && ((decide (aH<0)) || (decide (aH≥i1))))))),(80,(vb (b29'0 && (aH != 0))))]) ?_ ?_)))
 rintro ρ w35 ⟨b29'0,H31,he0,hs,hb,hH⟩
 subst he0
 refine jM hH (q2 (vb ((!((s_A aA aB).2)) && (aH != 0))) (xF hg56) (ln ⟨false,_,_,hg56,rfl,hs,hb,hm⟩))
 rcases bte (!((s_A aA aB).2)) with hg58 | hg58
 refine qk 76 hg58 (q4 76 hg58 (xl (isAgg3 _) (hb.d 1 2 (gS gZ))) (qk 76 hg58 (stq (v:=(vb (aH != 0))) (wy 73 hg56) (xT hg58) (jB ⟨true,_,hg58,hs,hb,hm⟩))))
 refine sj3 76 hg58 (stq (v:=(vb false)) (wy 73 hg56) (xF hg58) (jB ⟨false,_,hg58,hs,hb,hm⟩))
 rcases bte ((((s_A aA aB).1) && ((decide (aD<0)) || (decide (aD≥i1)))) || ((!((s_A aA aB).1)) && (aD != 0))) with hg49 | hg49
 refine sj2 59 hg49 (sm (sm (sm (sm (sm (sm (sm (sm (sm (sj 59 hg49 (q2 (vb true) (xT hg49) (jB ⟨true,_,hg49,hs,hb,hm⟩))))))))))))
 refine qk 59 hg49 (qk 59 hg49 (jH 10 (fun ρ wJ=>∃b27'0:Bool,∃HJ:NP,((s_A aA aB).2=b27'0)∧Hst w0 H1 w3 HJ wJ∧HB HJ wJ [(p3,(Aa aA aG aI aK aL aC aF),86),(p2,(Ad aB aD aH aJ),157)]∧Has ρ [(0,(vp p1)),(1,given1.v),(2,l1.v),(9,(vp (some p2))),(10,(vp (some p3))),(12,(vb (s_A aA aB).1)),(13,(vb (s_A aA aB).2)),(59,(vb ((((s_A aA aB).1) && ((decide (aD<0)) || (decide (aD≥i1)))) || ((!((s_A aA aB).1)) && (aD != 0))))),(71,(vb (b27'0 && ((decide (aH<0)) || (decide (aH≥i1))))))]) ?_ ?_))
 rintro ρ w33 ⟨b27'0,H29,he0,hs,hb,hH⟩
 subst he0
 refine jM hH (q2 (vb (((s_A aA aB).2) && ((decide (aH<0)) || (decide (aH≥i1))))) (xF hg49) (jB ⟨false,_,hg49,hs,hb,hm⟩))
 rcases bte ((s_A aA aB).2) with hg53 | hg53
 refine qk 61 hg53 (q4 61 hg53 (xl (isAgg3 _) (hb.d 1 2 (gS gZ))) (qk 61 hg53 (qk 61 hg53 (jH 5 (fun ρ wJ=>∃b28'0:Bool,∃HJ:NP,((decide (aH<0))=b28'0)∧Hst w0 H1 w3 HJ wJ∧HB HJ wJ [(p3,(Aa aA aG aI aK aL aC aF),86),(p2,(Ad aB aD aH aJ),157)]∧Has ρ [(0,(vp p1)),(1,given1.v),(2,l1.v),(9,(vp (some p2))),(10,(vp (some p3))),(12,(vb (s_A aA aB).1)),(13,(vb (s_A aA aB).2)),(59,(vb ((((s_A aA aB).1) && ((decide (aD<0)) || (decide (aD≥i1)))) || ((!((s_A aA aB).1)) && (aD != 0))))),(61,(vb (s_A aA aB).2)),(70,(vb (b28'0 || (decide (aH≥i1)))))]) ?_ ?_))))
 rintro ρ w34 ⟨b28'0,H30,he0,hs,hb,hH⟩
 subst he0
 refine jM hH (stq (v:=(vb ((decide (aH<0)) || (decide (aH≥i1))))) (wy 59 hg49) (xT hg53) (jB ⟨true,_,hg53,hs,hb,hm⟩))
 rcases bte (decide (aH<0)) with hg55 | hg55
 refine sj4 65 hg55 (stq (v:=(vb true)) (wy 61 hg53) (xT hg55) (jB ⟨true,_,hg55,hs,hb,hm⟩))
 refine qk 65 hg55 (q4 65 hg55 (xl (isAgg3 _) (hb.d 1 2 (gS gZ))) (qk 65 hg55 (qk 65 hg55 (stq (v:=(vb (decide (aH≥i1)))) (wy 61 hg53) (xF hg55) (jB ⟨false,_,hg55,hs,hb,hm⟩)))))
 refine sj4 61 hg53 (sm (sm (sm (sm (sj 61 hg53 (stq (v:=(vb false)) (wy 59 hg49) (xF hg53) (jB ⟨false,_,hg53,hs,hb,hm⟩)))))))
 rcases bte (((s_A aA aB).1) && ((decide (aD<0)) || (decide (aD≥i1)))) with hg39 | hg39
 refine sj3 50 hg39 (sm (sm (sm (sj 50 hg39 (q2 (vb true) (xT hg39) (jB ⟨true,_,hg39,hs,hb,hm⟩))))))
 refine qk 50 hg39 (qk 50 hg39 (qk 50 hg39 (jH 4 (fun ρ wJ=>∃b21'0:Bool,∃HJ:NP,((!((s_A aA aB).1))=b21'0)∧Hst w0 H1 w3 HJ wJ∧HB HJ wJ [(p3,(Aa aA aG aI aK aL aC aF),86),(p2,(Ad aB aD aH aJ),157)]∧Has ρ [(0,(vp p1)),(1,given1.v),(2,l1.v),(3,(vi i1)),(9,(vp (some p2))),(10,(vp (some p3))),(12,(vb (s_A aA aB).1)),(13,(vb (s_A aA aB).2)),(50,(vb (((s_A aA aB).1) && ((decide (aD<0)) || (decide (aD≥i1)))))),(57,(vb (b21'0 && (aD != 0))))]) ?_ ?_)))
 rintro ρ w27 ⟨b21'0,H23,he0,hs,hb,hH⟩
 subst he0
 refine jM hH (q2 (vb ((!((s_A aA aB).1)) && (aD != 0))) (xF hg39) (jB ⟨false,_,hg39,hs,hb,hm⟩))
 rcases bte (!((s_A aA aB).1)) with hg41 | hg41
 refine qk 53 hg41 (q4 53 hg41 (xl (isAgg3 _) (hb.d 1 1 (gS gZ))) (qk 53 hg41 (stq (v:=(vb (aD != 0))) (wy 50 hg39) (xT hg41) (jB ⟨true,_,hg41,hs,hb,hm⟩))))
 refine sj3 53 hg41 (stq (v:=(vb false)) (wy 50 hg39) (xF hg41) (jB ⟨false,_,hg41,hs,hb,hm⟩))
 rcases bte ((s_A aA aB).1) with hg33 | hg33
 refine qk 39 hg33 (q4 39 hg33 (xl (isAgg3 _) (hb.d 1 1 (gS gZ))) (qk 39 hg33 (qk 39 hg33 (jH 5 (fun ρ wJ=>∃b18'0:Bool,∃HJ:NP,((decide (aD<0))=b18'0)∧Hst w0 H1 w3 HJ wJ∧HB HJ wJ [(p3,(Aa aA aG aI aK aL aC aF),86),(p2,(Ad aB aD aH aJ),157)]∧Has ρ [(0,(vp p1)),(1,given1.v),(2,l1.v),(3,(vi i1)),(9,(vp (some p2))),(10,(vp (some p3))),(12,(vb (s_A aA aB).1)),(13,(vb (s_A aA aB).2)),(39,(vb (s_A aA aB).1)),(48,(vb (b18'0 || (decide (aD≥i1)))))]) ?_ ?_))))
 rintro ρ w24 ⟨b18'0,H20,he0,hs,hb,hH⟩
 subst he0
 refine jM hH (q2 (vb ((decide (aD<0)) || (decide (aD≥i1)))) (xT hg33) (jB ⟨true,_,hg33,hs,hb,hm⟩))
 rcases bte (decide (aD<0)) with hg35 | hg35
 refine sj4 43 hg35 (stq (v:=(vb true)) (wy 39 hg33) (xT hg35) (jB ⟨true,_,hg35,hs,hb,hm⟩))
 refine qk 43 hg35 (q4 43 hg35 (xl (isAgg3 _) (hb.d 1 1 (gS gZ))) (qk 43 hg35 (qk 43 hg35 (stq (v:=(vb (decide (aD≥i1)))) (wy 39 hg33) (xF hg35) (jB ⟨false,_,hg35,hs,hb,hm⟩)))))
 refine sj4 39 hg33 (sm (sm (sm (sm (sj 39 hg33 (q2 (vb false) (xF hg33) (jB ⟨false,_,hg33,hs,hb,hm⟩)))))))
 rintro ρ w21 ⟨b15'0,y1,H17,he0,hy1,hs,hb,hH⟩
 subst he0
 have h:=h y1 hy1
 refine jQ hH (jJ (cbr h ?_ ?_))<;>intro h
 refine eg (q (ln (er (jW ?_))))
 have ⟨h,hs⟩:=hs.hr (h H17 w21)
 refine rs1 results94 ⟨false,rfl,h⟩
 refine jC (jJ (eg (nw3 (Ag 0 0 0 0 0 0) 86 hs hb (jT (zeroValue86 _) rfl) fun p4 w36 H32 hs hb=>nw3 (Ag 0 0 0 0 0 0) 86 hs hb (jT (zeroValue86 _) rfl) fun p5 w37 H33 hs hb=>ln (jA (eg (q (ln (zX (fun ρ w=>∃aE aQ aR aS aT aM aN,∃H:NP,Has ρ [(0,(vp p1)),(1,given1.v),(2,l1.v),(9,(vp (some p2))),(10,(vp (some p3))),(13,(vb (s_A aA aB).2)),(14,(vp (some p4))),(15,(vp (some p5)))]∧Hst w0 H w H w∧HB H w [(p5,(Ag 0 0 0 0 0 0),86),(p4,(Aa aE aQ aR aS aT aM aN),86),(p3,(Aa aA aG aI aK aL aC aF),86),(p2,(Ad aB aD aH aJ),157)]∧m_H_j1 p1 given1 l1 aB aD aH aJ aA aG aI aC aF aE aQ aR aS aT aM aN w0 H w K) ?_ ?_))))))))
 rintro ρ w ⟨aE,aQ,aR,aS,aT,aM,aN,H,hH,hs,hb,h⟩
 refine jO hH (jA (eg (q (ln (zX (fun ρ w=>∃aP aO aU aV aW aX aY,∃H:NP,Has ρ [(1,given1.v),(2,l1.v),(9,(vp (some p2))),(10,(vp (some p3))),(14,(vp (some p4))),(15,(vp (some p5)))]∧Hst w0 H w H w∧HB H w [(p5,(Aa aP aO aU aV aW aX aY),86),(p4,(Aa aE aQ aR aS aT aM aN),86),(p3,(Aa aA aG aI aK aL aC aF),86),(p2,(Ad aB aD aH aJ),157)]∧m_H_j2 given1 l1 aB aD aH aJ aA aG aI aC aF aE aM aN aP aO aU aV aW aX aY w0 H w K) ?_ ?_)))))
 rintro ρ w ⟨aP,aO,aU,aV,aW,aX,aY,H,hH,hs,hb,h⟩
 refine jO hH (jA (eg (q (q3 (xl (isAgg3 _) (hb.d0 3 (gS (gS (gS gZ))))) (ln (jF (eg (qb (ln (cbr h ?_ ?_))))))))))<;>intro h
 refine eg (qb (q3 (xl (isAgg30 _) (hb.d 3 3 (gS (gS (gS gZ))))) (sc call58 (h.mono fun e w38 ⟨r2,k,hk,h⟩=>have ⟨hs,hb⟩:=hk.hh hs hb;⟨_,k,?_⟩))))
 refine q (ln (er (kG (jW (rs1 results94 ⟨r2,rfl,h⟩)))))
 refine eg (qb (ln (cbr h ?_ ?_)))<;>intro h
 refine jA (zC (fun ρ wJ=>∃HJ:NP,Hst w0 H w HJ wJ∧HB HJ wJ [(p5,(Aa aP aO aU aV aW aX aY),86),(p4,(Aa aE aQ aR aS aT aM aN),86),(p3,(Aa aA aG aI aK aL aC aF),86),(p2,(Ad aB aD aH aJ),157)]∧Has ρ [(8,(vb ((aE == 4) && (aM == aJ))))]) ?_ ?_)
 refine rg (q (q3 (xl (isAgg3 _) (hb.d0 1 (gS gZ))) (qb (jH 6 (fun ρ wJ=>∃b32'0:Bool,∃HJ:NP,((aE == 4)=b32'0)∧Hst w0 H w HJ wJ∧HB HJ wJ [(p5,(Aa aP aO aU aV aW aX aY),86),(p4,(Aa aE aQ aR aS aT aM aN),86),(p3,(Aa aA aG aI aK aL aC aF),86),(p2,(Ad aB aD aH aJ),157)]∧Has ρ [(125,(vb (b32'0 && (aM == aJ))))]) ?_ ?_))))
 rintro ρ w41 ⟨b32'0,H36,he0,hs,hb,hH⟩
 subst he0
 refine jM hH (q (ln ⟨_,hs,hb,hm⟩))
 rcases bte (aE == 4) with hg62 | hg62
 refine qk 119 hg62 (q4 119 hg62 (xl (isAgg30 _) (hb.d 1 5 (gS gZ))) (qk 119 hg62 (q4 119 hg62 (xl (isAgg30 _) (hb.d 3 3 (gS (gS (gS gZ))))) (qk 119 hg62 (q2 (vb (aM == aJ)) (xT hg62) (jB ⟨true,_,hg62,hs,hb,hm⟩))))))
 refine sj5 119 hg62 (q2 (vb false) (xF hg62) (jB ⟨false,_,hg62,hs,hb,hm⟩))
 rintro ρ w40 ⟨H35,hs,hb,hH⟩
 refine jQ hH (jJ (er (kG (jW ?_))))
 have ⟨h,hs⟩:=hs.hr (h H35 w40)
 refine rs1 results94 ⟨((aE == 4) && (aM == aJ)),rfl,h⟩
 refine eg (qb (ln (cbr h ?_ ?_)))<;>intro h
 refine jA (zC (fun ρ wJ=>∃HJ:NP,Hst w0 H w HJ wJ∧HB HJ wJ [(p5,(Aa aP aO aU aV aW aX aY),86),(p4,(Aa aE aQ aR aS aT aM aN),86),(p3,(Aa aA aG aI aK aL aC aF),86),(p2,(Ad aB aD aH aJ),157)]∧Has ρ [(8,(vb ((aE == 4) && (aN == aJ))))]) ?_ ?_)
 refine rg (q (q3 (xl (isAgg3 _) (hb.d0 1 (gS gZ))) (qb (jH 6 (fun ρ wJ=>∃b35'0:Bool,∃HJ:NP,((aE == 4)=b35'0)∧Hst w0 H w HJ wJ∧HB HJ wJ [(p5,(Aa aP aO aU aV aW aX aY),86),(p4,(Aa aE aQ aR aS aT aM aN),86),(p3,(Aa aA aG aI aK aL aC aF),86),(p2,(Ad aB aD aH aJ),157)]∧Has ρ [(137,(vb (b35'0 && (aN == aJ))))]) ?_ ?_))))
 rintro ρ w44 ⟨b35'0,H39,he0,hs,hb,hH⟩
 subst he0
 refine jM hH (q (ln ⟨_,hs,hb,hm⟩))
 rcases bte (aE == 4) with hg66 | hg66
 refine qk 131 hg66 (q4 131 hg66 (xl (isAgg30 _) (hb.d 1 6 (gS gZ))) (qk 131 hg66 (q4 131 hg66 (xl (isAgg30 _) (hb.d 3 3 (gS (gS (gS gZ))))) (qk 131 hg66 (q2 (vb (aN == aJ)) (xT hg66) (jB ⟨true,_,hg66,hs,hb,hm⟩))))))
 refine sj5 131 hg66 (q2 (vb false) (xF hg66) (jB ⟨false,_,hg66,hs,hb,hm⟩))
 rintro ρ w43 ⟨H38,hs,hb,hH⟩
 refine jQ hH (jJ (er (kG (jW ?_))))
 have ⟨h,hs⟩:=hs.hr (h H38 w43)
 refine rs1 results94 ⟨((aE == 4) && (aN == aJ)),rfl,h⟩
 refine eg (qb (ln (cbr h ?_ ?_)))<;>intro h
 refine jA (zC (fun ρ wJ=>∃HJ:NP,Hst w0 H w HJ wJ∧HB HJ wJ [(p5,(Aa aP aO aU aV aW aX aY),86),(p4,(Aa aE aQ aR aS aT aM aN),86),(p3,(Aa aA aG aI aK aL aC aF),86),(p2,(Ad aB aD aH aJ),157)]∧Has ρ [(8,(vb ((((aE == 7) || (aE == 8)) || (aE == 9)) && (aM == aJ))))]) ?_ ?_)
 refine rg (q (q3 (xl (isAgg3 _) (hb.d0 1 (gS gZ))) (qb (jH 4 (fun ρ wJ=>∃b40'0:Bool,∃HJ:NP,((aE == 7)=b40'0)∧Hst w0 H w HJ wJ∧HB HJ wJ [(p5,(Aa aP aO aU aV aW aX aY),86),(p4,(Aa aE aQ aR aS aT aM aN),86),(p3,(Aa aA aG aI aK aL aC aF),86),(p2,(Ad aB aD aH aJ),157)]∧Has ρ [(9,(vp (some p2))),(14,(vp (some p4))),(147,(vb (b40'0 || (aE == 8))))]) ?_ ?_))))
 rintro ρ w49 ⟨b40'0,H44,he0,hs,hb,hH⟩
 subst he0
 refine jM hH (q (jH 4 (fun ρ wJ=>∃b41'0:Bool,∃HJ:NP,(((aE == 7) || (aE == 8))=b41'0)∧Hst w0 H w HJ wJ∧HB HJ wJ [(p5,(Aa aP aO aU aV aW aX aY),86),(p4,(Aa aE aQ aR aS aT aM aN),86),(p3,(Aa aA aG aI aK aL aC aF),86),(p2,(Ad aB aD aH aJ),157)]∧Has ρ [(9,(vp (some p2))),(14,(vp (some p4))),(152,(vb (b41'0 || (aE == 9))))]) ?_ ?_))
 rintro ρ w50 ⟨b41'0,H45,he0,hs,hb,hH⟩
 subst he0
 refine jM hH (q (jH 6 (fun ρ wJ=>∃b42'0:Bool,∃HJ:NP,((((aE == 7) || (aE == 8)) || (aE == 9))=b42'0)∧Hst w0 H w HJ wJ∧HB HJ wJ [(p5,(Aa aP aO aU aV aW aX aY),86),(p4,(Aa aE aQ aR aS aT aM aN),86),(p3,(Aa aA aG aI aK aL aC aF),86),(p2,(Ad aB aD aH aJ),157)]∧Has ρ [(159,(vb (b42'0 && (aM == aJ))))]) ?_ ?_))
 rintro ρ w51 ⟨b42'0,H46,he0,hs,hb,hH⟩
 subst he0
 refine jM hH (q (ln ⟨_,hs,hb,hm⟩))
 rcases bte (((aE == 7) || (aE == 8)) || (aE == 9)) with hg78 | hg78
 refine qk 153 hg78 (q4 153 hg78 (xl (isAgg30 _) (hb.d 1 5 (gS gZ))) (qk 153 hg78 (q4 153 hg78 (xl (isAgg30 _) (hb.d 3 3 (gS (gS (gS gZ))))) (qk 153 hg78 (q2 (vb (aM == aJ)) (xT hg78) (jB ⟨true,_,hg78,hs,hb,hm⟩))))))
 refine sj5 153 hg78 (q2 (vb false) (xF hg78) (jB ⟨false,_,hg78,hs,hb,hm⟩))
 rcases bte ((aE == 7) || (aE == 8)) with hg76 | hg76
 refine sj3 148 hg76 (q2 (vb true) (xT hg76) (jB ⟨true,_,hg76,hs,hb,hm⟩))
 refine qk 148 hg76 (q4 148 hg76 (xl (isAgg3 _) (hb.d0 1 (gS gZ))) (qk 148 hg76 (q2 (vb (aE == 9)) (xF hg76) (jB ⟨false,_,hg76,hs,hb,hm⟩))))
 rcases bte (aE == 7) with hg74 | hg74
 refine sj3 143 hg74 (q2 (vb true) (xT hg74) (jB ⟨true,_,hg74,hs,hb,hm⟩))
 refine qk 143 hg74 (q4 143 hg74 (xl (isAgg3 _) (hb.d0 1 (gS gZ))) (qk 143 hg74 (q2 (vb (aE == 8)) (xF hg74) (jB ⟨false,_,hg74,hs,hb,hm⟩))))
 rintro ρ w48 ⟨H43,hs,hb,hH⟩
 refine jQ hH (jJ (er (kG (jW ?_))))
 have ⟨h,hs⟩:=hs.hr (h H43 w48)
 refine rs1 results94 ⟨((((aE == 7) || (aE == 8)) || (aE == 9)) && (aM == aJ)),rfl,h⟩
 refine eg (qb (ln (cbr h ?_ ?_)))<;>intro h
 refine jA (zC (fun ρ wJ=>∃HJ:NP,Hst w0 H w HJ wJ∧HB HJ wJ [(p5,(Aa aP aO aU aV aW aX aY),86),(p4,(Aa aE aQ aR aS aT aM aN),86),(p3,(Aa aA aG aI aK aL aC aF),86),(p2,(Ad aB aD aH aJ),157)]∧Has ρ [(8,(vb (((aA == 1) || (aA == 2)) || (aA == 3))))]) ?_ ?_)
 refine rg (q (q3 (xl (isAgg3 _) (hb.d0 2 (gS (gS gZ)))) (qb (jH 4 (fun ρ wJ=>∃b46'0:Bool,∃HJ:NP,((aA == 1)=b46'0)∧Hst w0 H w HJ wJ∧HB HJ wJ [(p5,(Aa aP aO aU aV aW aX aY),86),(p4,(Aa aE aQ aR aS aT aM aN),86),(p3,(Aa aA aG aI aK aL aC aF),86),(p2,(Ad aB aD aH aJ),157)]∧Has ρ [(10,(vp (some p3))),(169,(vb (b46'0 || (aA == 2))))]) ?_ ?_))))
 rintro ρ w55 ⟨b46'0,H50,he0,hs,hb,hH⟩
 subst he0
 refine jM hH (q (jH 4 (fun ρ wJ=>∃b47'0:Bool,∃HJ:NP,(((aA == 1) || (aA == 2))=b47'0)∧Hst w0 H w HJ wJ∧HB HJ wJ [(p5,(Aa aP aO aU aV aW aX aY),86),(p4,(Aa aE aQ aR aS aT aM aN),86),(p3,(Aa aA aG aI aK aL aC aF),86),(p2,(Ad aB aD aH aJ),157)]∧Has ρ [(174,(vb (b47'0 || (aA == 3))))]) ?_ ?_))
 rintro ρ w56 ⟨b47'0,H51,he0,hs,hb,hH⟩
 subst he0
 refine jM hH (q (ln ⟨_,hs,hb,hm⟩))
 rcases bte ((aA == 1) || (aA == 2)) with hg86 | hg86
 refine sj3 170 hg86 (q2 (vb true) (xT hg86) (jB ⟨true,_,hg86,hs,hb,hm⟩))
 refine qk 170 hg86 (q4 170 hg86 (xl (isAgg3 _) (hb.d0 2 (gS (gS gZ)))) (qk 170 hg86 (q2 (vb (aA == 3)) (xF hg86) (jB ⟨false,_,hg86,hs,hb,hm⟩))))
 rcases bte (aA == 1) with hg84 | hg84
 refine sj3 165 hg84 (q2 (vb true) (xT hg84) (jB ⟨true,_,hg84,hs,hb,hm⟩))
 refine qk 165 hg84 (q4 165 hg84 (xl (isAgg3 _) (hb.d0 2 (gS (gS gZ)))) (qk 165 hg84 (q2 (vb (aA == 2)) (xF hg84) (jB ⟨false,_,hg84,hs,hb,hm⟩))))
 rintro ρ w54 ⟨H49,hs,hb,hH⟩
 refine jQ hH (jJ (er (kG (jW ?_))))
 have ⟨h,hs⟩:=hs.hr (h H49 w54)
 refine rs1 results94 ⟨(((aA == 1) || (aA == 2)) || (aA == 3)),rfl,h⟩
 refine eg (qb (ln (cbr h ?_ ?_)))<;>intro h
 refine eg (q (q3 (xl (isAgg3 _) (hb.d 2 1 (gS (gS gZ)))) (q (ln (jA (eg (q (q3 (xl (isAgg3 _) (hb.d0 2 (gS (gS gZ)))) (ln (zX (fun ρ w=>∃who1,∃H:NP,Has ρ [(2,l1.v),(9,(vp (some p2))),(10,(vp (some p3))),(15,(vp (some p5))),(16,(vi who1))]∧Hst w0 H w H w∧HB H w [(p5,(Aa aP aO aU aV aW aX aY),86),(p4,(Aa aE aQ aR aS aT aM aN),86),(p3,(Aa aA aG aI aK aL aC aF),86),(p2,(Ad aB aD aH aJ),157)]∧m_H_j3 l1 aD aC aP aO who1 w0 H w K) ?_ ?_))))))))))
 rintro ρ w ⟨who1,H,hH,hs,hb,h⟩
 refine jO hH (jA (kH (by kernel_rfl) (by kernel_rfl) (by kernel_rfl) (by kernel_rfl) ?_))
 intro w57 hw57
 have hs:Hst w0 H w H w57:=by rw [hw57];exact hs.drew
 have hb:HB H w57 [(p5,(Aa aP aO aU aV aW aX aY),86),(p4,(Aa aE aQ aR aS aT aM aN),86),(p3,(Aa aA aG aI aK aL aC aF),86),(p2,(Ad aB aD aH aJ),157)]:=by rw [hw57];exact hb.drew
 refine qq 0 l1.v Kp0 (qq 1 (vp (some (p2.add 1))) Kp1 (qr 2 (vi aD) Kp2 (xl (isAgg3 _) (hb.c 3 1 (gS (gS (gS gZ))))) (qg 3 ?_)))
 obtain ⟨a2,hv2,h⟩:=h
 refine sxQ Kp3 (jP rfl) rfl (xi (runUnderlying101 _) (sizeOf157 _) hv2) (qq 4 (vp (some (a2.add 3))) Kp4 (qg 5 ?_))
 have ⟨h,hs⟩:=hs.hr (h w57)
 obtain ⟨v1,hv1,h⟩:=h
 refine sxQ Kp5 (jP rfl) rfl (xl (isAgg30 _) hv1) (qq 6 (vp (some (p3.add 5))) Kp6 (qr 7 (vi aC) Kp7 (xl (isAgg30 _) (hb.c 2 5 (gS (gS gZ)))) (qq 8 (vb (v1 == aC)) Kp8 (qq 9 (vb (v1 == aC)) Kp9 (qg 10 ?_)))))
 obtain ⟨hg87,h⟩|⟨hg87,h⟩:=h.br
 refine sxQ (v:=(vp (some p5))) (jL (S8 (jE (jE jK)))) (wy 230 hg87) rfl (by kernel_rfl) (qg 11 (sxQ (jL (S8 (jE (jE (jE jK))))) (wy 230 hg87) rfl (xl (isAgg3 _) (hb.d0 0 gZ)) (qg 12 (sxQ (v:=(vb (aP == 6))) (jL (S8 (S4 jK))) (wy 230 hg87) rfl (by kernel_rfl) (qr 13 (vb (aP == 6)) (jL (S8 (S4 (jE jK)))) (xT hg87) (qq 14 (vb (aP == 6)) (jL (S8 (S4 (jE (jE jK))))) (qg 15 ?_)))))))
 obtain ⟨hg88,h⟩|⟨hg88,h⟩:=h.br
 refine sxQ (v:=(vp (some (p5.add 1)))) (jL (S8 (S4 (jE (jE (jE jK)))))) (wy 235 hg88) rfl (by kernel_rfl) (qg 16 (sxQ (jL (S8 (S8 jK))) (wy 235 hg88) rfl (xl (isAgg3 _) (hb.d 0 1 gZ)) (qg 17 (sxQ (v:=(vi who1)) (jL (S8 (S8 (jE jK)))) (wy 235 hg88) rfl (by kernel_rfl) (qg 18 (sxQ (v:=(vb (aO == who1))) (jL (S8 (S8 (jE (jE jK))))) (wy 235 hg88) rfl (by kernel_rfl) (qr 19 (vb (aO == who1)) (jL (S8 (S8 (jE (jE (jE jK)))))) (xT hg88) (qq 20 (vb (aO == who1)) (jL (S8 (S8 (S4 jK)))) (wn (jJ (er (kG (jW (rs1 results94 ⟨(aO == who1),rfl,h⟩))))))))))))))
 refine kY (jL (S8 (S4 (jE (jE (jE jK)))))) (jS rfl (yD 235 hg88) rfl) (qn 16 (jL (S8 (S8 jK))) (jS rfl (yD 235 hg88) rfl) (qn 17 (jL (S8 (S8 (jE jK)))) (jS rfl (yD 235 hg88) rfl) (qn 18 (jL (S8 (S8 (jE (jE jK))))) (jS rfl (yD 235 hg88) rfl) (qr 19 (vb false) (jL (S8 (S8 (jE (jE (jE jK)))))) (xF hg88) (qq 20 (vb false) (jL (S8 (S8 (S4 jK)))) (wn (jJ (er (kG (jW (rs1 results94 ⟨false,rfl,h⟩)))))))))))
 refine kY (jL (S8 (jE (jE jK)))) (jS rfl (yD 230 hg87) rfl) (qn 11 (jL (S8 (jE (jE (jE jK))))) (jS rfl (yD 230 hg87) rfl) (qn 12 (jL (S8 (S4 jK))) (jS rfl (yD 230 hg87) rfl) (qr 13 (vb false) (jL (S8 (S4 (jE jK)))) (xF hg87) (qq 14 (vb false) (jL (S8 (S4 (jE (jE jK))))) (qn 15 (jL (S8 (S4 (jE (jE (jE jK)))))) (jS rfl (yD (c:=false) 235 rfl) rfl) (qn 16 (jL (S8 (S8 jK))) (jS rfl (yD (c:=false) 235 rfl) rfl) (qn 17 (jL (S8 (S8 (jE jK)))) (jS rfl (yD (c:=false) 235 rfl) rfl) (qn 18 (jL (S8 (S8 (jE (jE jK))))) (jS rfl (yD (c:=false) 235 rfl) rfl) (qq 19 (vb false) (jL (S8 (S8 (jE (jE (jE jK)))))) (qq 20 (vb false) (jL (S8 (S8 (S4 jK)))) (wn (jJ (er (kG (jW (rs1 results94 ⟨false,rfl,h⟩))))))))))))))))
 refine jF (eg (qb (ln (cbr h ?_ ?_))))<;>intro h
 refine jA (kH (by kernel_rfl) (by kernel_rfl) (by kernel_rfl) (by kernel_rfl) ?_)
 intro w58 hw58
 have hs:Hst w0 H w H w58:=by rw [hw58];exact hs.drew
 have hb:HB H w58 [(p5,(Aa aP aO aU aV aW aX aY),86),(p4,(Aa aE aQ aR aS aT aM aN),86),(p3,(Aa aA aG aI aK aL aC aF),86),(p2,(Ad aB aD aH aJ),157)]:=by rw [hw58];exact hb.drew
 refine qq 0 l1.v Kp0 (qq 1 (vp (some (p2.add 1))) Kp1 (qr 2 (vi aD) Kp2 (xl (isAgg3 _) (hb.c 3 1 (gS (gS (gS gZ))))) (qg 3 ?_)))
 obtain ⟨a3,hv6,h⟩:=h
 refine sxQ Kp3 (jP rfl) rfl (xi (runUnderlying101 _) (sizeOf157 _) hv6) (qq 4 (vp (some (a3.add 3))) Kp4 (qg 5 ?_))
 have ⟨h,hs⟩:=hs.hr (h w58)
 obtain ⟨v2,hv5,h⟩:=h
 refine sxQ Kp5 (jP rfl) rfl (xl (isAgg30 _) hv5) (qq 6 (vp (some (p3.add 5))) Kp6 (qr 7 (vi aC) Kp7 (xl (isAgg30 _) (hb.c 2 5 (gS (gS gZ)))) (qq 8 (vb (v2 == aC)) Kp8 (qq 9 (vb (v2 == aC)) Kp9 (qg 10 ?_)))))
 obtain ⟨hg89,h⟩|⟨hg89,h⟩:=h.br
 refine sxQ (v:=l1.v) (jL (S8 (jE (jE jK)))) (wy 192 hg89) rfl (by kernel_rfl) (qg 11 (sxQ (v:=(vp (some (p2.add 2)))) (jL (S8 (jE (jE (jE jK))))) (wy 192 hg89) rfl (by kernel_rfl) (qg 12 (sxQ (jL (S8 (S4 jK))) (wy 192 hg89) rfl (xl (isAgg3 _) (hb.d 3 2 (gS (gS (gS gZ))))) (qg 13 ?_)))))
 obtain ⟨a4,hv4,h⟩:=h
 refine sxQ (jL (S8 (S4 (jE jK)))) (wy 192 hg89) rfl (xi (runUnderlying101 _) (sizeOf157 _) hv4) (qg 14 (sxQ (v:=(vp (some (a4.add 3)))) (jL (S8 (S4 (jE (jE jK))))) (wy 192 hg89) rfl (by kernel_rfl) (qg 15 ?_)))
 obtain ⟨v3,hv3,h⟩:=h
 refine sxQ (jL (S8 (S4 (jE (jE (jE jK)))))) (wy 192 hg89) rfl (xl (isAgg30 _) hv3) (qg 16 (sxQ (v:=(vp (some (p3.add 6)))) (jL (S8 (S8 jK))) (wy 192 hg89) rfl (by kernel_rfl) (qg 17 (sxQ (jL (S8 (S8 (jE jK)))) (wy 192 hg89) rfl (xl (isAgg30 _) (hb.d 2 6 (gS (gS gZ)))) (qg 18 (sxQ (v:=(vb (v3 == aF))) (jL (S8 (S8 (jE (jE jK))))) (wy 192 hg89) rfl (by kernel_rfl) (qr 19 (vb (v3 == aF)) (jL (S8 (S8 (jE (jE (jE jK)))))) (xT hg89) (qq 20 (vb (v3 == aF)) (jL (S8 (S8 (S4 jK)))) (wn (jJ (er (kG (jW (kG (jW (rs1 results94 ⟨(v3 == aF),rfl,h⟩))))))))))))))))
 refine kY (jL (S8 (jE (jE jK)))) (jS rfl (yD 192 hg89) rfl) (qn 11 (jL (S8 (jE (jE (jE jK))))) (jS rfl (yD 192 hg89) rfl) (qn 12 (jL (S8 (S4 jK))) (jS rfl (yD 192 hg89) rfl) (qn 13 (jL (S8 (S4 (jE jK)))) (jS rfl (yD 192 hg89) rfl) (qn 14 (jL (S8 (S4 (jE (jE jK))))) (jS rfl (yD 192 hg89) rfl) (qn 15 (jL (S8 (S4 (jE (jE (jE jK)))))) (jS rfl (yD 192 hg89) rfl) (qn 16 (jL (S8 (S8 jK))) (jS rfl (yD 192 hg89) rfl) (qn 17 (jL (S8 (S8 (jE jK)))) (jS rfl (yD 192 hg89) rfl) (qn 18 (jL (S8 (S8 (jE (jE jK))))) (jS rfl (yD 192 hg89) rfl) (qr 19 (vb false) (jL (S8 (S8 (jE (jE (jE jK)))))) (xF hg89) (qq 20 (vb false) (jL (S8 (S8 (S4 jK)))) (wn (jJ (er (kG (jW (kG (jW (rs1 results94 ⟨false,rfl,h⟩))))))))))))))))))
 refine eg (qb (ln (cbr h ?_ ?_)))<;>intro h
 refine jA (kH (by kernel_rfl) (by kernel_rfl) (by kernel_rfl) (by kernel_rfl) ?_)
 intro w59 hw59
 have hs:Hst w0 H w H w59:=by rw [hw59];exact hs.drew
 have hb:HB H w59 [(p5,(Aa aP aO aU aV aW aX aY),86),(p4,(Aa aE aQ aR aS aT aM aN),86),(p3,(Aa aA aG aI aK aL aC aF),86),(p2,(Ad aB aD aH aJ),157)]:=by rw [hw59];exact hb.drew
 refine qq 0 l1.v Kp0 (qq 1 (vp (some (p2.add 1))) Kp1 (qr 2 (vi aD) Kp2 (xl (isAgg3 _) (hb.c 3 1 (gS (gS (gS gZ))))) (qg 3 ?_)))
 obtain ⟨a5,hv8,h⟩:=h
 refine sxQ Kp3 (jP rfl) rfl (xi (runUnderlying101 _) (sizeOf157 _) hv8) (qq 4 (vp (some (a5.add 3))) Kp4 (qg 5 ?_))
 have ⟨h,hs⟩:=hs.hr (h w59)
 obtain ⟨v4,hv7,h⟩:=h
 refine sxQ Kp5 (jP rfl) rfl (xl (isAgg30 _) hv7) (qq 6 (vp (some (p3.add 5))) Kp6 (qr 7 (vi aC) Kp7 (xl (isAgg30 _) (hb.c 2 5 (gS (gS gZ)))) (qq 8 (vb (v4 == aC)) Kp8 (qq 9 (vb (v4 == aC)) Kp9 (wn (jJ (er (kG (jW (kG (jW (rs1 results94 ⟨(v4 == aC),rfl,h⟩))))))))))))
 refine eg (qb (ln (cbr h ?_ ?_)))<;>intro h
 refine rg (q (q3 (xl (isAgg3 _) (hb.d 2 2 (gS (gS gZ)))) (q (jB (kD (jJ ⟨aI,H,hm,hs,hb,h⟩))))))
 refine jA (eg (qb (ln (zC (fun ρ wJ=>∃b48'0:Bool,∃HJ:NP,((aA == 7)=b48'0)∧Hst w0 H w HJ wJ∧HB HJ wJ [(p5,(Aa aP aO aU aV aW aX aY),86),(p4,(Aa aE aQ aR aS aT aM aN),86),(p3,(Aa aA aG aI aK aL aC aF),86),(p2,(Ad aB aD aH aJ),157)]∧Has ρ [(2,l1.v),(9,(vp (some p2))),(10,(vp (some p3))),(15,(vp (some p5))),(16,(vi aG)),(218,(vb (cond b48'0 (aA == 7) (aA == 8))))]) ?_ ?_))))
 refine jZ (t:=(aA == 7)) (by kernel_rfl) (fun hc13=>?_) (fun hc13=>?_)
 refine jC (jJ ⟨true,_,hc13,hs,hb,hm⟩)
 refine rg (qb (ln ⟨false,_,hc13,hs,hb,hm⟩))
 rintro ρ w60 ⟨b48'0,H52,he0,hs,hb,hH⟩
 subst he0
 refine jQ hH (jJ (cbr h ?_ ?_))<;>intro h
 refine jC (kD ?_)
 have ⟨h,hs⟩:=hs.hr (h H52 w60)
 refine jJ ⟨aG,H52,hm,hs,hb,h⟩
 refine eg (q (ln (er (kG (jW (kG (jW ?_)))))))
 have ⟨h,hs⟩:=hs.hr (h H52 w60)
 refine rs1 results94 ⟨false,rfl,h⟩
 refine jC (kD (jJ (eg (q (ln (er (rs1 results94 ⟨false,rfl,h⟩)))))))
 refine cbr h ?_ ?_<;>intro h
 refine rg (qc (q3 (xl (isAgg3 _) (hb.d 3 2 (gS (gS (gS gZ))))) (qi (runUnderlying101 _) (sizeOf157 _) h fun a6 h=>q (ql (isAgg30 _) h fun v5 h=>sc call43 (h.mono fun e w61 ⟨aZ,bA,bB,bC,bD,bE,bF,r3,k,hk,h⟩=>have ⟨hs,hb⟩:=hk.hh hs hb;⟨_,k,?_⟩)))))
 refine qc (vG (jP rfl) (xo p5 (Aa aZ bA bB bC bD bE bF) (sizeOf86 _) (hb.k0 0 7 gZ)) ?_)
 intro w62 hn7
 obtain ⟨hs,hb⟩:=hb.st1 0 hs hn7 gZ
 refine jB ?_
 have ⟨h,hs⟩:=hs.hr (h w62)
 refine jJ ⟨aZ,bA,bB,bC,bD,bE,bF,H,hm,hs,hb,h⟩
 refine jC (jJ ⟨0,0,0,0,⟨#[]⟩,0,0,H,hm,hs,hb,h⟩)
 refine cbr h ?_ ?_<;>intro h
 refine rg (qc (q3 (xl (isAgg3 _) (hb.d 3 1 (gS (gS (gS gZ))))) (qi (runUnderlying101 _) (sizeOf157 _) h fun a7 h=>q ?_)))
 have ⟨h,hs⟩:=hs.hr (h H33 w37)
 refine ql (isAgg30 _) h fun v6 h=>sc call43 (h.mono fun e w63 ⟨bJ,bK,bL,bM,bN,bO,bP,r4,k,hk,h⟩=>have ⟨hs,hb⟩:=hk.hh hs hb;⟨_,k,?_⟩)
 refine qc (vG (jP rfl) (xo p4 (Aa bJ bK bL bM bN bO bP) (sizeOf86 _) (hb.k0 1 7 (gS gZ))) ?_)
 intro w64 hn8
 obtain ⟨hs,hb⟩:=hb.st1 1 hs hn8 (gS gZ)
 refine jB ?_
 have ⟨h,hs⟩:=hs.hr (h w64)
 refine jJ ⟨bJ,bK,bL,bM,bN,bO,bP,H33,hm,hs,hb,h⟩
 refine jC ?_
 have ⟨h,hs⟩:=hs.hr (h H33 w37)
 refine jJ ⟨0,0,0,0,⟨#[]⟩,0,0,H33,hm,hs,hb,h⟩
def m_U_l1 (p1:Option Addr) (given1 l1:Sl) (goal1 x1:Int) (wl1:World) (Kc1:Int→WP) (K:Int→Int→WP):Prop :=Br (decide (x1<(l1.len:Int))) (Calls prog 94 #[(vp p1),given1.v,l1.v,(vi x1)] wl1 (fun e w1=>∃r1,e=.returned (vb r1)∧Br (!r1) (K 80 x1 w1) (Kc1 (q6.wrap (x1+1)) w1))) (Br (((l1.len:Int):Int) == 0) (K 81 (l1.len:Int) wl1) (∃a1:Addr,At l1 (q6.wrap ((l1.len:Int) - 1)) 4 a1∧∃v1,wl1.cell? (a1.add 3)=some (vi v1)∧Br (v1 != goal1) (K 81 (l1.len:Int) wl1) (K 0 0 wl1)))
def m_U (p1:Option Addr) (given1 l1:Sl) (goal1:Int) (w0:World) (K:Int→Int→WP):Prop :=Br (Option.isNone p1) (K 7 0 w0) (∃(I1:Int→WP) (mu1:Int→World→Nat),I1 0 w0∧∀(x1:Int) (wl1:World),I1 x1 wl1→m_U_l1 p1 given1 l1 goal1 x1 wl1 (fun y'0 w'=>I1 y'0 w'∧mu1 y'0 w'<mu1 x1 wl1) K)
theorem w_U (p1 given1 l1 goal1 w0 K) (h:m_U p1 given1 l1 goal1 w0 K):
  Calls prog 52 #[(vp p1),given1.v,l1.v,(vi goal1)] w0 (fun e w'=>∃r2 r3,e=.returned (.tuple #[(vi r2),(vi r3)])∧K r2 r3 w'):=by
 refine cw (args:=[(vp p1),given1.v,l1.v,(vi goal1)]) func52 ntmps52 (eg (q0 (vi 0) (q0 (vi 0) (ln (jA (eg (q0 (vp p1) (q2 (vb (Option.isNone p1)) (kC (by kernel_rfl) rfl underlying26) ?_))))))))
 refine ln (cbr h ?_ ?_)<;>intro h
 refine eg (qb (ln (er (jW (vD (.inl rfl) results52 (v:=(vi 7)) (by kernel_rfl) (v':=(vi 0)) (by kernel_rfl) ⟨7,0,rfl,h⟩)))))
 refine jC (jJ (jA (eg (qc (ln (jF ?_))))))
 obtain ⟨I1,mu1,h0,hr⟩:=h
 refine zI (σ:=Int×World) (fun s ρ w=>w=s.2∧Has ρ [(0,(vp p1)),(1,given1.v),(2,l1.v),(3,(vi goal1)),(14,(vi (l1.len:Int))),(15,(vi s.1))]∧I1 s.1 s.2) (fun s=>mu1 s.1 s.2) (0,w0) ⟨rfl,hm,h0⟩ ?_
 rintro ⟨x1,wl1⟩ ρ w ⟨hw,hH,hI⟩
 dsimp only at hw hH;subst w
 have h:=hr x1 wl1 hI
 refine jO hH (eg (q (ln (jA (cbr h ?_ ?_)))))<;>intro h
 refine jC (jJ (jA (jF (eg (qb (ln (eg (qd (sc call94 (h.mono fun e w1 ⟨r1,k,h⟩=>⟨_,k,?_⟩))))))))))
 refine q (ln (cbr h ?_ ?_))<;>intro h
 refine eg (qc (ln (er (kG (jW (jW (kG (jW (vD (.inl rfl) results52 (v:=(vi 80)) (by kernel_rfl) (v':=(vi x1)) (by kernel_rfl) ⟨80,x1,rfl,h⟩)))))))))
 refine jC (kD (jJ (rg (qb (ln ⟨((q6.wrap (x1+1)),w1),⟨rfl,hm,h.1⟩,h.2⟩)))))
 refine zE (kP (kP (kO (jJ (jA (eg (q0 l1.v (q0 (vi (l1.len:Int)) (q0 (vb (((l1.len:Int):Int) == 0)) (q0 (vb (((l1.len:Int):Int) == 0)) ?_))))))))))
 obtain ⟨hg1,h⟩|⟨hg1,h⟩:=h.br
 refine sj4 29 hg1 (sj5 29 hg1 (q2 (vb true) (xT hg1) (ln (zS (by kernel_rfl) (eg (q0 l1.v (q0 (vi (l1.len:Int)) (q0 (vi 81) (q0 (vi (l1.len:Int)) (ln (er (jW (vD (.inl rfl) results52 (v:=(vi 81)) (by kernel_rfl) (v':=(vi (l1.len:Int))) (by kernel_rfl) ⟨81,(l1.len:Int),rfl,h⟩)))))))))))))
 refine qk 29 hg1 (qk 29 hg1 (qk 29 hg1 (qk 29 hg1 ?_)))
 obtain ⟨a1,hv2,h⟩:=h
 refine q4 29 hg1 (xi (runUnderlying101 _) (sizeOf157 _) hv2) (qk 29 hg1 ?_)
 obtain ⟨v1,hv1,h⟩:=h
 refine q4 29 hg1 (xl (isAgg30 _) hv1) (qk 29 hg1 (qk 29 hg1 (q2 (vb (v1 != goal1)) (xF hg1) (ln (cbr h ?_ ?_)))))<;>intro h
 refine eg (qd (ln (er (jW (vD (.inl rfl) results52 (v:=(vi 81)) (by kernel_rfl) (v':=(vi (l1.len:Int))) (by kernel_rfl) ⟨81,(l1.len:Int),rfl,h⟩)))))
 refine jC (jJ (eg (qb (ln (er (vD (.inl rfl) results52 (v:=(vi 0)) (by kernel_rfl) (v':=(vi 0)) (by kernel_rfl) ⟨0,0,rfl,h⟩))))))
def m_X1 (k1:Option Addr) (t1:Int) (w0:World) (K:Bool→WP):Prop :=Calls prog 51 #[(vp k1),(vi t1)] w0 (fun e w1=>∃r1:Sl,∃r2,e=.returned (.tuple #[r1.v,(vb r2)])∧K r2 w1)
theorem w_X1 (k1 t1 w0 K) (h:m_X1 k1 t1 w0 K):
  Calls prog 53 #[(vp k1),(vi t1)] w0 (fun e w'=>∃r3,e=.returned (vb r3)∧K r3 w'):=by
 refine cw (args:=[(vp k1),(vi t1)]) func53 ntmps53 (eg (q0 (vb false) (ln (eg (q0 (vp k1) (q0 (vi t1) ?_))))))
 refine sc call51 (h.mono fun e w1 ⟨r1,r2,k,h⟩=>⟨_,k,?_⟩)
 refine q (qd (ln (eg (qb (jB (jJ (er (rs1 results53 ⟨r2,rfl,h⟩))))))))
def m_Y1 (k1:Option Addr) (t1:Int) (w0:World) (K:Bool→WP):Prop :=Br (Option.isNone k1) (K false w0) (∃a1,k1=some a1∧∃v1:Option Nat,w0.cell? (a1.add 2)=some (.map v1)∧∃vrule1 vfrom1 ok1,(Instr.lookup 107 (.map v1) (vi t1) true).run prog w0=.ok (.tuple #[(.agg #[(vi vrule1),(vi vfrom1)]),(vb ok1)]) w0∧∀H1 w2,Hst w0 None w0 H1 w2→K ok1 w2)
theorem w_Y1 (k1 t1 w0 K) (h:m_Y1 k1 t1 w0 K):
  Calls prog 54 #[(vp k1),(vi t1)] w0 (fun e w'=>∃r1,e=.returned (vb r1)∧K r1 w'):=by
 refine cw (args:=[(vp k1),(vi t1)]) func54 ntmps54 ?_
 obtain ⟨hs,hb⟩:=st0 w0
 refine eg (q (ln (jA (eg (q (q2 (vb (Option.isNone k1)) (kC (by kernel_rfl) rfl underlying55) (ln (cbr h ?_ ?_))))))))<;>intro h
 refine eg (q (ln (er (jW (rs1 results54 ⟨false,rfl,h⟩)))))
 refine jC (jJ (eg (q (qm h fun a1 h=>q (ql (isAgg107 _) h fun v1 h=>q ?_)))))
 obtain ⟨vrule1,vfrom1,ok1,hv1,h⟩:=h
 refine q2 (.tuple #[(.agg #[(vi vrule1),(vi vfrom1)]),(vb ok1)]) (kQ (by kernel_rfl) (by kernel_rfl) hv1) (qc (nw3 [(vi 0),(vi 0)] 113 hs hb (jT (zeroValue113 _) rfl) fun p1 w1 H1 hs hb=>sbx 0 [(vi vrule1),(vi vfrom1)] (sizeOf113 _) hs hb gZ fun w2 hs hb=>q (ln (eg (qb (ln (er ?_)))))))
 have ⟨h,hs⟩:=hs.hr (h H1 w2)
 refine rs1 results54 ⟨ok1,rfl,h⟩
def m_Z1 (k1:Option Addr) (w0:World) (K:Sl→WP):Prop :=Br (Option.isNone k1) (K Sl.nil w0) (∃a1,k1=some a1∧∃v1:Sl,w0.cell? (a1.add 1)=some v1.v∧Calls prog 56 #[v1.v] w0 (fun e w1=>∃r1:Sl,e=.returned r1.v∧K r1 w1))
theorem w_Z1 (k1 w0 K) (h:m_Z1 k1 w0 K):
  Calls prog 55 #[(vp k1)] w0 (fun e w'=>∃r2:Sl,e=.returned r2.v∧K r2 w'):=by
 refine cw (args:=[(vp k1)]) func55 ntmps55 (eg (q0 Sl.nil.v (ln (jA (eg (q0 (vp k1) (q2 (vb (Option.isNone k1)) (kC (by kernel_rfl) rfl underlying55) (jB ?_))))))))
 refine jJ (cbr h ?_ ?_)<;>intro h
 refine eg (q (ln (er (jW (rs1 results55 ⟨Sl.nil,rfl,h⟩)))))
 refine jC (jJ (eg (q (qm h fun a1 h=>q (ql (isAgg52 _) h fun v1 h=>sc call56 (h.mono fun e w1 ⟨r1,k,h⟩=>⟨_,k,?_⟩))))))
 refine q (ln (er (rs1 results55 ⟨r1,rfl,h⟩)))
def m_A2 (k1:Option Addr) (w0:World) (K:Sl→WP):Prop :=Br (Option.isNone k1) (K Sl.nil w0) (∃a1,k1=some a1∧∃v1:Sl,w0.cell? (a1.add 3)=some v1.v∧Calls prog 99 #[v1.v] w0 (fun e w1=>∃r1:Value,e=.returned r1∧Calls prog 98 #[r1] w1 (fun e w2=>∃r2:Sl,e=.returned r2.v∧K r2 w2)))
theorem w_A2 (k1 w0 K) (h:m_A2 k1 w0 K):
  Calls prog 62 #[(vp k1)] w0 (fun e w'=>∃r3:Sl,e=.returned r3.v∧K r3 w'):=by
 refine cw (args:=[(vp k1)]) func62 ntmps62 (eg (q0 Sl.nil.v (ln (jA (eg (q0 (vp k1) (q2 (vb (Option.isNone k1)) (kC (by kernel_rfl) rfl underlying55) (jB ?_))))))))
 refine jJ (cbr h ?_ ?_)<;>intro h
 refine eg (q (ln (er (jW (rs1 results62 ⟨Sl.nil,rfl,h⟩)))))
 refine jC (jJ (eg (q (qm h fun a1 h=>q (ql (isAgg52 _) h fun v1 h=>sc call99 (h.mono fun e w1 ⟨r1,k,h⟩=>⟨_,k,?_⟩))))))
 refine sc call98 (h.mono fun e w2 ⟨r2,k,h⟩=>⟨_,k,?_⟩)
 refine q (ln (er (rs1 results62 ⟨r2,rfl,h⟩)))
def m_V_j1 (k1:Option Addr) (aC who1:Int) (H:NP) (w:World) (K:Int→Int→Bool→Bool→WP):Prop :=∃a2,k1=some a2∧∃v2,w.cell? a2=some (vp v2)∧Calls prog 129 #[(vp v2),(.agg #[(vi 6),(vi who1),(vi 0),(vu 0),ve,(vi 0),(vi 0)])] w (fun e w4=>∃r2 r3,e=.returned (.tuple #[(vi r2),(vb r3)])∧Kept H w w4∧∃C1:WP,C1 w4.drew∧∀w5,w5=w4.drew→Br r3 (Calls prog 54 #[(vp k1),(vi r2)] w5 (fun e w6=>∃r4,e=.returned (vb r4)∧C1 w6∧Kept H w5 w6∧K aC r2 false r4 w6)) (K aC r2 false false w5))
def m_V (k1:Option Addr) (t1:Int) (w0:World) (K:Int→Int→Bool→Bool→WP):Prop :=∃a1,k1=some a1∧∃v1,w0.cell? a1=some (vp v1)∧Calls prog 43 #[(vp v1),(vi t1)] w0 (fun e w1=>∃aA aG aI aK aL aC aF r1,e=.returned (.tuple #[(Ab aA aG aI aK aL aC aF),(vb r1)])∧Kept None w0 w1∧Br (!r1) (∀H1 w3,Hst w0 None w1 H1 w3→K 0 0 false false w3) (∀y1:Bool,y1=(cond (aA == 1) (aA == 1) (cond (aA == 2) (aA == 2) (aA == 3)))→Br y1 (∀H2 w7,Hst w0 None w1 H2 w7→K 0 0 true true w7) (Br (aA == 4) (∀H2 w8,Hst w0 None w1 H2 w8→K aC aF false true w8) (Br (aA == 5) (∀H2 w7,Hst w0 None w1 H2 w7→K aC 0 false true w7) (Br (aA == 6) (∀H2 w7,Hst w0 None w1 H2 w7→K 0 0 false false w7) (∀H3 w9,Hst w0 None w1 H3 w9→m_V_j1 k1 aC (cond (aA == 9) aI aG) H3 w9 K))))))
theorem w_V (k1 t1 w0 K) (h:m_V k1 t1 w0 K):
  Calls prog 93 #[(vp k1),(vi t1)] w0 (fun e w'=>∃r5 r6 r7 r8,e=.returned (.tuple #[(vi r5),(vi r6),(vb r7),(vb r8)])∧K r5 r6 r7 r8 w'):=by
 refine cw (args:=[(vp k1),(vi t1)]) func93 ntmps93 ?_
 obtain ⟨hs,hb⟩:=st0 w0
 refine eg (qd (ln (eg (q (qm h fun a1 h=>q (ql (isAgg26 _) h fun v1 h=>q (sc call43 (h.mono fun e w1 ⟨aA,aG,aI,aK,aL,aC,aF,r1,k,hk,h⟩=>have ⟨hs,hb⟩:=hk.hh hs hb;⟨_,k,?_⟩))))))))
 refine qc (nw3 (Ag 0 0 0 0 0 0) 86 hs hb (jT (zeroValue86 _) rfl) fun p1 w2 H1 hs hb=>sbx 0 (Aa aA aG aI aK aL aC aF) (sizeOf86 _) hs hb gZ fun w3 hs hb=>q (ln (jA (eg (qb (ln (cbr h ?_ ?_)))))))<;>intro h
 refine eg (qd (ln (er (jW ?_))))
 have ⟨h,hs⟩:=hs.hr (h H1 w3)
 refine jCY (.inl rfl) results93 (v:=(vi 0)) (by kernel_rfl) (v':=(vi 0)) (by kernel_rfl) (v'':=(vb false)) (by kernel_rfl) (v3:=(vb false)) (by kernel_rfl) ⟨0,0,false,false,rfl,h⟩
 refine jC (jJ (eg (q (q3 (xl (isAgg3 _) (hb.d 0 1 gZ)) (q (ln (jA (eg (q (q3 (xl (isAgg3 _) (hb.d0 0 gZ)) (ln (zX (fun ρ w=>∃who1,∃H:NP,Has ρ [(0,(vp k1)),(8,(vp (some p1))),(10,(vi who1))]∧Hst w0 H w H w∧HB H w [(p1,(Aa aA aG aI aK aL aC aF),86)]∧m_V_j1 k1 aC who1 H w K) ?_ ?_))))))))))))
 rintro ρ w ⟨who1,H,hH,hs,hb,h⟩
 refine jO hH (eg (q (qm h fun a2 h=>q (ql (isAgg26 _) h fun v2 h=>qb (sc call129 (h.mono fun e w4 ⟨r2,r3,k,hk,h⟩=>have ⟨hs,hb⟩:=hk.hh hs hb;⟨_,k,?_⟩))))))
 refine q (qd (ln (jA ?_)))
 obtain ⟨C1,hC,h⟩:=h
 refine dr2 (fun x=>C1 x∧HB H x _) [7] [] ⟨hC,hb.drew⟩ h hs hb fun w5 hs hb h=>?_
 have hs:=hs.here
 refine qx 0 (vp (some (p1.add 5))) Kp0 (qz 1 (vi aC) Kp1 (fun w' hw'=>(xl (isAgg30 _) (hw'.2.cell 0 5 gZ (by kernel_rfl)))) (qx 2 (vi r2) Kp2 (qx 3 (vb r3) Kp3 (qx 4 (vb r3) Kp4 (qg 5 ?_)))))
 obtain ⟨hg1,h⟩|⟨hg1,h⟩:=h.br
 refine sz (v:=(vp k1)) Kp5 (wy 61 hg1) (fun _ _=>(by kernel_rfl)) (qw 6 (vi r2) Kp6 (wy 61 hg1) (lg 7 (uR Kp7 (wy 61 hg1) (by kernel_rfl) (xc call54) (h.mono ?_))))
 rintro e w6 ⟨r4,rfl,hC,hk,h⟩
 refine ⟨_,rfl,.inr ⟨hC,hb.kept hk⟩,?_⟩
 obtain ⟨hs,hb⟩:=hk.hh hs hb
 refine qz 8 (vb r4) Kp8 (fun _ _=>(xT hg1)) (qx 9 (vi aC) Kp9 (qx 10 (vi r2) (jL (S8 (jE (jE jK)))) (qx 11 (vb false) (jL (S8 (jE (jE (jE jK))))) (qx 12 (vb r4) (jL (S8 (S4 jK))) (wn (jJ (er (jCY (.inl rfl) results93 (v:=(vi aC)) (by kernel_rfl) (v':=(vi r2)) (by kernel_rfl) (v'':=(vb false)) (by kernel_rfl) (v3:=(vb r4)) (by kernel_rfl) ⟨aC,r2,false,r4,rfl,h⟩))))))))
 refine kY Kp5 (jS rfl (yD 61 hg1) rfl) (qn 6 Kp6 (jS rfl (yD 61 hg1) rfl) (lg 7 (kY Kp7 (jS rfl (yD 61 hg1) rfl) (qz 8 (vb false) Kp8 (fun _ _=>(xF hg1)) (qx 9 (vi aC) Kp9 (qx 10 (vi r2) (jL (S8 (jE (jE jK)))) (qx 11 (vb false) (jL (S8 (jE (jE (jE jK))))) (qx 12 (vb false) (jL (S8 (S4 jK))) (wn (jJ (er (jCY (.inl rfl) results93 (v:=(vi aC)) (by kernel_rfl) (v':=(vi r2)) (by kernel_rfl) (v'':=(vb false)) (by kernel_rfl) (v3:=(vb false)) (by kernel_rfl) ⟨aC,r2,false,false,rfl,h⟩))))))))))))
 refine jF (jA (eg (qb (ln (zC (fun ρ wJ=>∃b1'0 b1'1 y1:Bool,∃HJ:NP,((aA == 1)=b1'0)∧((aA == 2)=b1'1)∧(y1=(cond b1'0 (aA == 1) (cond b1'1 (aA == 2) (aA == 3))))∧Hst w0 None w1 HJ wJ∧HB HJ wJ [(p1,(Aa aA aG aI aK aL aC aF),86)]∧Has ρ [(0,(vp k1)),(8,(vp (some p1))),(10,(vi aG)),(26,(vi aA)),(27,(vb y1))]) ?_ ?_)))))
 refine jZ (t:=(aA == 1)) (by kernel_rfl) (fun hc4=>?_) (fun hc4=>?_)
 refine jC (jJ ⟨true,_,_,_,hc4,rfl,rfl,hs,hb,hm⟩)
 refine eg (qb (ln (jZ (t:=(aA == 2)) (by kernel_rfl) (fun hc5=>?_) (fun hc5=>?_))))
 refine jC (jJ ⟨false,true,_,_,hc4,hc5,rfl,hs,hb,hm⟩)
 refine rg (qb (ln ⟨false,false,_,_,hc4,hc5,rfl,hs,hb,hm⟩))
 rintro ρ w7 ⟨b1'0,b1'1,y1,H2,he0,he1,hy1,hs,hb,hH⟩
 subst he0
 subst he1
 have h:=h y1 hy1
 refine jQ hH (jJ (cbr h ?_ ?_))<;>intro h
 refine eg (qd (ln (er (kG (jW ?_)))))
 have ⟨h,hs⟩:=hs.hr (h H2 w7)
 refine jCY (.inl rfl) results93 (v:=(vi 0)) (by kernel_rfl) (v':=(vi 0)) (by kernel_rfl) (v'':=(vb true)) (by kernel_rfl) (v3:=(vb true)) (by kernel_rfl) ⟨0,0,true,true,rfl,h⟩
 refine eg (qb (ln (cbr h ?_ ?_)))<;>intro h
 refine jA (kH (by kernel_rfl) (by kernel_rfl) (by kernel_rfl) (by kernel_rfl) ?_)
 intro w8 hw8
 have hs:Hst w0 None w1 H2 w8:=by rw [hw8];exact hs.drew
 have hb:HB H2 w8 [(p1,(Aa aA aG aI aK aL aC aF),86)]:=by rw [hw8];exact hb.drew
 refine qq 0 (vp (some (p1.add 5))) Kp0 (qr 1 (vi aC) Kp1 (xl (isAgg30 _) (hb.c 0 5 gZ)) (qq 2 (vp (some (p1.add 6))) Kp2 (qr 3 (vi aF) Kp3 (xl (isAgg30 _) (hb.c 0 6 gZ)) (qq 4 (vi aC) Kp4 (qq 5 (vi aF) Kp5 (qq 6 (vb false) Kp6 (qq 7 (vb true) Kp7 (wn (jJ (er (kG (jW ?_))))))))))))
 have ⟨h,hs⟩:=hs.hr (h H2 w8)
 refine jCY (.inl rfl) results93 (v:=(vi aC)) (by kernel_rfl) (v':=(vi aF)) (by kernel_rfl) (v'':=(vb false)) (by kernel_rfl) (v3:=(vb true)) (by kernel_rfl) ⟨aC,aF,false,true,rfl,h⟩
 refine eg (qb (ln (cbr h ?_ ?_)))<;>intro h
 refine eg (q (q3 (xl (isAgg30 _) (hb.d 0 5 gZ)) (qd (ln (er (kG (jW ?_)))))))
 have ⟨h,hs⟩:=hs.hr (h H2 w7)
 refine jCY (.inl rfl) results93 (v:=(vi aC)) (by kernel_rfl) (v':=(vi 0)) (by kernel_rfl) (v'':=(vb false)) (by kernel_rfl) (v3:=(vb true)) (by kernel_rfl) ⟨aC,0,false,true,rfl,h⟩
 refine eg (qb (ln (cbr h ?_ ?_)))<;>intro h
 refine eg (qd (ln (er (kG (jW ?_)))))
 have ⟨h,hs⟩:=hs.hr (h H2 w7)
 refine jCY (.inl rfl) results93 (v:=(vi 0)) (by kernel_rfl) (v':=(vi 0)) (by kernel_rfl) (v'':=(vb false)) (by kernel_rfl) (v3:=(vb false)) (by kernel_rfl) ⟨0,0,false,false,rfl,h⟩
 refine eg (qb (ln (zC (fun ρ wJ=>∃b2'0:Bool,∃HJ:NP,((aA == 9)=b2'0)∧Hst w0 None w1 HJ wJ∧HB HJ wJ [(p1,(Aa aA aG aI aK aL aC aF),86)]∧Has ρ [(0,(vp k1)),(8,(vp (some p1))),(10,(vi (cond b2'0 aI aG)))]) ?_ ?_)))
 refine jZ (t:=(aA == 9)) (by kernel_rfl) (fun hc11=>?_) (fun hc11=>?_)
 refine rg (q (q3 (xl (isAgg3 _) (hb.d 0 2 gZ)) (q (ln ⟨true,_,hc11,hs,hb,hm⟩))))
 refine jC (jJ ⟨false,_,hc11,hs,hb,hm⟩)
 rintro ρ w9 ⟨b2'0,H3,he0,hs,hb,hH⟩
 subst he0
 refine jQ hH (kD ?_)
 have ⟨h,hs⟩:=hs.hr (h H3 w9)
 refine jJ ⟨(cond (aA == 9) aI aG),H3,hm,hs,hb,h⟩
def m_K_j1 (t1:Int) (cap1 cap2 cap5:Addr) (ok3:Bool) (bQ bR:Int) (bS bT:Int) (H:NP) (w:World) (K:Int→Bool→WP):Prop :=Br (!ok3) (∃v7:Option Nat,w.cell? cap2=some (.map v7)∧∃w5:World,(Instr.mapUpdate 153 (.map v7) (vi t1) (vb true)).run prog w=.ok () w5∧Kept H w w5∧K 0 false w5) (∃v8:Option Nat,w.cell? cap1=some (.map v8)∧∃v9:Sl,w.cell? cap5=some v9.v∧∃w6:World,(Instr.mapUpdate 152 (.map v8) (vi t1) (vi (v9.len:Int))).run prog w=.ok () w6∧Kept H w w6∧∃v10:Sl,w6.cell? cap5=some v10.v∧∀p3 w7,New w6 (.cells #[(vi bQ),(vi bR),(vi bS),(vi bT)] 157) p3 w7→∃s1:Sl,∃w8:World,(Builtin.append_ #[101,101] 101 #[v10.v,(Sl.mk (some p3) 1 1).v]).run prog w7=.ok s1.v w8∧Kept H w7 w8∧zQ w8 cap5∧¬ H cap5.block∧∀w9,w9=w8.setCell cap5 s1.v→∃v11:Option Nat,w9.cell? cap1=some (.map v11)∧∃v12,(Instr.lookup 152 (.map v11) (vi t1) false).run prog w9=.ok (vi v12) w9∧K v12 true w9)
def m_K_j2 (t1:Int) (cap1 cap2:Addr) (cap4 cap5:Addr) (r4:Int) (ok4:Bool) (bG bH:Int) (bU bI:Int) (w0:World) (H:NP) (w:World) (K:Int→Bool→WP):Prop :=Br (ok4 && (decide (r4>0))) (∀H5 w19,Hst w0 H w H5 w19→∃v15:Value,w19.cell? cap4=some v15∧∃(f2:FuncId) (fs2 cs2:Array Value),v15=.func (.func f2) fs2 cs2∧(∀args w,(callFunc f2 args).run prog w=.ok (.enter f2 args) w)∧Calls prog f2 (fs2++#[(vi r4)]++cs2) w19 (fun e w20=>∃r7 r8,e=.returned (.tuple #[(vi r7),(vb r8)])∧Kept H5 w19 w20∧∀w21,Hst w0 H5 w20 H5 w21→m_K_j1 t1 cap1 cap2 cap5 r8 bG bH r7 bI H5 w21 K)) (∀H5 w19,Hst w0 H w H5 w19→m_K_j1 t1 cap1 cap2 cap5 ok4 bG bH bU bI H5 w19 K)
def m_K (t1:Int) (cap1 cap2:Addr) (cap3 cap4 cap5:Addr) (w0:World) (K:Int→Bool→WP):Prop :=∃v1:Option Nat,w0.cell? cap1=some (.map v1)∧∃v2 ok1,(Instr.lookup 152 (.map v1) (vi t1) true).run prog w0=.ok (.tuple #[(vi v2),(vb ok1)]) w0∧Br ok1 (K v2 true w0) (∀H1 w2,Hst w0 None w0 H1 w2→∃v3:Option Nat,w2.cell? cap2=some (.map v3)∧∃v4,(Instr.lookup 153 (.map v3) (vi t1) false).run prog w2=.ok (vb v4) w2∧∃v5,w2.cell? cap3=some (vp v5)∧∃a1,v5=some a1∧∃v6:Option Nat,w2.cell? (a1.add 2)=some (.map v6)∧∃vrule1 vfrom1 ok2,(Instr.lookup 107 (.map v6) (vi t1) true).run prog w2=.ok (.tuple #[(.agg #[(vi vrule1),(vi vfrom1)]),(vb ok2)]) w2∧Br ok2 (Br (vrule1 != 0) (∀H2 w10,Hst w0 H1 w2 H2 w10→∃v13:Value,w10.cell? cap4=some v13∧∃(f1:FuncId) (fs1 cs1:Array Value),v13=.func (.func f1) fs1 cs1∧(∀args w,(callFunc f1 args).run prog w=.ok (.enter f1 args) w)∧Calls prog f1 (fs1++#[(vi vfrom1)]++cs1) w10 (fun e w11=>∃r1 r2,e=.returned (.tuple #[(vi r1),(vb r2)])∧Kept H2 w10 w11∧∀w12,Hst w0 H2 w11 H2 w12→m_K_j1 t1 cap1 cap2 cap5 (!v4) vrule1 r1 0 t1 H2 w12 K)) (∀H2 w10,Hst w0 H1 w2 H2 w10→m_K_j1 t1 cap1 cap2 cap5 (!v4) vrule1 0 0 t1 H2 w10 K)) (Br (!v4) (∀H2 w4,Hst w0 H1 w2 H2 w4→∃v14,w4.cell? cap3=some (vp v14)∧Calls prog 93 #[(vp v14),(vi t1)] w4 (fun e w13=>∃r3 r4 r5 r6,e=.returned (.tuple #[(vi r3),(vi r4),(vb r5),(vb r6)])∧Kept H2 w4 w13∧Br (r6 && (decide (r3>0))) (∀H4 w18,Hst w0 H2 w13 H4 w18→∃v16:Value,w18.cell? cap4=some v16∧∃(f3:FuncId) (fs3 cs3:Array Value),v16=.func (.func f3) fs3 cs3∧(∀args w,(callFunc f3 args).run prog w=.ok (.enter f3 args) w)∧Calls prog f3 (fs3++#[(vi r3)]++cs3) w18 (fun e w22=>∃r9 r10,e=.returned (.tuple #[(vi r9),(vb r10)])∧Kept H4 w18 w22∧∀w23,Hst w0 H4 w22 H4 w23→m_K_j2 t1 cap1 cap2 cap4 cap5 r4 r10 (cond r5 4 5) r9 0 t1 w0 H4 w23 K)) (∀H4 w18,Hst w0 H2 w13 H4 w18→m_K_j2 t1 cap1 cap2 cap4 cap5 r4 r6 (cond r5 4 5) 0 0 t1 w0 H4 w18 K))) (∀H2 w4,Hst w0 H1 w2 H2 w4→m_K_j1 t1 cap1 cap2 cap5 (!v4) 0 0 0 t1 H2 w4 K)))
theorem w_K (t1 cap1 cap2 cap3 cap4 cap5 w0 K) (h:m_K t1 cap1 cap2 cap3 cap4 cap5 w0 K):
  Calls prog 92 #[(vi t1),(vp (some cap1)),(vp (some cap2)),(vp (some cap3)),(vp (some cap4)),(vp (some cap5))] w0 (fun e w'=>∃r11 r12,e=.returned (.tuple #[(vi r11),(vb r12)])∧K r11 r12 w'):=by
 refine cw (args:=[(vi t1),(vp (some cap1)),(vp (some cap2)),(vp (some cap3)),(vp (some cap4)),(vp (some cap5))]) func92 ntmps92 ?_
 obtain ⟨hs,hb⟩:=st0 w0
 refine eg (qb (ln (jA (eg (ql (isAgg152 _) h fun v1 h=>q ?_)))))
 obtain ⟨v2,ok1,hv19,h⟩:=h
 refine q2 (.tuple #[(vi v2),(vb ok1)]) (kQ (by kernel_rfl) (by kernel_rfl) hv19) (q (qd (ln (eg (q (jB (jJ (cbr h ?_ ?_))))))))<;>intro h
 refine eg (qc (ln (er (jW (vD (.inl rfl) results92 (v:=(vi v2)) (by kernel_rfl) (v':=(vb true)) (by kernel_rfl) ⟨v2,true,rfl,h⟩)))))
 refine jC (jJ (eg (qb (nw3 (Ad 0 0 0 0) 157 hs hb (jT (zeroValue157 _) rfl) fun p1 w1 H1 hs hb=>sbx 0 (Ad 0 0 0 t1) (sizeOf157 _) hs hb gZ fun w2 hs hb=>ln (eg ?_)))))
 have ⟨h,hs⟩:=hs.hr (h H1 w2)
 refine ql (isAgg153 _) h fun v3 h=>q ?_
 obtain ⟨v4,hv17,h⟩:=h
 refine q2 (vb v4) (kQ (by kernel_rfl) (by kernel_rfl) hv17) (qb (ln (jA (eg (ql (isAgg55 _) h fun v5 h=>qm h fun a1 h=>q (ql (isAgg107 _) h fun v6 h=>q ?_))))))
 obtain ⟨vrule1,vfrom1,ok2,hv14,h⟩:=h
 refine q2 (.tuple #[(.agg #[(vi vrule1),(vi vfrom1)]),(vb ok2)]) (kQ (by kernel_rfl) (by kernel_rfl) hv14) (qc (nw3 [(vi 0),(vi 0)] 113 hs hb (jT (zeroValue113 _) rfl) fun p2 w3 H2 hs hb=>sbx 0 [(vi vrule1),(vi vfrom1)] (sizeOf113 _) hs hb gZ fun w4 hs hb=>q (ln (eg (q (ln (zX (fun ρ w=>∃ok3 bQ bR bS bT,∃H:NP,Has ρ [(0,(vi t1)),(1,(vp (some cap1))),(2,(vp (some cap2))),(5,(vp (some cap5))),(11,(vp (some p1))),(12,(vb ok3))]∧Hst w0 H w H w∧HB H w [(p2,[(vi vrule1),(vi vfrom1)],113),(p1,(Ad bQ bR bS bT),157)]∧m_K_j1 t1 cap1 cap2 cap5 ok3 bQ bR bS bT H w K) ?_ ?_)))))))
 rintro ρ w ⟨ok3,bQ,bR,bS,bT,H,hH,hs,hb,h⟩
 refine jO hH (jA (eg (qb (ln (cbr h ?_ ?_)))))<;>intro h
 refine eg (ql (isAgg153 _) h fun v7 h=>q ?_)
 obtain ⟨w5,hv1,hk,h⟩:=h
 refine qL (jP rfl) (kW (by kernel_rfl) (by kernel_rfl) (by kernel_rfl) hv1) ?_
 obtain ⟨hs,hb⟩:=hk.hh hs hb
 refine ln (eg (qb (ln (er (jW (vD (.inl rfl) results92 (v:=(vi 0)) (by kernel_rfl) (v':=(vb false)) (by kernel_rfl) ⟨0,false,rfl,h⟩))))))
 refine jC (jJ (eg (ql (isAgg152 _) h fun v8 h=>q (ql (isAgg101 _) h fun v9 h=>q ?_))))
 obtain ⟨w6,hv7,hk,h⟩:=h
 refine qL (jP rfl) (kW (by kernel_rfl) (by kernel_rfl) (by kernel_rfl) hv7) ?_
 obtain ⟨hs,hb⟩:=hk.hh hs hb
 refine ln (eg (ql (isAgg101 _) h fun v10 h=>q2 (.agg #[(vi bQ),(vi bR),(vi bS),(vi bT)]) (xa p1 (Ad bQ bR bS bT) (isAgg157 _) (sizeOf157 _) (hb.r0 1 4 (gS gZ))) (vU (O:=(.cells #[(vi bQ),(vi bR),(vi bS),(vi bT)] 157)) (fun p=>(Sl.mk (some p) 1 1).v) (jP rfl) (zM (vs:=#[(0,(.agg #[(vi bQ),(vi bR),(vi bS),(vi bT)]))]) (by kernel_rfl) (by kernel_rfl)) ?_)))
 intro p3 w7 hn6
 have h:=h p3 w7 hn6
 obtain ⟨hs,hb⟩:=hs.nw hb hn6
 obtain ⟨s1,w8,hv5,hk,h⟩:=h
 refine st (v:=s1.v) (jP rfl) (zH (args:=#[v10.v,(Sl.mk (some p3) 1 1).v]) (by kernel_rfl) (fun _=>rfl) hv5) ?_
 obtain ⟨hs,hb⟩:=hk.hh hs hb
 refine st2 (sizeOf101 _) hs hb h fun w9 hs hb h=>ln (eg (ql (isAgg152 _) h fun v11 h=>q ?_))
 obtain ⟨v12,hv3,h⟩:=h
 refine q2 (vi v12) (kQ (by kernel_rfl) (by kernel_rfl) hv3) (qb (ln (er (vD (.inl rfl) results92 (v:=(vi v12)) (by kernel_rfl) (v':=(vb true)) (by kernel_rfl) ⟨v12,true,rfl,h⟩))))
 refine cbr h ?_ ?_<;>intro h
 refine eg (q (q3 (xl (isAgg3 _) (hb.d0 0 gZ)) (q (vG (jP rfl) (kV (a:=p1) (v:=(vi vrule1)) (by kernel_rfl) (by kernel_rfl) rfl (sizeOf3 _) (hb.canW0 1 (gS gZ) (by kernel_rfl))) ?_))))
 intro w10 hn7
 have hsb:Hst w0 H1 w2 H2 w10∧HB H2 w10 [(p2,[(vi vrule1),(vi vfrom1)],113),(p1,(Ad vrule1 0 0 t1),157)]:=by
  rw [hn7];exact hb.set0 (i:=1) (v:=(vi vrule1)) hs (gS gZ) (by kernel_rfl)
 obtain ⟨hs,hb⟩:=hsb
 refine ln (eg (q (q3 (xl (isAgg3 _) (hb.d0 0 gZ)) (q (ln (cbr h ?_ ?_))))))<;>intro h
 refine rg ?_
 have ⟨h,hs⟩:=hs.hr (h H2 w10)
 refine ql (isAgg154 _) h fun v13 h=>q (q3 (xl (isAgg30 _) (hb.d 0 1 gZ)) ?_)
 obtain ⟨f1,fs1,cs1,hp3,h⟩:=h
 obtain ⟨hf1,h⟩:=h
 refine jV (jP rfl) (uF (fs:=fs1) (caps:=cs1) (args:=#[(vi vfrom1)]) (by kernel_rfl) hp3 hf1 (by kernel_rfl) rfl) (h.mono ?_)
 rintro e w11 ⟨r1,r2,rfl,hk,h⟩
 refine ⟨_,rfl,?_⟩
 obtain ⟨hs,hb⟩:=hk.hh hs hb
 refine qd (vG (jP rfl) (kV (a:=(p1.add 1)) (v:=(vi r1)) (by kernel_rfl) (by kernel_rfl) rfl (sizeOf3 _) (hb.canW 1 1 (gS gZ) (by kernel_rfl))) ?_)
 intro w12 hn8
 have hsb:Hst w0 H2 w11 H2 w12∧HB H2 w12 [(p2,[(vi vrule1),(vi vfrom1)],113),(p1,(Ad vrule1 r1 0 t1),157)]:=by
  rw [hn8];exact hb.set (i:=1) 1 (v:=(vi r1)) hs (gS gZ) (by kernel_rfl)
 obtain ⟨hs,hb⟩:=hsb
 refine jB ?_
 have ⟨h,hs⟩:=hs.hr (h w12)
 refine jJ ⟨(!v4),vrule1,r1,0,t1,H2,hm,hs,hb,h⟩
 refine jC ?_
 have ⟨h,hs⟩:=hs.hr (h H2 w10)
 refine jJ ⟨(!v4),vrule1,0,0,t1,H2,hm,hs,hb,h⟩
 refine eg (q (ln (cbr h ?_ ?_)))<;>intro h
 refine eg ?_
 have ⟨h,hs⟩:=hs.hr (h H2 w4)
 refine ql (isAgg55 _) h fun v14 h=>q (sc call93 (h.mono fun e w13 ⟨r3,r4,r5,r6,k,hk,h⟩=>have ⟨hs,hb⟩:=hk.hh hs hb;⟨_,k,?_⟩))
 refine q (qd (qd (ln (jA (rg (qb (vG (jP rfl) (kV (a:=p1) (v:=(vi 5)) (by kernel_rfl) (by kernel_rfl) rfl (sizeOf3 _) (hb.canW0 1 (gS gZ) (by kernel_rfl))) ?_)))))))
 intro w14 hn9
 have hsb:Hst w0 H2 w13 H2 w14∧HB H2 w14 [(p2,[(vi vrule1),(vi vfrom1)],113),(p1,(Ad 5 0 0 t1),157)]:=by
  rw [hn9];exact hb.set0 (i:=1) (v:=(vi 5)) hs (gS gZ) (by kernel_rfl)
 obtain ⟨hs,hb⟩:=hsb
 refine q (ln (jA (eg (q (ln (zC (fun ρ wJ=>∃b1'0:Bool,∃HJ:NP,(r5=b1'0)∧Hst w0 H2 w13 HJ wJ∧HB HJ wJ [(p2,[(vi vrule1),(vi vfrom1)],113),(p1,(Ad (cond b1'0 4 5) 0 0 t1),157)]∧Has ρ [(0,(vi t1)),(1,(vp (some cap1))),(2,(vp (some cap2))),(4,(vp (some cap4))),(5,(vp (some cap5))),(11,(vp (some p1))),(12,(vb r6)),(15,(vi r3)),(16,(vi r4))]) ?_ ?_))))))
 refine jZ (t:=r5) (by kernel_rfl) (fun hc7=>?_) (fun hc7=>?_)
 refine rg (q (vG (jP rfl) (kV (a:=p1) (v:=(vi 4)) (by kernel_rfl) (by kernel_rfl) rfl (sizeOf3 _) (hb.canW0 1 (gS gZ) (by kernel_rfl))) ?_))
 intro w17 hn11
 have hsb:Hst w0 H2 w13 H2 w17∧HB H2 w17 [(p2,[(vi vrule1),(vi vfrom1)],113),(p1,(Ad 4 0 0 t1),157)]:=by
  rw [hn11];exact hb.set0 (i:=1) (v:=(vi 4)) hs (gS gZ) (by kernel_rfl)
 obtain ⟨hs,hb⟩:=hsb
 refine ln ⟨true,_,hc7,hs,hb,hm⟩
 refine jC (jJ ⟨false,_,hc7,hs,hb,hm⟩)
 rintro ρ w16 ⟨b1'0,H3,he0,hs,hb,hH⟩
 subst he0
 refine jQ hH (jJ (jA (jA (zC (fun ρ wJ=>∃b2'0:Bool,∃HJ:NP,(r6=b2'0)∧Hst w0 H2 w13 HJ wJ∧HB HJ wJ [(p2,[(vi vrule1),(vi vfrom1)],113),(p1,(Ad (cond r5 4 5) 0 0 t1),157)]∧Has ρ [(0,(vi t1)),(1,(vp (some cap1))),(2,(vp (some cap2))),(4,(vp (some cap4))),(5,(vp (some cap5))),(11,(vp (some p1))),(12,(vb r6)),(15,(vi r3)),(16,(vi r4)),(74,(vb (b2'0 && (decide (r3>0)))))]) ?_ ?_))))
 refine rg (qb ?_)
 rcases bte r6 with hg2 | hg2
 refine qk 71 hg2 (qk 71 hg2 (q2 (vb (decide (r3>0))) (xT hg2) (ln ⟨true,_,hg2,hs,hb,hm⟩)))
 refine sj2 71 hg2 (q2 (vb false) (xF hg2) (ln ⟨false,_,hg2,hs,hb,hm⟩))
 rintro ρ w18 ⟨b2'0,H4,he0,hs,hb,hH⟩
 subst he0
 refine jQ hH (jJ (zX (fun ρ w=>∃ok4 bG bH bU bI,∃H:NP,Has ρ [(0,(vi t1)),(1,(vp (some cap1))),(2,(vp (some cap2))),(4,(vp (some cap4))),(5,(vp (some cap5))),(11,(vp (some p1))),(12,(vb ok4)),(16,(vi r4))]∧Hst w0 H w H w∧HB H w [(p2,[(vi vrule1),(vi vfrom1)],113),(p1,(Ad bG bH bU bI),157)]∧m_K_j2 t1 cap1 cap2 cap4 cap5 r4 ok4 bG bH bU bI w0 H w K) ?_ ?_))
 rintro ρ w ⟨ok4,bG,bH,bU,bI,H,hH,hs,hb,h⟩
 refine jO hH (jA (zC (fun ρ wJ=>∃b3'0:Bool,∃HJ:NP,(ok4=b3'0)∧Hst w0 H w HJ wJ∧HB HJ wJ [(p2,[(vi vrule1),(vi vfrom1)],113),(p1,(Ad bG bH bU bI),157)]∧Has ρ [(0,(vi t1)),(1,(vp (some cap1))),(2,(vp (some cap2))),(4,(vp (some cap4))),(5,(vp (some cap5))),(11,(vp (some p1))),(12,(vb ok4)),(16,(vi r4)),(86,(vb (b3'0 && (decide (r4>0)))))]) ?_ ?_))
 refine rg (qb ?_)
 rcases bte ok4 with hg4 | hg4
 refine qk 83 hg4 (qk 83 hg4 (q2 (vb (decide (r4>0))) (xT hg4) (ln ⟨true,_,hg4,hs,hb,hm⟩)))
 refine sj2 83 hg4 (q2 (vb false) (xF hg4) (ln ⟨false,_,hg4,hs,hb,hm⟩))
 rintro ρ w19 ⟨b3'0,H5,he0,hs,hb,hH⟩
 subst he0
 refine jQ hH (jJ (cbr h ?_ ?_))<;>intro h
 refine rg ?_
 have ⟨h,hs⟩:=hs.hr (h H5 w19)
 refine ql (isAgg154 _) h fun v15 h=>q ?_
 obtain ⟨f2,fs2,cs2,hp4,h⟩:=h
 obtain ⟨hf2,h⟩:=h
 refine jV (jP rfl) (uF (fs:=fs2) (caps:=cs2) (args:=#[(vi r4)]) (by kernel_rfl) hp4 hf2 (by kernel_rfl) rfl) (h.mono ?_)
 rintro e w20 ⟨r7,r8,rfl,hk,h⟩
 refine ⟨_,rfl,?_⟩
 obtain ⟨hs,hb⟩:=hk.hh hs hb
 refine qd (vG (jP rfl) (kV (a:=(p1.add 2)) (v:=(vi r7)) (by kernel_rfl) (by kernel_rfl) rfl (sizeOf3 _) (hb.canW 1 2 (gS gZ) (by kernel_rfl))) ?_)
 intro w21 hn12
 have hsb:Hst w0 H5 w20 H5 w21∧HB H5 w21 [(p2,[(vi vrule1),(vi vfrom1)],113),(p1,(Ad bG bH r7 bI),157)]:=by
  rw [hn12];exact hb.set (i:=1) 2 (v:=(vi r7)) hs (gS gZ) (by kernel_rfl)
 obtain ⟨hs,hb⟩:=hsb
 refine q (jB ?_)
 have ⟨h,hs⟩:=hs.hr (h w21)
 refine jJ ⟨r8,bG,bH,r7,bI,H5,hm,hs,hb,h⟩
 refine jC ?_
 have ⟨h,hs⟩:=hs.hr (h H5 w19)
 refine jJ ⟨ok4,bG,bH,bU,bI,H5,hm,hs,hb,h⟩
 refine cbr h ?_ ?_<;>intro h
 refine rg ?_
 have ⟨h,hs⟩:=hs.hr (h H4 w18)
 refine ql (isAgg154 _) h fun v16 h=>q ?_
 obtain ⟨f3,fs3,cs3,hp5,h⟩:=h
 obtain ⟨hf3,h⟩:=h
 refine jV (jP rfl) (uF (fs:=fs3) (caps:=cs3) (args:=#[(vi r3)]) (by kernel_rfl) hp5 hf3 (by kernel_rfl) rfl) (h.mono ?_)
 rintro e w22 ⟨r9,r10,rfl,hk,h⟩
 refine ⟨_,rfl,?_⟩
 obtain ⟨hs,hb⟩:=hk.hh hs hb
 refine qd (vG (jP rfl) (kV (a:=(p1.add 1)) (v:=(vi r9)) (by kernel_rfl) (by kernel_rfl) rfl (sizeOf3 _) (hb.canW 1 1 (gS gZ) (by kernel_rfl))) ?_)
 intro w23 hn13
 have hsb:Hst w0 H4 w22 H4 w23∧HB H4 w23 [(p2,[(vi vrule1),(vi vfrom1)],113),(p1,(Ad (cond r5 4 5) r9 0 t1),157)]:=by
  rw [hn13];exact hb.set (i:=1) 1 (v:=(vi r9)) hs (gS gZ) (by kernel_rfl)
 obtain ⟨hs,hb⟩:=hsb
 refine q (jB ?_)
 have ⟨h,hs⟩:=hs.hr (h w23)
 refine jJ ⟨r10,(cond r5 4 5),r9,0,t1,H4,hm,hs,hb,h⟩
 refine jC ?_
 have ⟨h,hs⟩:=hs.hr (h H4 w18)
 refine jJ ⟨r6,(cond r5 4 5),0,0,t1,H4,hm,hs,hb,h⟩
 refine jC ?_
 have ⟨h,hs⟩:=hs.hr (h H2 w4)
 refine jJ ⟨(!v4),0,0,0,t1,H2,hm,hs,hb,h⟩
def m_B2 (t1 rule1:Int) (cap1 cap2:Addr) (w0:World) (K:WP):Prop :=∃v1,w0.cell? cap1=some (vp v1)∧∃a1,v1=some a1∧∃v2:Option Nat,w0.cell? (a1.add 2)=some (.map v2)∧∃vrule1 vfrom1 ok1,(Instr.lookup 107 (.map v2) (vi t1) true).run prog w0=.ok (.tuple #[(.agg #[(vi vrule1),(vi vfrom1)]),(vb ok1)]) w0∧Br (!ok1) (∀H1 w2,Hst w0 None w0 H1 w2→∃C1:WP,C1 w2.drew∧∀w3,w3=w2.drew→∃v3,(∀w',C1 w'→w'.cell? cap1=some (vp v3))∧∃a2,v3=some a2∧∃v4:Option Nat,(∀w',C1 w'→w'.cell? (a2.add 2)=some (.map v4))∧∃v5,(∀w',C1 w'→w'.cell? cap2=some (vi v5))∧∃w4:World,(Instr.mapUpdate 107 (.map v4) (vi t1) (.agg #[(vi rule1),(vi v5)])).run prog w3=.ok () w4∧Kept H1 w3 w4∧∃C2:WP,C2 w4.drew∧∀w5,w5=w4.drew→∃v6,(∀w',C2 w'→w'.cell? cap1=some (vp v6))∧∃v7,(∀w',C2 w'→w'.cell? cap1=some (vp v7))∧∃a3,v7=some a3∧∃v8:Sl,(∀w',C2 w'→w'.cell? (a3.add 3)=some v8.v)∧∀p2 w6,New w5 (.cells #[(vi t1)] 30) p2 w6→C2 w6∧∃s1:Sl,∃w7:World,(Builtin.append_ #[52,52] 52 #[v8.v,(Sl.mk (some p2) 1 1).v]).run prog w6=.ok s1.v w7∧C2 w7∧Kept H1 w6 w7∧∃a4,v6=some a4∧zQ w7 (a4.add 3)∧¬ H1 (a4.add 3).block∧∀w8,w8=w7.setCell (a4.add 3) s1.v→K w8) (∀H1 w2,Hst w0 None w0 H1 w2→K w2)
theorem w_B2 (t1 rule1 cap1 cap2 w0 K) (h:m_B2 t1 rule1 cap1 cap2 w0 K):
  Calls prog 97 #[(vi t1),(vi rule1),(vp (some cap1)),(vp (some cap2))] w0 (fun e w'=>e=.returned (.tuple #[])∧K  w'):=by
 refine cw (args:=[(vi t1),(vi rule1),(vp (some cap1)),(vp (some cap2))]) func97 ntmps97 ?_
 obtain ⟨hs,hb⟩:=st0 w0
 refine eg (ql (isAgg55 _) h fun v1 h=>qm h fun a1 h=>q (ql (isAgg107 _) h fun v2 h=>q ?_))
 obtain ⟨vrule1,vfrom1,ok1,hv9,h⟩:=h
 refine q2 (.tuple #[(.agg #[(vi vrule1),(vi vfrom1)]),(vb ok1)]) (kQ (by kernel_rfl) (by kernel_rfl) hv9) (qc (nw3 [(vi 0),(vi 0)] 113 hs hb (jT (zeroValue113 _) rfl) fun p1 w1 H1 hs hb=>sbx 0 [(vi vrule1),(vi vfrom1)] (sizeOf113 _) hs hb gZ fun w2 hs hb=>q (ln (eg (qb (ln (cbr h ?_ ?_)))))))<;>intro h
 refine jA ?_
 have ⟨h,hs⟩:=hs.hr (h H1 w2)
 obtain ⟨C1,hC,h⟩:=h
 refine dr2 (fun x=>C1 x∧HB H1 x _) [8] [8] ⟨hC,hb.drew⟩ h hs hb fun w3 hs hb h=>?_
 have hs:=hs.here
 refine qg 0 ?_
 obtain ⟨v3,hv8,h⟩:=h
 refine sy Kp0 (fun _ k=>xl (isAgg55 _) (hv8 _ k.1)) (qg 1 ?_)
 obtain ⟨a2,hp2,h⟩:=h
 refine sy Kp1 (fun _ _=>xn hp2) (qx 2 (vp (some (a2.add 2))) Kp2 (qg 3 ?_))
 obtain ⟨v4,hv7,h⟩:=h
 refine sy Kp3 (fun _ k=>xl (isAgg107 _) (hv7 _ k.1)) (qx 4 (vi t1) Kp4 (qx 5 (vi rule1) Kp5 (qg 6 ?_)))
 obtain ⟨v5,hv6,h⟩:=h
 refine sy Kp6 (fun _ k=>xl (isAgg30 _) (hv6 _ k.1)) (qx 7 (.agg #[(vi rule1),(vi v5)]) Kp7 (lg 8 ?_))
 obtain ⟨w4,hv5,hk,h⟩:=h
 refine xU Kp8 (jP rfl) (by kernel_rfl) (kW (by kernel_rfl) (by kernel_rfl) (by kernel_rfl) hv5) (.inl (by kernel_rfl)) ?_
 obtain ⟨hs,hb⟩:=hk.hh hs hb
 refine wn (jJ ?_)
 obtain ⟨C2,hC,h⟩:=h
 refine dr2 (fun x=>C2 x∧HB H1 x _) [6,7,10] [10] ⟨hC,hb.drew⟩ h hs hb fun w5 hs hb h=>?_
 have hs:=hs.here
 refine qg 0 ?_
 obtain ⟨v6,hv4,h⟩:=h
 refine sy Kp0 (fun _ k=>xl (isAgg55 _) (hv4 _ k.1)) (qg 1 ?_)
 obtain ⟨v7,hv3,h⟩:=h
 refine sy Kp1 (fun _ k=>xl (isAgg55 _) (hv3 _ k.1)) (qg 2 ?_)
 obtain ⟨a3,hp3,h⟩:=h
 refine sy Kp2 (fun _ _=>xn hp3) (qx 3 (vp (some (a3.add 3))) Kp3 (qg 4 ?_))
 obtain ⟨v8,hv2,h⟩:=h
 refine sy Kp4 (fun _ k=>xl (isAgg52 _) (hv2 _ k.1)) (qx 5 (vi t1) Kp5 (lg 6 (uQ (O:=(.cells #[(vi t1)] 30)) (fun p=>(Sl.mk (some p) 1 1).v) Kp6 (jP rfl) (by kernel_rfl) (zM (vs:=#[(0,(vi t1))]) (by kernel_rfl) (by kernel_rfl)) ?_)))
 intro p2 w6 hn4
 have h:=h p2 w6 hn4
 refine ⟨.inr ⟨h.1,hb.kept (Ext.new (F:=None) hn4).keptP⟩,?_⟩
 have h:=h.2
 obtain ⟨hs,hb⟩:=hs.nw hb hn4
 refine lg 7 ?_
 obtain ⟨s1,w7,hv1,hC,hk,h⟩:=h
 refine sl (v:=s1.v) Kp7 (jP rfl) (by kernel_rfl) (zH (args:=#[v8.v,(Sl.mk (some p2) 1 1).v]) (by kernel_rfl) (fun _=>rfl) hv1) (.inr ⟨hC,hb.kept hk⟩) ?_
 obtain ⟨hs,hb⟩:=hk.hh hs hb
 refine qg 8 ?_
 obtain ⟨a4,hp4,h⟩:=h
 refine sy Kp8 (fun _ _=>xn hp4) (qx 9 (vp (some (a4.add 3))) Kp9 (lg 10 ?_))
 obtain ⟨hp5,hnh,h⟩:=h
 refine sl_t (jL (S8 (jE (jE jK)))) (xs (v:=s1.v) (sizeOf52 _) hp5) ?_
 intro w8 hn3
 have h:=h w8 hn3
 refine ⟨.inl (by kernel_rfl),?_⟩
 have hk:=Kept.sc hnh hn3
 obtain ⟨hs,hb⟩:=hk.hh hs hb
 refine wn (jEE (.inr rfl) results97 ⟨rfl,h⟩)
 refine jC ?_
 have ⟨h,hs⟩:=hs.hr (h H1 w2)
 refine jEE (.inr rfl) results97 ⟨rfl,h⟩
end Go.Proofs
end
section
open Go Go.SE
open Go.IntKind renaming i64 → q6
namespace Go.Proofs
open Tryz
set_option maxRecDepth 100000
set_option maxHeartbeats 4000000
attribute [local irreducible] wpL wpX opE wpE Calls
def m_C2  (w:World) (K:(Option Addr)→WP):Prop :=∀p1 w1,New w (.map #[] 0) p1 w1→∀p2 w2,New w1 (.cells #[Sl.nil.v,(.map (some p1.block))] 94) p2 w2→K (some p2) w2
theorem w_C2  (w:World) (K:(Option Addr)→WP) (h:m_C2  w K) :
  Calls prog 27 #[] w (fun e w'=>∃r1,e=.returned (vp r1)∧K r1 w'):=by
 refine cw (args:=[]) func27 ntmps27 (eg (q0 (vp none) (ln (eg (vU (O:=(.map #[] 0)) (fun p=>.map (some p.block)) (jP rfl) (by kernel_rfl) ?_)))))
 intro p1 w1 hn2
 have h:=h p1 w1 hn2
 refine q (nw1 h xb fun p2 w2 h=>q (ln (er (rs1 results27 ⟨(some p2),rfl,h⟩))))
def m_D2 (p1:Option Addr) (n1:Int) (w:World) (K:Int→Int→WP):Prop :=Calls prog 66 #[(vp p1),(.agg #[(vi 1),(vi n1),(vi 0),(vu 0),ve,(vi 0),(vi 0)])] w (fun e w1=>∃r1 r2,e=.returned (.tuple #[(vi r1),(vi r2)])∧K r1 r2 w1)
theorem w_D2 (p1 n1 w K) (h:m_D2 p1 n1 w K):
  Calls prog 28 #[(vp p1),(vi n1)] w (fun e w'=>∃r3 r4,e=.returned (.tuple #[(vi r3),(vi r4)])∧K r3 r4 w'):=by
 refine cw (args:=[(vp p1),(vi n1)]) func28 ntmps28 (eg (q0 (vi 0) (q0 (vi 0) (ln (eg (q0 (vp p1) (q0 (vi n1) (q0 (Ai 1 n1 0 0 0 0) ?_))))))))
 refine sc call66 (h.mono fun e w1 ⟨r1,r2,k,h⟩=>⟨_,k,?_⟩)
 refine qd (ln (er (vD (.inl rfl) results28 (v:=(vi r1)) (by kernel_rfl) (v':=(vi r2)) (by kernel_rfl) ⟨r1,r2,rfl,h⟩)))
def m_E2 (p1:Option Addr) (a1 b1:Int) (w:World) (K:Int→Int→WP):Prop :=Calls prog 66 #[(vp p1),(.agg #[(vi 4),(vi 0),(vi 0),(vu 0),ve,(vi a1),(vi b1)])] w (fun e w1=>∃r1 r2,e=.returned (.tuple #[(vi r1),(vi r2)])∧K r1 r2 w1)
theorem w_E2 (p1 a1 b1 w K) (h:m_E2 p1 a1 b1 w K):
  Calls prog 29 #[(vp p1),(vi a1),(vi b1)] w (fun e w'=>∃r3 r4,e=.returned (.tuple #[(vi r3),(vi r4)])∧K r3 r4 w'):=by
 refine cw (args:=[(vp p1),(vi a1),(vi b1)]) func29 ntmps29 (eg (q0 (vi 0) (q0 (vi 0) (ln (eg (q0 (vp p1) (q0 (vi a1) (q0 (vi b1) ?_))))))))
 refine q (sc call66 (h.mono fun e w1 ⟨r1,r2,k,h⟩=>⟨_,k,?_⟩))
 refine qd (ln (er (vD (.inl rfl) results29 (v:=(vi r1)) (by kernel_rfl) (v':=(vi r2)) (by kernel_rfl) ⟨r1,r2,rfl,h⟩)))
def m_O1 (p1:Option Addr) (bA bB:Int) (bC bD:Int) (bE:ByteArray) (bF:Sl) (w:World) (K:Int→Int→WP):Prop :=∀p2 w1,New w (.cells #[(vi bA),(vi bB),(vi bC),(vu bD),(vs bE),bF.v] 49) p2 w1→Br (Option.isNone p1) (K 0 0 w1) (∀p3 w2,New w1 (.cells #[(vi 0)] 3) p3 w2→zQ w2 p3∧∀w3,w3=w2.setCell p3 (vi 0)→∃aA aB aC aD aE bG,Row w3 p2 (Ac aA aB aC aD aE bG)∧Calls prog 68 #[(.agg #[(vi aA),(vi aB),(vi aC),(vu aD),(vs aE),bG.v]),(vi 0),(vp (some p3))] w3 (fun e w4=>∃r1,e=.returned (vi r1)∧Br (r1 != 0) (K 0 r1 w4) (∃a1,p1=some a1∧∃v1:Sl,w4.cell? a1=some v1.v∧∃aO aP aQ aR aS bR,Row w4 p2 (Ac aO aP aQ aR aS bR)∧Calls prog 69 #[(vp p1),(.agg #[(vi aO),(vi aP),(vi aQ),(vu aR),(vs aS),bR.v])] w4 (fun e w5=>∃r2 r3,e=.returned (.tuple #[(vi r2),(vi r3)])∧Br (r3 != 0) (Calls prog 70 #[(vp p1),(vi (v1.len:Int))] w5 (fun e w6=>e=.returned (.tuple #[])∧K 0 r3 w6)) (K r2 0 w5)))))
theorem w_O1 (p1 bA bB bC bD bE bF w K) (h:m_O1 p1 bA bB bC bD bE bF w K):
  Calls prog 32 #[(vp p1),(.agg #[(vi bA),(vi bB),(vi bC),(vu bD),(vs bE),bF.v])] w (fun e w'=>∃r4 r5,e=.returned (.tuple #[(vi r4),(vi r5)])∧K r4 r5 w'):=by
 refine cw (args:=[(vp p1),(Ae bA bB bC bD bE bF)]) func32 ntmps32 (eg (sn (O:=(.cells #[(vi bA),(vi bB),(vi bC),(vu bD),(vs bE),bF.v] 49)) xb ?_))
 intro p2 w1 hn3
 have h:=h p2 w1 hn3
 refine qb (ln (jA (eg (q (q2 (vb (Option.isNone p1)) (kC (by kernel_rfl) rfl underlying26) (ln (cbr h ?_ ?_)))))))<;>intro h
 refine eg (qb (ln (er (jW (vD (.inl rfl) results32 (v:=(vi 0)) (by kernel_rfl) (v':=(vi 0)) (by kernel_rfl) ⟨0,0,rfl,h⟩)))))
 refine jC (jJ (eg (nw1 h (jT (zeroValue3 _) rfl) fun p3 w2 h=>st1 (sizeOf3 _) h fun w3 h=>ln (jA (eg ?_)))))
 obtain ⟨aA,aB,aC,aD,aE,bG,hv3,h⟩:=h
 refine qa (isAgg49 _) (sizeOf49 _) hv3 (sc call68 (h.mono fun e w4 ⟨r1,k,h⟩=>⟨_,k,?_⟩))
 refine q (ln (eg (qb (ln (cbr h ?_ ?_)))))<;>intro h
 refine eg (qc (ln (er (jW (vD (.inl rfl) results32 (v:=(vi 0)) (by kernel_rfl) (v':=(vi r1)) (by kernel_rfl) ⟨0,r1,rfl,h⟩)))))
 refine jC (jJ (eg (q (qm h fun a1 h=>q (ql (isAgg91 _) h fun v1 h=>qb (ln (eg (q ?_))))))))
 obtain ⟨aO,aP,aQ,aR,aS,bR,hv1,h⟩:=h
 refine qa (isAgg49 _) (sizeOf49 _) hv1 (sc call69 (h.mono fun e w5 ⟨r2,r3,k,h⟩=>⟨_,k,?_⟩))
 refine q (qd (ln (jA (eg (qb (ln (cbr h ?_ ?_)))))))<;>intro h
 refine eg (qb (sc call70 (h.mono fun e w6 ⟨k,h⟩=>⟨_,k,?_⟩)))
 refine ln (eg (qc (ln (er (jW (vD (.inl rfl) results32 (v:=(vi 0)) (by kernel_rfl) (v':=(vi r3)) (by kernel_rfl) ⟨0,r3,rfl,h⟩))))))
 refine jC (jJ (eg (qc (ln (er (vD (.inl rfl) results32 (v:=(vi r2)) (by kernel_rfl) (v':=(vi 0)) (by kernel_rfl) ⟨r2,0,rfl,h⟩))))))
def m_F2 (p1:Option Addr) (t1:Int) (w:World) (K:Int→Int→Int→Int→ByteArray→Int→Int→Bool→WP):Prop :=∀p2 w1,New w (.cells #[(vi 0),(vi 0),(vi 0),(vu 0),ve,(vi 0),(vi 0)] 86) p2 w1→Calls prog 80 #[(vp p1),(vi t1)] w1 (fun e w2=>∃r1,e=.returned (vb r1)∧Br (!r1) ((∀j,j<7→zQ w2 (p2.add j))∧∀w3,w3=storeRow w2 p2 (Ag 0 0 0 0 0 0)→∃bH bI bJ bK bL cE cF,Row w3 p2 (Aa bH bI bJ bK bL cE cF)∧K bH bI bJ bK bL cE cF false w3) (∃a1,p1=some a1∧∃v1:Sl,w2.cell? a1=some v1.v∧∃a2:Addr,At v1 (q6.wrap (t1 - 1)) 9 a2∧∃aA aB aC aD aE aF aG,Row w2 a2 (Aa aA aB aC aD aE aF aG)∧(∀j,j<7→zQ w2 (p2.add j))∧∀w4,w4=storeRow w2 p2 (Aa aA aB aC aD aE aF aG)→∃bZ cA cB cC cD cK cL,Row w4 p2 (Aa bZ cA cB cC cD cK cL)∧K bZ cA cB cC cD cK cL true w4))
theorem w_F2 (p1 t1 w K) (h:m_F2 p1 t1 w K):
  Calls prog 43 #[(vp p1),(vi t1)] w (fun e w'=>∃aT aU aV aW aX aY aZ r2,e=.returned (.tuple #[(Ab aT aU aV aW aX aY aZ),(vb r2)])∧K aT aU aV aW aX aY aZ r2 w'):=by
 refine cw (args:=[(vp p1),(vi t1)]) func43 ntmps43 (eg (sn (O:=(.cells #[(vi 0),(vi 0),(vi 0),(vu 0),ve,(vi 0),(vi 0)] 86)) (jT (zeroValue86 _) rfl) ?_))
 intro p2 w1 hn3
 have h:=h p2 w1 hn3
 refine q (ln (jA (eg (qb (sc call80 (h.mono fun e w2 ⟨r1,k,h⟩=>⟨_,k,?_⟩))))))
 refine q (ln (cbr h ?_ ?_))<;>intro h
 refine eg (q (sro (sizeOf86 _) h fun w3 h=>q (ln (er (jW ?_)))))
 obtain ⟨bH,bI,bJ,bK,bL,cE,cF,hv1,h⟩:=h
 refine gg2 results43 (rva (isAgg86 _) (sizeOf86 _) hv1) (rvU (vb false)) ⟨bH,bI,bJ,bK,bL,cE,cF,false,rfl,h⟩
 refine jC (jJ (eg (q (qm h fun a1 h=>q (ql (isAgg91 _) h fun v1 h=>qb (qi (runUnderlying91 _) (sizeOf147 _) h fun a2 h=>q ?_))))))
 obtain ⟨aA,aB,aC,aD,aE,aF,aG,hv3,h⟩:=h
 refine qa (isAgg86 _) (sizeOf86 _) hv3 (sro (sizeOf86 _) h fun w4 h=>q (ln (er ?_)))
 obtain ⟨bZ,cA,cB,cC,cD,cK,cL,hv2,h⟩:=h
 refine gg2 results43 (rva (isAgg86 _) (sizeOf86 _) hv2) (rvU (vb true)) ⟨bZ,cA,cB,cC,cD,cK,cL,true,rfl,h⟩
def m_G2 (p1:Option Addr) (n1:Int) (w:World) (K:Int→Int→WP):Prop :=Calls prog 66 #[(vp p1),(.agg #[(vi 2),(vi 0),(vi 0),(vu n1),ve,(vi 0),(vi 0)])] w (fun e w1=>∃r1 r2,e=.returned (.tuple #[(vi r1),(vi r2)])∧K r1 r2 w1)
theorem w_G2 (p1 n1 w K) (h:m_G2 p1 n1 w K):
  Calls prog 47 #[(vp p1),(vu n1)] w (fun e w'=>∃r3 r4,e=.returned (.tuple #[(vi r3),(vi r4)])∧K r3 r4 w'):=by
 refine cw (args:=[(vp p1),(vu n1)]) func47 ntmps47 (eg (q0 (vi 0) (q0 (vi 0) (ln (eg (q0 (vp p1) (q0 (vu n1) (q0 (Ai 2 0 0 n1 0 0) ?_))))))))
 refine sc call66 (h.mono fun e w1 ⟨r1,r2,k,h⟩=>⟨_,k,?_⟩)
 refine qd (ln (er (vD (.inl rfl) results47 (v:=(vi r1)) (by kernel_rfl) (v':=(vi r2)) (by kernel_rfl) ⟨r1,r2,rfl,h⟩)))
def m_H2 (p1:Option Addr) (n1 a1:Int) (w:World) (K:Int→Int→WP):Prop :=Calls prog 66 #[(vp p1),(.agg #[(vi 7),(vi n1),(vi 0),(vu 0),ve,(vi a1),(vi 0)])] w (fun e w1=>∃r1 r2,e=.returned (.tuple #[(vi r1),(vi r2)])∧K r1 r2 w1)
theorem w_H2 (p1 n1 a1 w K) (h:m_H2 p1 n1 a1 w K):
  Calls prog 48 #[(vp p1),(vi n1),(vi a1)] w (fun e w'=>∃r3 r4,e=.returned (.tuple #[(vi r3),(vi r4)])∧K r3 r4 w'):=by
 refine cw (args:=[(vp p1),(vi n1),(vi a1)]) func48 ntmps48 (eg (q0 (vi 0) (q0 (vi 0) (ln (eg (q0 (vp p1) (q0 (vi n1) (q0 (vi a1) ?_))))))))
 refine q (sc call66 (h.mono fun e w1 ⟨r1,r2,k,h⟩=>⟨_,k,?_⟩))
 refine qd (ln (er (vD (.inl rfl) results48 (v:=(vi r1)) (by kernel_rfl) (v':=(vi r2)) (by kernel_rfl) ⟨r1,r2,rfl,h⟩)))
def m_I2 (p1:Option Addr) (a1:Int) (w:World) (K:Int→Int→WP):Prop :=Calls prog 66 #[(vp p1),(.agg #[(vi 5),(vi 0),(vi 0),(vu 0),ve,(vi a1),(vi 0)])] w (fun e w1=>∃r1 r2,e=.returned (.tuple #[(vi r1),(vi r2)])∧K r1 r2 w1)
theorem w_I2 (p1 a1 w K) (h:m_I2 p1 a1 w K):
  Calls prog 49 #[(vp p1),(vi a1)] w (fun e w'=>∃r3 r4,e=.returned (.tuple #[(vi r3),(vi r4)])∧K r3 r4 w'):=by
 refine cw (args:=[(vp p1),(vi a1)]) func49 ntmps49 (eg (q0 (vi 0) (q0 (vi 0) (ln (eg (q0 (vp p1) (q0 (vi a1) (q0 (Ai 5 0 0 0 a1 0) ?_))))))))
 refine sc call66 (h.mono fun e w1 ⟨r1,r2,k,h⟩=>⟨_,k,?_⟩)
 refine qd (ln (er (vD (.inl rfl) results49 (v:=(vi r1)) (by kernel_rfl) (v':=(vi r2)) (by kernel_rfl) ⟨r1,r2,rfl,h⟩)))
def m_J2 (p1:Option Addr) (n1:Int) (w:World) (K:Int→Int→WP):Prop :=Calls prog 66 #[(vp p1),(.agg #[(vi 6),(vi n1),(vi 0),(vu 0),ve,(vi 0),(vi 0)])] w (fun e w1=>∃r1 r2,e=.returned (.tuple #[(vi r1),(vi r2)])∧K r1 r2 w1)
theorem w_J2 (p1 n1 w K) (h:m_J2 p1 n1 w K):
  Calls prog 50 #[(vp p1),(vi n1)] w (fun e w'=>∃r3 r4,e=.returned (.tuple #[(vi r3),(vi r4)])∧K r3 r4 w'):=by
 refine cw (args:=[(vp p1),(vi n1)]) func50 ntmps50 (eg (q0 (vi 0) (q0 (vi 0) (ln (eg (q0 (vp p1) (q0 (vi n1) (q0 (Ai 6 n1 0 0 0 0) ?_))))))))
 refine sc call66 (h.mono fun e w1 ⟨r1,r2,k,h⟩=>⟨_,k,?_⟩)
 refine qd (ln (er (vD (.inl rfl) results50 (v:=(vi r1)) (by kernel_rfl) (v':=(vi r2)) (by kernel_rfl) ⟨r1,r2,rfl,h⟩)))
def m_P1 (p1:Option Addr) (aH aI:Int) (aJ aK:Int) (aL:ByteArray) (aM aN:Int) (w:World) (K:Int→Int→WP):Prop :=∀p2 w1,New w (.cells #[(vi aH),(vi aI),(vi aJ),(vu aK),(vs aL),(vi aM),(vi aN)] 86) p2 w1→Br (Option.isNone p1) (K 0 0 w1) (∃aA aB aC aD aE aF aG,Row w1 p2 (Aa aA aB aC aD aE aF aG)∧Calls prog 102 #[(vp p1),(.agg #[(vi aA),(vi aB),(vi aC),(vu aD),(vs aE),(vi aF),(vi aG)])] w1 (fun e w2=>∃r1 r2 r3,e=.returned (.tuple #[(vi r1),(vi r2),(vi r3)])∧Br (r3 != 0) (K 0 r3 w2) (∀w3,w3=w2.drew→∃a1,p1=some a1∧∃v1:Option Nat,w3.cell? (a1.add 1)=some (.map v1)∧∃aO aP aQ aR aS bS bT,Row w3 p2 (Aa aO aP aQ aR aS bS bT)∧∃v2 ok1,(Instr.lookup 92 (.map v1) (.agg #[(vi aO),(vi aP),(vi aQ),(vu aR),(vs aS),(vi bS),(vi bT)]) true).run prog w3=.ok (.tuple #[(vi v2),(vb ok1)]) w3∧Br ok1 (K v2 0 w3) (∃a2,p1=some a2∧∃v3:Sl,w3.cell? a2=some v3.v∧Br (decide ((v3.len:Int)≥65536)) (K 0 6 w3) (∃C1:WP,C1 w3.drew∧∀w4,w4=w3.drew→∃a3,p1=some a3∧∃v4:Sl,(∀w',C1 w'→w'.cell? a3=some v4.v)∧∃bM bN bO bP bQ cG cH,(∀w',C1 w'→Row w' p2 (Aa bM bN bO bP bQ cG cH))∧∀p3 w5,New w4 (.cells #[(vi bM),(vi bN),(vi bO),(vu bP),(vs bQ),(vi cG),(vi cH),(vi r1),(vi r2)] 147) p3 w5→C1 w5∧∃s1:Sl,∃w6:World,(Builtin.append_ #[91,91] 91 #[v4.v,(Sl.mk (some p3) 1 1).v]).run prog w5=.ok s1.v w6∧C1 w6∧∃a4,p1=some a4∧zQ w6 a4∧∀w7,w7=w6.setCell a4 s1.v→∃a5,p1=some a5∧∃v5:Sl,w7.cell? a5=some v5.v∧∃C2:WP,C2 w7.drew∧∀w8,w8=w7.drew→∃a6,p1=some a6∧∃v6:Option Nat,(∀w',C2 w'→w'.cell? (a6.add 1)=some (.map v6))∧∃bU bV bW bX bY cS cT,(∀w',C2 w'→Row w' p2 (Aa bU bV bW bX bY cS cT))∧∃w9:World,(Instr.mapUpdate 92 (.map v6) (.agg #[(vi bU),(vi bV),(vi bW),(vu bX),(vs bY),(vi cS),(vi cT)]) (vi (v5.len:Int))).run prog w8=.ok () w9∧K (v5.len:Int) 0 w9)))))
theorem w_P1 (p1 aH aI aJ aK aL aM aN w K) (h:m_P1 p1 aH aI aJ aK aL aM aN w K):
  Calls prog 66 #[(vp p1),(.agg #[(vi aH),(vi aI),(vi aJ),(vu aK),(vs aL),(vi aM),(vi aN)])] w (fun e w'=>∃r4 r5,e=.returned (.tuple #[(vi r4),(vi r5)])∧K r4 r5 w'):=by
 refine cw (args:=[(vp p1),(Ab aH aI aJ aK aL aM aN)]) func66 ntmps66 (eg (sn (O:=(.cells #[(vi aH),(vi aI),(vi aJ),(vu aK),(vs aL),(vi aM),(vi aN)] 86)) xb ?_))
 intro p2 w1 hn3
 have h:=h p2 w1 hn3
 refine qb (ln (jA (eg (q (q2 (vb (Option.isNone p1)) (kC (by kernel_rfl) rfl underlying26) (ln (cbr h ?_ ?_)))))))<;>intro h
 refine eg (qb (ln (er (jW (vD (.inl rfl) results66 (v:=(vi 0)) (by kernel_rfl) (v':=(vi 0)) (by kernel_rfl) ⟨0,0,rfl,h⟩)))))
 refine jC (jJ (eg (q ?_)))
 obtain ⟨aA,aB,aC,aD,aE,aF,aG,hv12,h⟩:=h
 refine qa (isAgg86 _) (sizeOf86 _) hv12 (sc call102 (h.mono fun e w2 ⟨r1,r2,r3,k,h⟩=>⟨_,k,?_⟩))
 refine qc (qd (ln (jA (eg (qb (ln (cbr h ?_ ?_)))))))<;>intro h
 refine eg (qc (ln (er (jW (vD (.inl rfl) results66 (v:=(vi 0)) (by kernel_rfl) (v':=(vi r3)) (by kernel_rfl) ⟨0,r3,rfl,h⟩)))))
 refine jC (jJ (jA (jA (kH (by kernel_rfl) (by kernel_rfl) (by kernel_rfl) (by kernel_rfl) ?_))))
 intro w3 hw3
 have h:=h w3 hw3
 refine qq 0 (vp p1) Kp0 (qg 1 ?_)
 obtain ⟨a1,hp1,h⟩:=h
 refine sxQ Kp1 (jP rfl) rfl (xn hp1) (qq 2 (vp (some (a1.add 1))) Kp2 (qg 3 ?_))
 obtain ⟨v1,hv11,h⟩:=h
 refine sxQ Kp3 (jP rfl) rfl (xl (isAgg92 _) hv11) (qg 4 ?_)
 obtain ⟨aO,aP,aQ,aR,aS,bS,bT,hv10,h⟩:=h
 refine sxQ (v:=(Ab aO aP aQ aR aS bS bT)) Kp4 (jP rfl) rfl (xa p2 (Aa aO aP aQ aR aS bS bT) (isAgg86 _) (sizeOf86 _) hv10) (qg 5 ?_)
 obtain ⟨v2,ok1,hv9,h⟩:=h
 refine sxQ (v:=(.tuple #[(vi v2),(vb ok1)])) Kp5 (jP rfl) rfl (kQ (by kernel_rfl) (by kernel_rfl) hv9) (qq 6 (.tuple #[(vi v2),(vb ok1)]) Kp6 (qq 7 (vi v2) Kp7 (qq 8 (vb ok1) Kp8 (qq 9 (vi v2) Kp9 (qq 10 (vb ok1) (jL (S8 (jE (jE jK)))) (wn (jJ (eg (q (jB (jJ (cbr h ?_ ?_))))))))))))<;>intro h
 refine eg (qc (ln (er (jW (vD (.inl rfl) results66 (v:=(vi v2)) (by kernel_rfl) (v':=(vi 0)) (by kernel_rfl) ⟨v2,0,rfl,h⟩)))))
 refine jC (jJ (jA (eg (q (qm h fun a2 h=>q (ql (isAgg91 _) h fun v3 h=>qb (ln (cbr h ?_ ?_))))))))<;>intro h
 refine eg (qb (ln (er (jW (vD (.inl rfl) results66 (v:=(vi 0)) (by kernel_rfl) (v':=(vi 6)) (by kernel_rfl) ⟨0,6,rfl,h⟩)))))
 refine jC (jJ (jA ?_))
 obtain ⟨C1,hC,h⟩:=h
 refine dr1 C1 [9,10,13] [13] hC h fun w4 h=>qx 0 (vp p1) Kp0 (qx 1 (vp p1) Kp1 (qg 2 ?_))
 obtain ⟨a3,hp3,h⟩:=h
 refine sy Kp2 (fun _ _=>xn hp3) (qx 3 (vp (some a3)) Kp3 (qg 4 ?_))
 obtain ⟨v4,hv7,h⟩:=h
 refine sy Kp4 (fun _ k=>xl (isAgg91 _) (hv7 _ k)) (qg 5 ?_)
 obtain ⟨bM,bN,bO,bP,bQ,cG,cH,hv6,h⟩:=h
 refine sy (v:=(Ab bM bN bO bP bQ cG cH)) Kp5 (fun w' hw'=>(xa p2 (Aa bM bN bO bP bQ cG cH) (isAgg86 _) (sizeOf86 _) (hv6 w' hw'))) (qx 6 (vi r1) Kp6 (qx 7 (vi r2) Kp7 (qx 8 (.agg #[(vi bM),(vi bN),(vi bO),(vu bP),(vs bQ),(vi cG),(vi cH),(vi r1),(vi r2)]) Kp8 (lg 9 (uQ (O:=(.cells #[(vi bM),(vi bN),(vi bO),(vu bP),(vs bQ),(vi cG),(vi cH),(vi r1),(vi r2)] 147)) (fun p=>(Sl.mk (some p) 1 1).v) Kp9 (jP rfl) (by kernel_rfl) (zM (vs:=#[(0,(.agg #[(vi bM),(vi bN),(vi bO),(vu bP),(vs bQ),(vi cG),(vi cH),(vi r1),(vi r2)]))]) (by kernel_rfl) (by kernel_rfl)) ?_)))))
 intro p3 w5 hn2
 have h:=h p3 w5 hn2
 refine ⟨.inr h.1,?_⟩
 have h:=h.2
 refine lg 10 ?_
 obtain ⟨s1,w6,hv5,hC,h⟩:=h
 refine sl (v:=s1.v) (jL (S8 (jE (jE jK)))) (jP rfl) (by kernel_rfl) (zH (args:=#[v4.v,(Sl.mk (some p3) 1 1).v]) (by kernel_rfl) (fun _=>rfl) hv5) (.inr hC) (qg 11 ?_)
 obtain ⟨a4,hp4,h⟩:=h
 refine sy (jL (S8 (jE (jE (jE jK))))) (fun _ _=>xn hp4) (qx 12 (vp (some a4)) (jL (S8 (S4 jK))) (lg 13 ?_))
 obtain ⟨hp5,h⟩:=h
 refine sl_t (jL (S8 (S4 (jE jK)))) (xs (v:=s1.v) (sizeOf91 _) hp5) ?_
 intro w7 hn1
 have h:=h w7 hn1
 refine ⟨.inl (by kernel_rfl),?_⟩
 refine wn (jJ (eg (q (qm h fun a5 h=>q (ql (isAgg91 _) h fun v5 h=>qb (ln (jA ?_)))))))
 obtain ⟨C2,hC,h⟩:=h
 refine dr1 C2 [6] [6] hC h fun w8 h=>qx 0 (vp p1) Kp0 (qg 1 ?_)
 obtain ⟨a6,hp7,h⟩:=h
 refine sy Kp1 (fun _ _=>xn hp7) (qx 2 (vp (some (a6.add 1))) Kp2 (qg 3 ?_))
 obtain ⟨v6,hv3,h⟩:=h
 refine sy Kp3 (fun _ k=>xl (isAgg92 _) (hv3 _ k)) (qg 4 ?_)
 obtain ⟨bU,bV,bW,bX,bY,cS,cT,hv2,h⟩:=h
 refine sy (v:=(Ab bU bV bW bX bY cS cT)) Kp4 (fun w' hw'=>(xa p2 (Aa bU bV bW bX bY cS cT) (isAgg86 _) (sizeOf86 _) (hv2 w' hw'))) (qx 5 (vi (v5.len:Int)) Kp5 (lg 6 ?_))
 obtain ⟨w9,hv1,h⟩:=h
 refine xU Kp6 (jP rfl) (by kernel_rfl) (kW (by kernel_rfl) (by kernel_rfl) (by kernel_rfl) hv1) (.inl (by kernel_rfl)) (wn (jJ (eg (q0 (vi (v5.len:Int)) (q0 (vi (v5.len:Int)) (q0 (vi 0) (ln (er (vD (.inl rfl) results66 (v:=(vi (v5.len:Int))) (by kernel_rfl) (v':=(vi 0)) (by kernel_rfl) ⟨(v5.len:Int),0,rfl,h⟩)))))))))
def m_I_l4 (inside1:Int) (seen1:Option Addr) (p1:Addr) (e3 i1:Int) (wl1:World) (Kc4:Int→Int→WP) (K:Int→WP):Prop :=∃v2:Sl,wl1.cell? (p1.add 5)=some v2.v∧Br (decide (i1<(v2.len:Int))) (Br (e3 == 0) (∃v3:Sl,wl1.cell? (p1.add 5)=some v3.v∧∃a3:Addr,At v3 i1 6 a3∧∃bM bN bO bP bQ bR,Row wl1 a3 (Ac bM bN bO bP bQ bR)∧Calls prog 68 #[(.agg #[(vi bM),(vi bN),(vi bO),(vu bP),(vs bQ),bR.v]),(vi (q6.wrap (inside1+1))),(vp seen1)] wl1 (fun e w9=>∃r2,e=.returned (vi r2)∧Kc4 r2 (q6.wrap (i1+1)) w9)) (K e3 wl1)) (K e3 wl1)
def m_I_j3 (inside1:Int) (seen1:Option Addr) (p1:Addr) (e2:Int) (w:World) (K:Int→WP):Prop :=∃(I1:Int→Int→WP) (mu1:Int→Int→World→Nat),I1 e2 0 w∧∀(e3 i1:Int) (wl1:World),I1 e3 i1 wl1→m_I_l4 inside1 seen1 p1 e3 i1 wl1 (fun y'0 y'1 w'=>I1 y'0 y'1 w'∧mu1 y'0 y'1 w'<mu1 e3 i1 wl1) K
def m_I_j2 (inside1:Int) (seen1:Option Addr) (p1 p2 p3:Addr) (e1:Int) (w:World) (K:Int→WP):Prop :=Br (e1 == 0) (∃vfrom1 vto1 vnum1 vtext1 vkids1,Row w p3 (Af vfrom1 vto1 vnum1 vtext1 vkids1)∧∃bU bV bW bX bY bS bT,Row w p2 (Aa bU bV bW bX bY bS bT)∧Calls prog 105 #[(.agg #[(vb vfrom1),(vb vto1),(vb vnum1),(vb vtext1),(vi vkids1)]),(.agg #[(vi bU),(vi bV),(vi bW),(vu bX),(vs bY),(vi bS),(vi bT)])] w (fun e w10=>∃r3,e=.returned (vi r3)∧m_I_j3 inside1 seen1 p1 r3 w10 K)) (m_I_j3 inside1 seen1 p1 e1 w K)
def m_I_j1 (inside1:Int) (seen1:Option Addr) (p1:Addr) (w:World) (K:Int→WP):Prop :=∃a1,seen1=some a1∧∃v1,w.cell? a1=some (vi v1)∧∃a2,seen1=some a2∧zQ w a2∧∀w2,w2=w.setCell a2 (vi (q6.wrap (v1+1)))→∃aA aB aC aD aE bG,Row w2 p1 (Ac aA aB aC aD aE bG)∧Calls prog 103 #[(.agg #[(vi aA),(vi aB),(vi aC),(vu aD),(vs aE),bG.v])] w2 (fun e w3=>∃aT aU aV aW aX aY aZ,e=.returned (Ab aT aU aV aW aX aY aZ)∧∀p2 w4,New w3 (.cells #[(vi 0),(vi 0),(vi 0),(vu 0),ve,(vi 0),(vi 0)] 86) p2 w4→(∀j,j<7→zQ w4 (p2.add j))∧∀w5,w5=storeRow w4 p2 (Aa aT aU aV aW aX aY aZ)→∃aO aP aQ aR aS aF aG,Row w5 p2 (Aa aO aP aQ aR aS aF aG)∧Calls prog 104 #[(.agg #[(vi aO),(vi aP),(vi aQ),(vu aR),(vs aS),(vi aF),(vi aG)])] w5 (fun e w6=>∃rfrom1 rto1 rnum1 rtext1 rkids1 r1,e=.returned (.tuple #[(Aj rfrom1 rto1 rnum1 rtext1 rkids1),(vi r1)])∧∀p3 w7,New w6 (.cells #[(vb false),(vb false),(vb false),(vb false),(vi 0)] 149) p3 w7→(∀j,j<5→zQ w7 (p3.add j))∧∀w8,w8=storeRow w7 p3 (Af rfrom1 rto1 rnum1 rtext1 rkids1)→Br (r1 == 0) (∃v4:Sl,w8.cell? (p1.add 5)=some v4.v∧∃v5,w8.cell? (p3.add 4)=some (vi v5)∧Br (((v4.len:Int):Int) != v5) (m_I_j2 inside1 seen1 p1 p2 p3 53 w8 K) (m_I_j2 inside1 seen1 p1 p2 p3 r1 w8 K)) (m_I_j2 inside1 seen1 p1 p2 p3 r1 w8 K)))
def m_I (bA bB:Int) (bC bD:Int) (bE:ByteArray) (bF:Sl) (inside1:Int) (seen1:Option Addr) (w:World) (K:Int→WP):Prop :=∀p1 w1,New w (.cells #[(vi bA),(vi bB),(vi bC),(vu bD),(vs bE),bF.v] 49) p1 w1→∃a4,seen1=some a4∧∃v6,w1.cell? a4=some (vi v6)∧Br (decide (v6≥4096)) (K 52 w1) (Br (decide (inside1≥64)) (K 52 w1) (m_I_j1 inside1 seen1 p1 w1 K))
theorem w_I (bA bB bC bD bE bF inside1 seen1 w K) (h:m_I bA bB bC bD bE bF inside1 seen1 w K):
  Calls prog 68 #[(.agg #[(vi bA),(vi bB),(vi bC),(vu bD),(vs bE),bF.v]),(vi inside1),(vp seen1)] w (fun e w'=>∃r4,e=.returned (vi r4)∧K r4 w'):=by
 refine cw (args:=[(Ae bA bB bC bD bE bF),(vi inside1),(vp seen1)]) func68 ntmps68 (eg (sn (O:=(.cells #[(vi bA),(vi bB),(vi bC),(vu bD),(vs bE),bF.v] 49)) xb ?_))
 intro p1 w1 hn6
 have h:=h p1 w1 hn6
 refine q (ln (vY (fun ρ w=>Has ρ [(1,(vi inside1)),(2,(vp seen1)),(3,(vp (some p1)))]∧m_I_j1 inside1 seen1 p1 w K) ?_ ?_))
 rintro ρ w ⟨hH,h⟩
 refine jO hH (eg (q (qm h fun a1 h=>ql (isAgg3 _) h fun v1 h=>q (qm h fun a2 h=>st1 (sizeOf3 _) h fun w2 h=>ln (eg ?_)))))
 obtain ⟨aA,aB,aC,aD,aE,bG,hv10,h⟩:=h
 refine qa (isAgg49 _) (sizeOf49 _) hv10 (sc call103 (h.mono fun e w3 ⟨aT,aU,aV,aW,aX,aY,aZ,k,h⟩=>⟨_,k,?_⟩))
 refine nw1 h (jT (zeroValue86 _) rfl) fun p2 w4 h=>sro (sizeOf86 _) h fun w5 h=>ln (eg ?_)
 obtain ⟨aO,aP,aQ,aR,aS,aF,aG,hv9,h⟩:=h
 refine qa (isAgg86 _) (sizeOf86 _) hv9 (sc call104 (h.mono fun e w6 ⟨rfrom1,rto1,rnum1,rtext1,rkids1,r1,k,h⟩=>⟨_,k,?_⟩))
 refine qc (nw1 h (jT (zeroValue149 _) rfl) fun p3 w7 h=>sro (sizeOf149 _) h fun w8 h=>q (ln (vY (fun ρ w=>∃e1,Has ρ [(1,(vi inside1)),(2,(vp seen1)),(3,(vp (some p1))),(7,(vp (some p2))),(8,(vp (some p3))),(9,(vi e1))]∧m_I_j2 inside1 seen1 p1 p2 p3 e1 w K) ?_ ?_)))
 rintro ρ w ⟨e1,hH,h⟩
 refine jO hH (vY (fun ρ w=>∃e2,Has ρ [(1,(vi inside1)),(2,(vp seen1)),(3,(vp (some p1))),(9,(vi e2))]∧m_I_j3 inside1 seen1 p1 e2 w K) ?_ ?_)
 rintro ρ w ⟨e2,hH,h⟩
 refine jO hH (jA (eg (q (ln (jF ?_)))))
 obtain ⟨I1,mu1,h0,hr⟩:=h
 refine zI (σ:=Int×Int×World) (fun s ρ w=>w=s.2.2∧Has ρ [(1,(vi inside1)),(2,(vp seen1)),(3,(vp (some p1))),(9,(vi s.1)),(10,(vi s.2.1))]∧I1 s.1 s.2.1 s.2.2) (fun s=>mu1 s.1 s.2.1 s.2.2) (e2,0,w) ⟨rfl,hm,h0⟩ ?_
 rintro ⟨e3,i1,wl1⟩ ρ w ⟨hw,hH,hI⟩
 dsimp only at hw hH;subst w
 have h:=hr e3 i1 wl1 hI
 refine jO hH (jA (eg (qb (ql (isAgg22 _) h fun v2 h=>qc ?_))))
 obtain ⟨hg1,h⟩|⟨hg1,h⟩:=h.br
 refine qk 51 hg1 (qk 51 hg1 (q2 (vb (e3 == 0)) (xT hg1) (ln (cbr h ?_ ?_))))<;>intro h
 refine jC (jJ (jA (jF (rg (q (ql (isAgg22 _) h fun v3 h=>q (qi (runUnderlying22 _) (sizeOf49 _) h fun a3 h=>?_)))))))
 obtain ⟨bM,bN,bO,bP,bQ,bR,hv1,h⟩:=h
 refine qa (isAgg49 _) (sizeOf49 _) hv1 (qc (sc call68 (h.mono fun e w9 ⟨r2,k,h⟩=>⟨_,k,?_⟩)))
 refine q (jB (kD (jJ (rg (qc (ln ⟨(r2,(q6.wrap (i1+1)),w9),⟨rfl,hm,h.1⟩,h.2⟩))))))
 refine zE (kP (kP (kO (jJ (eg (q0 (vi e3) (q0 (vi e3) (ln (er (rs1 results68 ⟨e3,rfl,h⟩))))))))))
 refine sj2 51 hg1 (q2 (vb false) (xF hg1) (ln (kX (by kernel_rfl) (zE (kP (kP (kO (jJ (jA (rg (qb (ln (er (rs1 results68 ⟨e3,rfl,h⟩))))))))))))))
 refine eg (qb (ln (cbr h ?_ ?_)))<;>intro h
 refine rg ?_
 obtain ⟨vfrom1,vto1,vnum1,vtext1,vkids1,hv6,h⟩:=h
 refine qa (isAgg149 _) (sizeOf149 _) hv6 ?_
 obtain ⟨bU,bV,bW,bX,bY,bS,bT,hv5,h⟩:=h
 refine qa (isAgg86 _) (sizeOf86 _) hv5 (sc call105 (h.mono fun e w10 ⟨r3,k,h⟩=>⟨_,k,?_⟩))
 refine q (ln ⟨r3,hm,h⟩)
 refine jC (jJ ⟨e1,hm,h⟩)
 refine eg (qc ?_)
 obtain ⟨hg2,h⟩|⟨hg2,h⟩:=h.br
 refine qk 33 hg2 ?_
 obtain ⟨v4,hv8,h⟩:=h
 refine q4 33 hg2 (xl (isAgg22 _) hv8) (qk 33 hg2 (qk 33 hg2 ?_))
 obtain ⟨v5,hv7,h⟩:=h
 refine q4 33 hg2 (xl (isAgg3 _) hv7) (qk 33 hg2 (q2 (vb (((v4.len:Int):Int) != v5)) (xT hg2) (ln (cbr h ?_ ?_))))<;>intro h
 refine rg (q (ln ⟨53,hm,h⟩))
 refine jC (jJ ⟨r1,hm,h⟩)
 refine sj 33 hg2 (sj5 33 hg2 (q2 (vb false) (xF hg2) (ln (kX (by kernel_rfl) (jC (jJ ⟨r1,hm,h⟩))))))
 refine eg (q (qm h fun a4 h=>ql (isAgg3 _) h fun v6 h=>qb ?_))
 obtain ⟨hg3,h⟩|⟨hg3,h⟩:=h.br
 refine sj2 15 hg3 (q2 (vb true) (xT hg3) (ln (zS (by kernel_rfl) (eg (q0 (vi 52) (ln (er (jW (rs1 results68 ⟨52,rfl,h⟩)))))))))
 refine qk 15 hg3 (qk 15 hg3 (q2 (vb (decide (inside1≥64))) (xF hg3) (ln (cbr h ?_ ?_))))<;>intro h
 refine eg (q (ln (er (jW (rs1 results68 ⟨52,rfl,h⟩)))))
 refine jC (jJ ⟨hm,h⟩)
def m_W_l1 (p1:Option Addr) (p3 p4:Addr) (v1:Sl) (x1:Int) (wl1:World) (Kc1:Int→WP) (K:Int→Int→WP):Prop :=Br (decide (x1<(v1.len:Int))) (∃a1:Addr,At v1 x1 6 a1∧∃aO aP aQ aR aS bR,Row wl1 a1 (Ac aO aP aQ aR aS bR)∧∀p5 w6,New wl1 (.cells #[(vi 0),(vi 0),(vi 0),(vu 0),ve,Sl.nil.v] 49) p5 w6→(∀j,j<6→zQ w6 (p5.add j))∧∀w7,w7=storeRow w6 p5 (Ac aO aP aQ aR aS bR)→∃bM bN bO bP bQ cU,Row w7 p5 (Ac bM bN bO bP bQ cU)∧Calls prog 69 #[(vp p1),(.agg #[(vi bM),(vi bN),(vi bO),(vu bP),(vs bQ),cU.v])] w7 (fun e w8=>∃r1 r2,e=.returned (.tuple #[(vi r1),(vi r2)])∧Br (r2 != 0) (K 0 r2 w8) (∃a2:Addr,At (Sl.mk (some p4) 2 2) x1 1 a2∧∃v2,w8.cell? a2=some (vp v2)∧∃a3,v2=some a3∧zQ w8 a3∧∀w9,w9=w8.setCell a3 (vi r1)→Kc1 (q6.wrap (x1+1)) w9))) (∃bU bV bW bX bY aF aG,Row wl1 p3 (Aa bU bV bW bX bY aF aG)∧Calls prog 66 #[(vp p1),(.agg #[(vi bU),(vi bV),(vi bW),(vu bX),(vs bY),(vi aF),(vi aG)])] wl1 (fun e w10=>∃r3 r4,e=.returned (.tuple #[(vi r3),(vi r4)])∧K r3 r4 w10))
def m_W (p1:Option Addr) (bA bB:Int) (bC bD:Int) (bE:ByteArray) (bF:Sl) (w:World) (K:Int→Int→WP):Prop :=∀p2 w1,New w (.cells #[(vi bA),(vi bB),(vi bC),(vu bD),(vs bE),bF.v] 49) p2 w1→∃aA aB aC aD aE bG,Row w1 p2 (Ac aA aB aC aD aE bG)∧Calls prog 103 #[(.agg #[(vi aA),(vi aB),(vi aC),(vu aD),(vs aE),bG.v])] w1 (fun e w2=>∃aT aU aV aW aX aY aZ,e=.returned (Ab aT aU aV aW aX aY aZ)∧∀p3 w3,New w2 (.cells #[(vi 0),(vi 0),(vi 0),(vu 0),ve,(vi 0),(vi 0)] 86) p3 w3→(∀j,j<7→zQ w3 (p3.add j))∧∀w4,w4=storeRow w3 p3 (Aa aT aU aV aW aX aY aZ)→∀p4 w5,New w4 (.cells #[(vp (some (p3.add 5))),(vp (some (p3.add 6)))] 179) p4 w5→∃v1:Sl,w5.cell? (p2.add 5)=some v1.v∧∃(I1:Int→WP) (mu1:Int→World→Nat),I1 0 w5∧∀(x1:Int) (wl1:World),I1 x1 wl1→m_W_l1 p1 p3 p4 v1 x1 wl1 (fun y'0 w'=>I1 y'0 w'∧mu1 y'0 w'<mu1 x1 wl1) K)
theorem w_W (p1 bA bB bC bD bE bF w K) (h:m_W p1 bA bB bC bD bE bF w K):
  Calls prog 69 #[(vp p1),(.agg #[(vi bA),(vi bB),(vi bC),(vu bD),(vs bE),bF.v])] w (fun e w'=>∃r5 r6,e=.returned (.tuple #[(vi r5),(vi r6)])∧K r5 r6 w'):=by
 refine cw (args:=[(vp p1),(Ae bA bB bC bD bE bF)]) func69 ntmps69 (eg (sn (O:=(.cells #[(vi bA),(vi bB),(vi bC),(vu bD),(vs bE),bF.v] 49)) xb ?_))
 intro p2 w1 hn7
 have h:=h p2 w1 hn7
 refine qb (ln (eg ?_))
 obtain ⟨aA,aB,aC,aD,aE,bG,hv8,h⟩:=h
 refine qa (isAgg49 _) (sizeOf49 _) hv8 (sc call103 (h.mono fun e w2 ⟨aT,aU,aV,aW,aX,aY,aZ,k,h⟩=>⟨_,k,?_⟩))
 refine nw1 h (jT (zeroValue86 _) rfl) fun p3 w3 h=>sro (sizeOf86 _) h fun w4 h=>ln (eg (qb (nw4 (fun p=>(Sl.mk (some p) 2 2).v) h fun p4 w5 h=>q (ln (jA (eg (q (ql (isAgg22 _) h fun v1 h=>qb (ln (jF ?_))))))))))
 obtain ⟨I1,mu1,h0,hr⟩:=h
 refine zI (σ:=Int×World) (fun s ρ w=>w=s.2∧Has ρ [(0,(vp p1)),(6,(vp (some p3))),(7,(Sl.mk (some p4) 2 2).v),(18,v1.v),(19,(vi (v1.len:Int))),(20,(vi s.1))]∧I1 s.1 s.2) (fun s=>mu1 s.1 s.2) (0,w5) ⟨rfl,hm,h0⟩ ?_
 rintro ⟨x1,wl1⟩ ρ w ⟨hw,hH,hI⟩
 dsimp only at hw hH;subst w
 have h:=hr x1 wl1 hI
 refine jO hH (eg (q (ln (jA (cbr h ?_ ?_)))))<;>intro h
 refine jC (jJ (jA (jF (eg (q (qi (runUnderlying22 _) (sizeOf49 _) h fun a1 h=>?_))))))
 obtain ⟨aO,aP,aQ,aR,aS,bR,hv4,h⟩:=h
 refine qa (isAgg49 _) (sizeOf49 _) hv4 (nw1 h (jT (zeroValue49 _) rfl) fun p5 w6 h=>q (sro (sizeOf49 _) h fun w7 h=>ln (eg (q ?_))))
 obtain ⟨bM,bN,bO,bP,bQ,cU,hv3,h⟩:=h
 refine qa (isAgg49 _) (sizeOf49 _) hv3 (sc call69 (h.mono fun e w8 ⟨r1,r2,k,h⟩=>⟨_,k,?_⟩))
 refine q (qd (ln (jA (eg (qb (ln (cbr h ?_ ?_)))))))<;>intro h
 refine eg (qc (ln (er (jW (kG (jW (jW (kG (jW (vD (.inl rfl) results69 (v:=(vi 0)) (by kernel_rfl) (v':=(vi r2)) (by kernel_rfl) ⟨0,r2,rfl,h⟩))))))))))
 refine jC (jJ (rg (qb (qi (runUnderlying180 _) (sizeOf179 _) h fun a2 h=>ql (isAgg179 _) h fun v2 h=>q (qm h fun a3 h=>st1 (sizeOf30 _) h fun w9 h=>jB (kD (jJ (rg (qb (ln ⟨((q6.wrap (x1+1)),w9),⟨rfl,hm,h.1⟩,h.2⟩))))))))))
 refine zE (kP (kP (kO (jJ (eg (q0 (vp p1) ?_))))))
 obtain ⟨bU,bV,bW,bX,bY,aF,aG,hv6,h⟩:=h
 refine qa (isAgg86 _) (sizeOf86 _) hv6 (sc call66 (h.mono fun e w10 ⟨r3,r4,k,h⟩=>⟨_,k,?_⟩))
 refine qd (ln (er (vD (.inl rfl) results69 (v:=(vi r3)) (by kernel_rfl) (v':=(vi r4)) (by kernel_rfl) ⟨r3,r4,rfl,h⟩)))
def m_X_l1 (p1:Option Addr) (n1:Int) (s1:Sl) (x1:Int) (wl1:World) (Kc1:Int→WP) (K:WP):Prop :=Br (decide (x1<(s1.len:Int))) (∃a2:Addr,At s1 x1 9 a2∧∃vnodeKind1 vnodeFrom1 vnodeTo1 vnodeNum1 vnodeText1 vnodeA1 vnodeB1 vsize1 vdepth1,Row wl1 a2 [(vi vnodeKind1),(vi vnodeFrom1),(vi vnodeTo1),(vu vnodeNum1),(vs vnodeText1),(vi vnodeA1),(vi vnodeB1),(vi vsize1),(vi vdepth1)]∧∀p2 w1,New wl1 (.cells #[(vi 0),(vi 0),(vi 0),(vu 0),ve,(vi 0),(vi 0),(vi 0),(vi 0)] 147) p2 w1→(∀j,j<9→zQ w1 (p2.add j))∧∀w2,w2=storeRow w1 p2 [(vi vnodeKind1),(vi vnodeFrom1),(vi vnodeTo1),(vu vnodeNum1),(vs vnodeText1),(vi vnodeA1),(vi vnodeB1),(vi vsize1),(vi vdepth1)]→∃C1:WP,C1 w2.drew∧∀w3,w3=w2.drew→∃a3,p1=some a3∧∃v2:Option Nat,(∀w',C1 w'→w'.cell? (a3.add 1)=some (.map v2))∧∃aA aB aC aD aE aF aG,(∀w',C1 w'→Row w' p2 (Aa aA aB aC aD aE aF aG))∧∃w4:World,(Builtin.delete_ #[92,86] 0 #[(.map v2),(Ab aA aB aC aD aE aF aG)]).run prog w3=.ok (.tuple #[]) w4∧Kc1 (q6.wrap (x1+1)) w4) (∃a4,p1=some a4∧∃v3:Sl,wl1.cell? a4=some v3.v∧∃s2:Sl,(Instr.sliceAt 91 v3.v none (some (vi n1)) none).run prog wl1=.ok s2.v wl1∧∃a5,p1=some a5∧zQ wl1 a5∧∀w5,w5=wl1.setCell a5 s2.v→K w5)
def m_X (p1:Option Addr) (n1:Int) (w:World) (K:WP):Prop :=∃a1,p1=some a1∧∃v1:Sl,w.cell? a1=some v1.v∧∃s1:Sl,(Instr.sliceAt 91 v1.v (some (vi n1)) none none).run prog w=.ok s1.v w∧∃(I1:Int→WP) (mu1:Int→World→Nat),I1 0 w∧∀(x1:Int) (wl1:World),I1 x1 wl1→m_X_l1 p1 n1 s1 x1 wl1 (fun y'0 w'=>I1 y'0 w'∧mu1 y'0 w'<mu1 x1 wl1) K
theorem w_X (p1 n1 w K) (h:m_X p1 n1 w K):
  Calls prog 70 #[(vp p1),(vi n1)] w (fun e w'=>e=.returned (.tuple #[])∧K  w'):=by
 refine cw (args:=[(vp p1),(vi n1)]) func70 ntmps70 (jA (eg (q0 (vp p1) ?_)))
 refine qm h fun a1 h=>q (ql (isAgg91 _) h fun v1 h=>q ?_)
 obtain ⟨s1,hv8,h⟩:=h
 refine q2 s1.v (yF (by kernel_rfl) (by kernel_rfl) (by kernel_rfl) (by kernel_rfl) hv8) (qb (ln (jF ?_)))
 obtain ⟨I1,mu1,h0,hr⟩:=h
 refine zI (σ:=Int×World) (fun s ρ w=>w=s.2∧Has ρ [(0,(vp p1)),(1,(vi n1)),(11,s1.v),(12,(vi (s1.len:Int))),(13,(vi s.1))]∧I1 s.1 s.2) (fun s=>mu1 s.1 s.2) (0,w) ⟨rfl,hm,h0⟩ ?_
 rintro ⟨x1,wl1⟩ ρ w ⟨hw,hH,hI⟩
 dsimp only at hw hH;subst w
 have h:=hr x1 wl1 hI
 refine jO hH (eg (q (ln (jA (cbr h ?_ ?_)))))<;>intro h
 refine jC (jJ (jA (jF (eg (qi (runUnderlying91 _) (sizeOf147 _) h fun a2 h=>?_)))))
 obtain ⟨vnodeKind1,vnodeFrom1,vnodeTo1,vnodeNum1,vnodeText1,vnodeA1,vnodeB1,vsize1,vdepth1,hv4,h⟩:=h
 refine qa (isAgg147 _) (sizeOf147 _) hv4 (nw1 h (jT (zeroValue147 _) rfl) fun p2 w1 h=>sro (sizeOf147 _) h fun w2 h=>ln ?_)
 obtain ⟨C1,hC,h⟩:=h
 refine dr1 C1 [6] [6] hC h fun w3 h=>qx 0 (vp p1) Kp0 (qg 1 ?_)
 obtain ⟨a3,hp3,h⟩:=h
 refine sy Kp1 (fun _ _=>xn hp3) (qx 2 (vp (some (a3.add 1))) Kp2 (qg 3 ?_))
 obtain ⟨v2,hv3,h⟩:=h
 refine sy Kp3 (fun _ k=>xl (isAgg92 _) (hv3 _ k)) (qx 4 (vp (some p2)) Kp4 (qg 5 ?_))
 obtain ⟨aA,aB,aC,aD,aE,aF,aG,hv2,h⟩:=h
 refine sy (v:=(Ab aA aB aC aD aE aF aG)) Kp5 (fun w' hw'=>(xa p2 (Aa aA aB aC aD aE aF aG) (isAgg86 _) (sizeOf86 _) (hv2 w' hw'))) (lg 6 ?_)
 obtain ⟨w4,hv1,h⟩:=h
 refine sl (v:=(.tuple #[])) Kp6 (jP rfl) (by kernel_rfl) (zH (args:=#[(.map v2),(Ab aA aB aC aD aE aF aG)]) (by kernel_rfl) (fun _=>rfl) hv1) (.inl (by kernel_rfl)) (wn (kD (jJ (rg (q0 (vi (q6.wrap (x1+1))) (q0 (vi (q6.wrap (x1+1))) (ln ⟨((q6.wrap (x1+1)),w4),⟨rfl,hm,h.1⟩,h.2⟩)))))))
 refine zE (kP (kP (kO (jJ (rg (q0 (vp p1) (q0 (vp p1) (qm h fun a4 h=>q (ql (isAgg91 _) h fun v3 h=>q ?_)))))))))
 obtain ⟨s2,hv6,h⟩:=h
 refine q2 s2.v (yF (by kernel_rfl) (by kernel_rfl) (by kernel_rfl) (by kernel_rfl) hv6) (qm h fun a5 h=>q (st1 (sizeOf91 _) h fun w5 h=>jB (jEE (.inr rfl) results70 ⟨rfl,h⟩)))
def m_Y_j1 (p1:Option Addr) (t1:Int) (x1:Bool) (w:World) (K:Bool→WP):Prop :=Br x1 (∃a1,p1=some a1∧∃v1:Sl,w.cell? a1=some v1.v∧K (decide (t1≤(v1.len:Int))) w) (K false w)
def m_Y (p1:Option Addr) (t1:Int) (w:World) (K:Bool→WP):Prop :=Br (!(Option.isNone p1)) (m_Y_j1 p1 t1 (decide (t1≥1)) w K) (m_Y_j1 p1 t1 false w K)
theorem w_Y (p1 t1 w K) (h:m_Y p1 t1 w K):
  Calls prog 80 #[(vp p1),(vi t1)] w (fun e w'=>∃r1,e=.returned (vb r1)∧K r1 w'):=by
 refine cw (args:=[(vp p1),(vi t1)]) func80 ntmps80 (eg (q0 (vb false) (ln (eg (q0 (vp p1) (q2 (vb (!(Option.isNone p1))) (jDC (by kernel_rfl) rfl underlying26) (q0 (vb (!(Option.isNone p1))) ?_)))))))
 refine jH 3 (fun ρ w=>∃x1,Has ρ [(0,(vp p1)),(1,(vi t1)),(10,(vb x1))]∧m_Y_j1 p1 t1 x1 w K) ?_ ?_
 rintro ρ w ⟨x1,hH,h⟩
 refine jM hH (q ?_)
 obtain ⟨hg1,h⟩|⟨hg1,h⟩:=h.br
 refine qk 11 hg1 (qk 11 hg1 ?_)
 obtain ⟨a1,hp1,h⟩:=h
 refine q4 11 hg1 (xn hp1) (qk 11 hg1 ?_)
 obtain ⟨v1,hv1,h⟩:=h
 refine q4 11 hg1 (xl (isAgg91 _) hv1) (qk 11 hg1 (qk 11 hg1 (q2 (vb (decide (t1≤(v1.len:Int)))) (xT hg1) (q (ln (er (rs1 results80 ⟨(decide (t1≤(v1.len:Int))),rfl,h⟩)))))))
 refine sj2 11 hg1 (sj5 11 hg1 (q2 (vb false) (xF hg1) (q (ln (er (rs1 results80 ⟨false,rfl,h⟩))))))
 obtain ⟨hg2,h⟩|⟨hg2,h⟩:=h.br
 refine qk 7 hg2 (qk 7 hg2 (q2 (vb (decide (t1≥1))) (xT hg2) (jB ⟨(decide (t1≥1)),hm,h⟩)))
 refine sj2 7 hg2 (q2 (vb false) (xF hg2) (jB ⟨false,hm,h⟩))
def m_K2 (kind1:Int) (w:World) (K:Bool→Bool→Bool→Bool→Int→Bool→WP):Prop :=∀p1 w1,New w (.cells #[(vb false),(vb false),(vb false),(vb false),(vi 0)] 149) p1 w1→Br (decide (kind1<1)) ((∀j,j<5→zQ w1 (p1.add j))∧∀w2,w2=storeRow w1 p1 (Af false false false false 0)→∃qfrom1 qto1 qnum1 qtext1 qkids1,Row w2 p1 (Af qfrom1 qto1 qnum1 qtext1 qkids1)∧K qfrom1 qto1 qnum1 qtext1 qkids1 false w2) (Br (decide (kind1>9)) ((∀j,j<5→zQ w1 (p1.add j))∧∀w3,w3=storeRow w1 p1 (Af false false false false 0)→∃qfrom2 qto2 qnum2 qtext2 qkids2,Row w3 p1 (Af qfrom2 qto2 qnum2 qtext2 qkids2)∧K qfrom2 qto2 qnum2 qtext2 qkids2 false w3) (Calls prog 137 #[] w1 (fun e w4=>∃r1:Array Value,e=.returned (.agg r1)∧∃efrom1 eto1 enum1 etext1 ekids1,(Instr.index 196 (.agg r1) (vi kind1)).run prog w4=.ok (.agg #[(vb efrom1),(vb eto1),(vb enum1),(vb etext1),(vi ekids1)]) w4∧(∀j,j<5→zQ w4 (p1.add j))∧∀w5,w5=storeRow w4 p1 (Af efrom1 eto1 enum1 etext1 ekids1)→∃qfrom3 qto3 qnum3 qtext3 qkids3,Row w5 p1 (Af qfrom3 qto3 qnum3 qtext3 qkids3)∧K qfrom3 qto3 qnum3 qtext3 qkids3 true w5)))
theorem w_K2 (kind1 w K) (h:m_K2 kind1 w K):
  Calls prog 91 #[(vi kind1)] w (fun e w'=>∃rfrom1 rto1 rnum1 rtext1 rkids1 r2,e=.returned (.tuple #[(Aj rfrom1 rto1 rnum1 rtext1 rkids1),(vb r2)])∧K rfrom1 rto1 rnum1 rtext1 rkids1 r2 w'):=by
 refine cw (args:=[(vi kind1)]) func91 ntmps91 (eg (sn (O:=(.cells #[(vb false),(vb false),(vb false),(vb false),(vi 0)] 149)) (jT (zeroValue149 _) rfl) ?_))
 intro p1 w1 hn4
 have h:=h p1 w1 hn4
 refine q (ln (jA (eg (qc ?_))))
 obtain ⟨hg1,h⟩|⟨hg1,h⟩:=h.br
 refine sj2 6 hg1 (q2 (vb true) (xT hg1) (ln (zS (by kernel_rfl) (eg (q0 (Aj false false false false 0) (sro (sizeOf149 _) h fun w2 h=>q (ln (er (jW ?_)))))))))
 obtain ⟨qfrom1,qto1,qnum1,qtext1,qkids1,hv1,h⟩:=h
 refine gg2 results91 (rva (isAgg149 _) (sizeOf149 _) hv1) (rvU (vb false)) ⟨qfrom1,qto1,qnum1,qtext1,qkids1,false,rfl,h⟩
 refine qk 6 hg1 (qk 6 hg1 (q2 (vb (decide (kind1>9))) (xF hg1) (ln (cbr h ?_ ?_))))<;>intro h
 refine eg (q (sro (sizeOf149 _) h fun w3 h=>q (ln (er (jW ?_)))))
 obtain ⟨qfrom2,qto2,qnum2,qtext2,qkids2,hv2,h⟩:=h
 refine gg2 results91 (rva (isAgg149 _) (sizeOf149 _) hv2) (rvU (vb false)) ⟨qfrom2,qto2,qnum2,qtext2,qkids2,false,rfl,h⟩
 refine jC (jJ (eg (sc call137 (h.mono fun e w4 ⟨r1,k,h⟩=>⟨_,k,?_⟩))))
 refine q ?_
 obtain ⟨efrom1,eto1,enum1,etext1,ekids1,hv4,h⟩:=h
 refine q2 (Aj efrom1 eto1 enum1 etext1 ekids1) (jEO (by kernel_rfl) (by kernel_rfl) hv4) (sro (sizeOf149 _) h fun w5 h=>q (ln (er ?_)))
 obtain ⟨qfrom3,qto3,qnum3,qtext3,qkids3,hv3,h⟩:=h
 refine gg2 results91 (rva (isAgg149 _) (sizeOf149 _) hv3) (rvU (vb true)) ⟨qfrom3,qto3,qnum3,qtext3,qkids3,true,rfl,h⟩
def m_E_l3 (p1:Option Addr) (s1:Sl) (size1 depth1 x1:Int) (wl1:World) (Kc3:Int→Int→Int→WP) (K:Int→Int→Int→WP):Prop :=Br (decide (x1<(s1.len:Int))) (∃a1:Addr,At s1 x1 1 a1∧∃v4,wl1.cell? a1=some (vi v4)∧Calls prog 80 #[(vp p1),(vi v4)] wl1 (fun e w6=>∃r2,e=.returned (vb r2)∧Br (!r2) (K 0 0 51 w6) (Calls prog 143 #[(vp p1),(vi v4)] w6 (fun e w7=>∃r3,e=.returned (vi r3)∧Calls prog 144 #[(vp p1),(vi v4)] w7 (fun e w8=>∃r4,e=.returned (vi r4)∧∃z1,(Builtin.max_ #[3,3] 3 #[(vi depth1),(vi r4)]).run prog w8=.ok (vi z1) w8∧Kc3 (q6.wrap (size1+r3)) z1 (q6.wrap (x1+1)) w8))))) (Br (decide (size1>4096)) (K 0 0 52 wl1) (Br (decide ((q6.wrap (depth1+1))>64)) (K 0 0 52 wl1) (K size1 (q6.wrap (depth1+1)) 0 wl1)))
def m_E_j2 (p1:Option Addr) (p2 p3:Addr) (e2:Int) (w:World) (K:Int→Int→Int→WP):Prop :=Br (e2 != 0) (K 0 0 e2 w) (∃v1,w.cell? (p2.add 5)=some (vi v1)∧∃v2,w.cell? (p2.add 6)=some (vi v2)∧∀p4 w5,New w (.cells #[(vi v1),(vi v2)] 30) p4 w5→∃v3,w5.cell? (p3.add 4)=some (vi v3)∧∃s1:Sl,(Instr.sliceAt 52 (Sl.mk (some p4) 2 2).v none (some (vi v3)) none).run prog w5=.ok s1.v w5∧∃(I1:Int→Int→Int→WP) (mu1:Int→Int→Int→World→Nat),I1 1 0 0 w5∧∀(size1 depth1 x1:Int) (wl1:World),I1 size1 depth1 x1 wl1→m_E_l3 p1 s1 size1 depth1 x1 wl1 (fun y'0 y'1 y'2 w'=>I1 y'0 y'1 y'2 w'∧mu1 y'0 y'1 y'2 w'<mu1 size1 depth1 x1 wl1) K)
def m_E_j1 (p1:Option Addr) (p2 p3:Addr) (e1:Int) (w:World) (K:Int→Int→Int→WP):Prop :=Br (e1 == 0) (∃vfrom1 vto1 vnum1 vtext1 vkids1,Row w p3 (Af vfrom1 vto1 vnum1 vtext1 vkids1)∧∃aO aP aQ aR aS bS bT,Row w p2 (Aa aO aP aQ aR aS bS bT)∧Calls prog 105 #[(.agg #[(vb vfrom1),(vb vto1),(vb vnum1),(vb vtext1),(vi vkids1)]),(.agg #[(vi aO),(vi aP),(vi aQ),(vu aR),(vs aS),(vi bS),(vi bT)])] w (fun e w9=>∃r5,e=.returned (vi r5)∧m_E_j2 p1 p2 p3 r5 w9 K)) (m_E_j2 p1 p2 p3 e1 w K)
def m_E_j5 (p1:Option Addr) (p2:Addr) (r1:Int) (p3:Addr) (x2 x3:Bool) (w:World) (K:Int→Int→Int→WP):Prop :=Br (r1 == 0) (Br x2 (m_E_j1 p1 p2 p3 53 w K) (Br x3 (m_E_j1 p1 p2 p3 53 w K) (m_E_j1 p1 p2 p3 r1 w K))) (m_E_j1 p1 p2 p3 r1 w K)
def m_E_j4 (p1:Option Addr) (p2:Addr) (r1:Int) (p3:Addr) (x2:Bool) (w:World) (K:Int→Int→Int→WP):Prop :=Br (r1 == 0) (Br x2 (m_E_j1 p1 p2 p3 53 w K) (∃v6,w.cell? (p3.add 4)=some (vi v6)∧Br (decide (v6<2)) (∃v7,w.cell? (p2.add 6)=some (vi v7)∧m_E_j5 p1 p2 r1 p3 x2 (v7 != 0) w K) (m_E_j5 p1 p2 r1 p3 x2 false w K))) (m_E_j1 p1 p2 p3 r1 w K)
def m_E (p1:Option Addr) (aH aI:Int) (aJ aK:Int) (aL:ByteArray) (aM aN:Int) (w:World) (K:Int→Int→Int→WP):Prop :=∀p2 w1,New w (.cells #[(vi aH),(vi aI),(vi aJ),(vu aK),(vs aL),(vi aM),(vi aN)] 86) p2 w1→∃aA aB aC aD aE aF aG,Row w1 p2 (Aa aA aB aC aD aE aF aG)∧Calls prog 104 #[(.agg #[(vi aA),(vi aB),(vi aC),(vu aD),(vs aE),(vi aF),(vi aG)])] w1 (fun e w2=>∃rfrom1 rto1 rnum1 rtext1 rkids1 r1,e=.returned (.tuple #[(Aj rfrom1 rto1 rnum1 rtext1 rkids1),(vi r1)])∧∀p3 w3,New w2 (.cells #[(vb false),(vb false),(vb false),(vb false),(vi 0)] 149) p3 w3→(∀j,j<5→zQ w3 (p3.add j))∧∀w4,w4=storeRow w3 p3 (Af rfrom1 rto1 rnum1 rtext1 rkids1)→Br (r1 == 0) (∃v5,w4.cell? (p3.add 4)=some (vi v5)∧Br (decide (v5<1)) (∃v8,w4.cell? (p2.add 5)=some (vi v8)∧m_E_j4 p1 p2 r1 p3 (v8 != 0) w4 K) (m_E_j4 p1 p2 r1 p3 false w4 K)) (m_E_j1 p1 p2 p3 r1 w4 K))
theorem w_E (p1 aH aI aJ aK aL aM aN w K) (h:m_E p1 aH aI aJ aK aL aM aN w K):
  Calls prog 102 #[(vp p1),(.agg #[(vi aH),(vi aI),(vi aJ),(vu aK),(vs aL),(vi aM),(vi aN)])] w (fun e w'=>∃r6 r7 r8,e=.returned (.tuple #[(vi r6),(vi r7),(vi r8)])∧K r6 r7 r8 w'):=by
 refine cw (args:=[(vp p1),(Ab aH aI aJ aK aL aM aN)]) func102 ntmps102 (eg (sn (O:=(.cells #[(vi aH),(vi aI),(vi aJ),(vu aK),(vs aL),(vi aM),(vi aN)] 86)) xb ?_))
 intro p2 w1 hn4
 have h:=h p2 w1 hn4
 refine qc (ln (eg ?_))
 obtain ⟨aA,aB,aC,aD,aE,aF,aG,hv14,h⟩:=h
 refine qa (isAgg86 _) (sizeOf86 _) hv14 (sc call104 (h.mono fun e w2 ⟨rfrom1,rto1,rnum1,rtext1,rkids1,r1,k,h⟩=>⟨_,k,?_⟩))
 refine qc (nw1 h (jT (zeroValue149 _) rfl) fun p3 w3 h=>sro (sizeOf149 _) h fun w4 h=>q (ln (vY (fun ρ w=>∃e1,Has ρ [(0,(vp p1)),(3,(vp (some p2))),(7,(vp (some p3))),(8,(vi e1))]∧m_E_j1 p1 p2 p3 e1 w K) ?_ ?_)))
 rintro ρ w ⟨e1,hH,h⟩
 refine jO hH (vY (fun ρ w=>∃e2,Has ρ [(0,(vp p1)),(3,(vp (some p2))),(7,(vp (some p3))),(8,(vi e2))]∧m_E_j2 p1 p2 p3 e2 w K) ?_ ?_)
 rintro ρ w ⟨e2,hH,h⟩
 refine jO hH (jA (eg (qb (ln (cbr h ?_ ?_)))))<;>intro h
 refine eg (qd (ln (er (jW (res3 (.inl rfl) results102 (v:=(vi 0)) (by kernel_rfl) (v':=(vi 0)) (by kernel_rfl) (v'':=(vi e2)) (by kernel_rfl) ⟨0,0,e2,rfl,h⟩)))))
 refine jC (jJ (eg (qb (ln (jA (eg (q (ql (isAgg30 _) h fun v1 h=>q (ql (isAgg30 _) h fun v2 h=>vU (O:=(.cells #[(vi v1),(vi v2)] 30)) (fun p=>(Sl.mk (some p) 2 2).v) (jP rfl) (zM (vs:=#[(0,(vi v1)),(1,(vi v2))]) (by kernel_rfl) (by kernel_rfl)) ?_)))))))))
 intro p4 w5 hn2
 have h:=h p4 w5 hn2
 refine q (ql (isAgg3 _) h fun v3 h=>?_)
 obtain ⟨s1,hv4,h⟩:=h
 refine q2 s1.v (yF (by kernel_rfl) (by kernel_rfl) (by kernel_rfl) (by kernel_rfl) hv4) (qb (ln (jF ?_)))
 obtain ⟨I1,mu1,h0,hr⟩:=h
 refine zI (σ:=Int×Int×Int×World) (fun s ρ w=>w=s.2.2.2∧Has ρ [(0,(vp p1)),(9,(vi s.1)),(10,(vi s.2.1)),(55,s1.v),(56,(vi (s1.len:Int))),(57,(vi s.2.2.1))]∧I1 s.1 s.2.1 s.2.2.1 s.2.2.2) (fun s=>mu1 s.1 s.2.1 s.2.2.1 s.2.2.2) (1,0,0,w5) ⟨rfl,hm,h0⟩ ?_
 rintro ⟨size1,depth1,x1,wl1⟩ ρ w ⟨hw,hH,hI⟩
 dsimp only at hw hH;subst w
 have h:=hr size1 depth1 x1 wl1 hI
 refine jO hH (eg (q (ln (jA (cbr h ?_ ?_)))))<;>intro h
 refine jC (jJ (jA (jF (eg (qi (runUnderlying52 _) (sizeOf30 _) h fun a1 h=>ql (isAgg30 _) h fun v4 h=>q (ln (jA (eg (qb (sc call80 (h.mono fun e w6 ⟨r2,k,h⟩=>⟨_,k,?_⟩)))))))))))
 refine q (ln (cbr h ?_ ?_))<;>intro h
 refine eg (qc (ln (er (jW (kG (jW (jW (kG (jW (res3 (.inl rfl) results102 (v:=(vi 0)) (by kernel_rfl) (v':=(vi 0)) (by kernel_rfl) (v'':=(vi 51)) (by kernel_rfl) ⟨0,0,51,rfl,h⟩))))))))))
 refine jC (jJ (eg (qc (sc call143 (h.mono fun e w7 ⟨r3,k,h⟩=>⟨_,k,?_⟩)))))
 refine qb (ln (rg (qc (sc call144 (h.mono fun e w8 ⟨r4,k,h⟩=>⟨_,k,?_⟩)))))
 obtain ⟨z1,hv1,h⟩:=h
 refine q2 (vi z1) (zH (args:=#[(vi depth1),(vi r4)]) (by kernel_rfl) (fun _=>rfl) hv1) (q (jB (kD (jJ (rg (qb (ln ⟨((q6.wrap (size1+r3)),z1,(q6.wrap (x1+1)),w8),⟨rfl,hm,h.1⟩,h.2⟩)))))))
 refine zE (kP (kP (kO (jJ (eg (q0 (vi depth1) (q0 (vi (q6.wrap (depth1+1))) (q0 (vi (q6.wrap (depth1+1))) (ln (jA (eg (qc ?_))))))))))))
 obtain ⟨hg1,h⟩|⟨hg1,h⟩:=h.br
 refine sj2 80 hg1 (q2 (vb true) (xT hg1) (ln (zS (by kernel_rfl) (eg (q0 (vi 0) (q0 (vi 0) (q0 (vi 52) (jB (jJ (er (jW (res3 (.inl rfl) results102 (v:=(vi 0)) (by kernel_rfl) (v':=(vi 0)) (by kernel_rfl) (v'':=(vi 52)) (by kernel_rfl) ⟨0,0,52,rfl,h⟩))))))))))))
 refine qk 80 hg1 (qk 80 hg1 (q2 (vb (decide ((q6.wrap (depth1+1))>64))) (xF hg1) (ln (cbr h ?_ ?_))))<;>intro h
 refine eg (qc (ln (er (jW (res3 (.inl rfl) results102 (v:=(vi 0)) (by kernel_rfl) (v':=(vi 0)) (by kernel_rfl) (v'':=(vi 52)) (by kernel_rfl) ⟨0,0,52,rfl,h⟩)))))
 refine jC (jJ (eg (q (qd (ln (er (res3 (.inl rfl) results102 (v:=(vi size1)) (by kernel_rfl) (v':=(vi (q6.wrap (depth1+1)))) (by kernel_rfl) (v'':=(vi 0)) (by kernel_rfl) ⟨size1,(q6.wrap (depth1+1)),0,rfl,h⟩)))))))
 refine eg (qb (ln (cbr h ?_ ?_)))<;>intro h
 refine rg ?_
 obtain ⟨vfrom1,vto1,vnum1,vtext1,vkids1,hv9,h⟩:=h
 refine qa (isAgg149 _) (sizeOf149 _) hv9 ?_
 obtain ⟨aO,aP,aQ,aR,aS,bS,bT,hv8,h⟩:=h
 refine qa (isAgg86 _) (sizeOf86 _) hv8 (sc call105 (h.mono fun e w9 ⟨r5,k,h⟩=>⟨_,k,?_⟩))
 refine q (ln ⟨r5,hm,h⟩)
 refine jC (jJ ⟨e1,hm,h⟩)
 refine eg (qc ?_)
 obtain ⟨hg2,h⟩|⟨hg2,h⟩:=h.br
 refine qk 20 hg2 ?_
 obtain ⟨v5,hv13,h⟩:=h
 refine q4 20 hg2 (xl (isAgg3 _) hv13) (qk 20 hg2 (qk 20 hg2 (jH 4 (fun ρ w=>∃x2,Has ρ [(0,(vp p1)),(3,(vp (some p2))),(7,(vp (some p3))),(8,(vi r1)),(20,(vb (r1 == 0))),(28,(vb x2))]∧m_E_j4 p1 p2 r1 p3 x2 w K) ?_ ?_)))
 rintro ρ w ⟨x2,hH,h⟩
 refine jM hH ?_
 obtain ⟨hg3,h⟩|⟨hg3,h⟩:=h.br
 refine qk 20 hg3 ?_
 obtain ⟨hg4,h⟩|⟨hg4,h⟩:=h.br
 refine sj4 29 hg4 (sm (sm (sm (sj 29 hg4 (stq (v:=(vb true)) (wy 20 hg3) (xT hg4) (q2 (vb true) (xT hg3) (ln (zS (by kernel_rfl) (rg (q0 (vi 53) (ln ⟨53,hm,h⟩)))))))))))
 refine qk 29 hg4 ?_
 obtain ⟨v6,hv11,h⟩:=h
 refine q4 29 hg4 (xl (isAgg3 _) hv11) (qk 29 hg4 (qk 29 hg4 (jH 4 (fun ρ w=>∃x3,Has ρ [(0,(vp p1)),(3,(vp (some p2))),(7,(vp (some p3))),(8,(vi r1)),(20,(vb (r1 == 0))),(29,(vb x2)),(37,(vb x3))]∧m_E_j5 p1 p2 r1 p3 x2 x3 w K) ?_ ?_)))
 rintro ρ w ⟨x3,hH,h⟩
 refine jM hH ?_
 obtain ⟨hg5,h⟩|⟨hg5,h⟩:=h.br
 obtain ⟨hg6,h⟩|⟨hg6,h⟩:=h.br
 refine stq (v:=(vb true)) (wy 20 hg5) (xT hg6) (q2 (vb true) (xT hg5) (ln (zS (by kernel_rfl) (rg (q0 (vi 53) (ln ⟨53,hm,h⟩))))))
 refine stq (v:=(vb x3)) (wy 20 hg5) (xF hg6) (q2 (vb x3) (xT hg5) (ln (cbr h ?_ ?_)))<;>intro h
 refine rg (q (ln ⟨53,hm,h⟩))
 refine jC (jJ ⟨r1,hm,h⟩)
 refine sj 20 hg5 (q2 (vb false) (xF hg5) (ln (kX (by kernel_rfl) (jC (jJ ⟨r1,hm,h⟩)))))
 obtain ⟨hg7,h⟩|⟨hg7,h⟩:=h.br
 refine qk 33 hg7 ?_
 obtain ⟨v7,hv10,h⟩:=h
 refine q4 33 hg7 (xl (isAgg30 _) hv10) (qk 33 hg7 (stq (v:=(vb (v7 != 0))) (wy 29 hg4) (xT hg7) (jB ⟨(v7 != 0),hm,h⟩)))
 refine sj3 33 hg7 (stq (v:=(vb false)) (wy 29 hg4) (xF hg7) (jB ⟨false,hm,h⟩))
 refine sj 20 hg3 (sm (sm (sm (sm (sm (sm (sm (sm (sj 20 hg3 (q2 (vb false) (xF hg3) (jB (jJ (kX (by kernel_rfl) (jC (jJ ⟨r1,hm,h⟩)))))))))))))))
 obtain ⟨hg8,h⟩|⟨hg8,h⟩:=h.br
 refine qk 24 hg8 ?_
 obtain ⟨v8,hv12,h⟩:=h
 refine q4 24 hg8 (xl (isAgg30 _) hv12) (qk 24 hg8 (stq (v:=(vb (v8 != 0))) (wy 20 hg2) (xT hg8) (jB ⟨(v8 != 0),hm,h⟩)))
 refine sj3 24 hg8 (stq (v:=(vb false)) (wy 20 hg2) (xF hg8) (jB ⟨false,hm,h⟩))
 refine sj4 20 hg2 (sm (sm (sm (sj2 20 hg2 (sm (sm (sm (sm (sm (sm (sm (sm (sj 20 hg2 (q2 (vb false) (xF hg2) (ln (kX (by kernel_rfl) (jC (jJ ⟨r1,hm,h⟩))))))))))))))))))
def m_L2 (bA bB:Int) (bC bD:Int) (bE:ByteArray) (bF:Sl) (w:World) (K:Int→Int→Int→Int→ByteArray→Int→Int→WP):Prop :=∀p1 w1,New w (.cells #[(vi bA),(vi bB),(vi bC),(vu bD),(vs bE),bF.v] 49) p1 w1→∀p2 w2,New w1 (.cells #[(vi 0),(vi 0),(vi 0),(vu 0),ve,(vi 0),(vi 0)] 86) p2 w2→∃v1,w2.cell? p1=some (vi v1)∧∃v2,w2.cell? (p1.add 1)=some (vi v2)∧∃v3,w2.cell? (p1.add 2)=some (vi v3)∧∃v4,w2.cell? (p1.add 3)=some (vu v4)∧∃v5,w2.cell? (p1.add 4)=some (vs v5)∧(∀j,j<7→zQ w2 (p2.add j))∧∀w3,w3=storeRow w2 p2 (Aa v1 v2 v3 v4 v5 0 0)→∃bH bI bJ bK bL cE cF,Row w3 p2 (Aa bH bI bJ bK bL cE cF)∧K bH bI bJ bK bL cE cF w3
theorem w_L2 (bA bB bC bD bE bF w K) (h:m_L2 bA bB bC bD bE bF w K):
  Calls prog 103 #[(.agg #[(vi bA),(vi bB),(vi bC),(vu bD),(vs bE),bF.v])] w (fun e w'=>∃aT aU aV aW aX aY aZ,e=.returned (Ab aT aU aV aW aX aY aZ)∧K aT aU aV aW aX aY aZ w'):=by
 refine cw (args:=[(Ae bA bB bC bD bE bF)]) func103 ntmps103 (eg (sn (O:=(.cells #[(vi bA),(vi bB),(vi bC),(vu bD),(vs bE),bF.v] 49)) xb ?_))
 intro p1 w1 hn3
 have h:=h p1 w1 hn3
 refine nw1 h (jT (zeroValue86 _) rfl) fun p2 w2 h=>ln (eg (q (ql (isAgg3 _) h fun v1 h=>q (ql (isAgg3 _) h fun v2 h=>q (ql (isAgg3 _) h fun v3 h=>q (ql (isAgg47 _) h fun v4 h=>q (ql (isAgg9 _) h fun v5 h=>q (sro (sizeOf86 _) h fun w3 h=>ln (er ?_)))))))))
 obtain ⟨bH,bI,bJ,bK,bL,cE,cF,hv1,h⟩:=h
 refine gg1 results103 (rva (isAgg86 _) (sizeOf86 _) hv1) ⟨bH,bI,bJ,bK,bL,cE,cF,rfl,h⟩
def m_D_j3 (p1 p2 p3:Addr) (x3:Bool) (w:World) (K:Bool→Bool→Bool→Bool→Int→Int→WP):Prop :=Br x3 (∃vfrom1 vto1 vnum1 vtext1 vkids1,Row w p3 (Af vfrom1 vto1 vnum1 vtext1 vkids1)∧(∀j,j<5→zQ w (p2.add j))∧∀w6,w6=storeRow w p2 (Af vfrom1 vto1 vnum1 vtext1 vkids1)→∃qfrom1 qto1 qnum1 qtext1 qkids1,Row w6 p2 (Af qfrom1 qto1 qnum1 qtext1 qkids1)∧K qfrom1 qto1 qnum1 qtext1 qkids1 53 w6) (∃v2,w.cell? (p3.add 3)=some (vb v2)∧Br (!v2) (∃v3,w.cell? (p1.add 4)=some (vs v3)∧Br (!(decide (v3=⟨#[]⟩))) (∃vfrom2 vto2 vnum2 vtext2 vkids2,Row w p3 (Af vfrom2 vto2 vnum2 vtext2 vkids2)∧(∀j,j<5→zQ w (p2.add j))∧∀w7,w7=storeRow w p2 (Af vfrom2 vto2 vnum2 vtext2 vkids2)→∃qfrom2 qto2 qnum2 qtext2 qkids2,Row w7 p2 (Af qfrom2 qto2 qnum2 qtext2 qkids2)∧K qfrom2 qto2 qnum2 qtext2 qkids2 53 w7) (∃vfrom3 vto3 vnum3 vtext3 vkids3,Row w p3 (Af vfrom3 vto3 vnum3 vtext3 vkids3)∧(∀j,j<5→zQ w (p2.add j))∧∀w8,w8=storeRow w p2 (Af vfrom3 vto3 vnum3 vtext3 vkids3)→∃qfrom3 qto3 qnum3 qtext3 qkids3,Row w8 p2 (Af qfrom3 qto3 qnum3 qtext3 qkids3)∧K qfrom3 qto3 qnum3 qtext3 qkids3 0 w8)) (∃vfrom4 vto4 vnum4 vtext4 vkids4,Row w p3 (Af vfrom4 vto4 vnum4 vtext4 vkids4)∧(∀j,j<5→zQ w (p2.add j))∧∀w9,w9=storeRow w p2 (Af vfrom4 vto4 vnum4 vtext4 vkids4)→∃qfrom4 qto4 qnum4 qtext4 qkids4,Row w9 p2 (Af qfrom4 qto4 qnum4 qtext4 qkids4)∧K qfrom4 qto4 qnum4 qtext4 qkids4 0 w9))
def m_D_j4 (p1 p2 p3:Addr) (x2 x4:Bool) (w:World) (K:Bool→Bool→Bool→Bool→Int→Int→WP):Prop :=Br x2 (m_D_j3 p1 p2 p3 true w K) (m_D_j3 p1 p2 p3 x4 w K)
def m_D_j2 (p1 p2 p3:Addr) (x2:Bool) (w:World) (K:Bool→Bool→Bool→Bool→Int→Int→WP):Prop :=Br x2 (m_D_j3 p1 p2 p3 true w K) (∃v4,w.cell? (p3.add 2)=some (vb v4)∧Br (!v4) (∃v5,w.cell? (p1.add 3)=some (vu v5)∧m_D_j4 p1 p2 p3 x2 (v5 != 0) w K) (m_D_j4 p1 p2 p3 x2 false w K))
def m_D_j5 (p1 p2 p3:Addr) (x1 x5:Bool) (w:World) (K:Bool→Bool→Bool→Bool→Int→Int→WP):Prop :=Br x1 (m_D_j2 p1 p2 p3 true w K) (m_D_j2 p1 p2 p3 x5 w K)
def m_D_j1 (p1 p2 p3:Addr) (x1:Bool) (w:World) (K:Bool→Bool→Bool→Bool→Int→Int→WP):Prop :=Br x1 (m_D_j2 p1 p2 p3 true w K) (∃v6,w.cell? (p3.add 1)=some (vb v6)∧Br (!v6) (∃v7,w.cell? (p1.add 2)=some (vi v7)∧m_D_j5 p1 p2 p3 x1 (v7 != 0) w K) (m_D_j5 p1 p2 p3 x1 false w K))
def m_D_j6 (p1 p2:Addr) (r1:Bool) (p3:Addr) (x6:Bool) (w:World) (K:Bool→Bool→Bool→Bool→Int→Int→WP):Prop :=Br (!r1) (m_D_j1 p1 p2 p3 true w K) (m_D_j1 p1 p2 p3 x6 w K)
def m_D (aH aI:Int) (aJ aK:Int) (aL:ByteArray) (aM aN:Int) (w:World) (K:Bool→Bool→Bool→Bool→Int→Int→WP):Prop :=∀p1 w1,New w (.cells #[(vi aH),(vi aI),(vi aJ),(vu aK),(vs aL),(vi aM),(vi aN)] 86) p1 w1→∀p2 w2,New w1 (.cells #[(vb false),(vb false),(vb false),(vb false),(vi 0)] 149) p2 w2→∃v1,w2.cell? p1=some (vi v1)∧Calls prog 91 #[(vi v1)] w2 (fun e w3=>∃rfrom1 rto1 rnum1 rtext1 rkids1 r1,e=.returned (.tuple #[(Aj rfrom1 rto1 rnum1 rtext1 rkids1),(vb r1)])∧∀p3 w4,New w3 (.cells #[(vb false),(vb false),(vb false),(vb false),(vi 0)] 149) p3 w4→(∀j,j<5→zQ w4 (p3.add j))∧∀w5,w5=storeRow w4 p3 (Af rfrom1 rto1 rnum1 rtext1 rkids1)→Br (!r1) (m_D_j1 p1 p2 p3 true w5 K) (∃v8,w5.cell? p3=some (vb v8)∧Br (!v8) (∃v9,w5.cell? (p1.add 1)=some (vi v9)∧m_D_j6 p1 p2 r1 p3 (v9 != 0) w5 K) (m_D_j6 p1 p2 r1 p3 false w5 K)))
theorem w_D (aH aI aJ aK aL aM aN w K) (h:m_D aH aI aJ aK aL aM aN w K):
  Calls prog 104 #[(.agg #[(vi aH),(vi aI),(vi aJ),(vu aK),(vs aL),(vi aM),(vi aN)])] w (fun e w'=>∃rfrom2 rto2 rnum2 rtext2 rkids2 r2,e=.returned (.tuple #[(Aj rfrom2 rto2 rnum2 rtext2 rkids2),(vi r2)])∧K rfrom2 rto2 rnum2 rtext2 rkids2 r2 w'):=by
 refine cw (args:=[(Ab aH aI aJ aK aL aM aN)]) func104 ntmps104 (eg (sn (O:=(.cells #[(vi aH),(vi aI),(vi aJ),(vu aK),(vs aL),(vi aM),(vi aN)] 86)) xb ?_))
 intro p1 w1 hn8
 have h:=h p1 w1 hn8
 refine nw1 h (jT (zeroValue149 _) rfl) fun p2 w2 h=>q (ln (eg (q (ql (isAgg3 _) h fun v1 h=>sc call91 (h.mono fun e w3 ⟨rfrom1,rto1,rnum1,rtext1,rkids1,r1,k,h⟩=>⟨_,k,?_⟩)))))
 refine qc (nw1 h (jT (zeroValue149 _) rfl) fun p3 w4 h=>sro (sizeOf149 _) h fun w5 h=>q (ln (jA (eg (qc (jH 9 (fun ρ w=>∃x1,Has ρ [(1,(vp (some p1))),(2,(vp (some p2))),(4,(vp (some p3))),(23,(vb x1))]∧m_D_j1 p1 p2 p3 x1 w K) ?_ ?_))))))
 rintro ρ w ⟨x1,hH,h⟩
 refine jM hH (q (jH 9 (fun ρ w=>∃x2,Has ρ [(1,(vp (some p1))),(2,(vp (some p2))),(4,(vp (some p3))),(33,(vb x2))]∧m_D_j2 p1 p2 p3 x2 w K) ?_ ?_))
 rintro ρ w ⟨x2,hH,h⟩
 refine jM hH (q (jH 9 (fun ρ w=>∃x3,Has ρ [(1,(vp (some p1))),(2,(vp (some p2))),(4,(vp (some p3))),(43,(vb x3))]∧m_D_j3 p1 p2 p3 x3 w K) ?_ ?_))
 rintro ρ w ⟨x3,hH,h⟩
 refine jM hH (q ?_)
 obtain ⟨hg1,h⟩|⟨hg1,h⟩:=h.br
 refine sj4 44 hg1 (sm (sm (sm (sj 44 hg1 (q2 (vb true) (xT hg1) (ln (zS (by kernel_rfl) (eg ?_))))))))
 obtain ⟨vfrom1,vto1,vnum1,vtext1,vkids1,hv2,h⟩:=h
 refine qa (isAgg149 _) (sizeOf149 _) hv2 (sro (sizeOf149 _) h fun w6 h=>q (ln (er (jW ?_))))
 obtain ⟨qfrom1,qto1,qnum1,qtext1,qkids1,hv1,h⟩:=h
 refine gg2 results104 (rva (isAgg149 _) (sizeOf149 _) hv1) (rvU (vi 53)) ⟨qfrom1,qto1,qnum1,qtext1,qkids1,53,rfl,h⟩
 refine qk 44 hg1 ?_
 obtain ⟨v2,hv10,h⟩:=h
 refine q4 44 hg1 (xl (isAgg4 _) hv10) (qk 44 hg1 (qk 44 hg1 ?_))
 obtain ⟨hg2,h⟩|⟨hg2,h⟩:=h.br
 refine qk 48 hg2 ?_
 obtain ⟨v3,hv7,h⟩:=h
 refine q4 48 hg2 (xl (isAgg9 _) hv7) (stq (v:=(vb (!(decide (v3=⟨#[]⟩))))) (wy 48 hg2) (jDB (by kernel_rfl) (by kernel_rfl)) (stq (v:=(vb (!(decide (v3=⟨#[]⟩))))) (wy 44 hg1) (xT hg2) (q2 (vb (!(decide (v3=⟨#[]⟩)))) (xF hg1) (ln (cbr h ?_ ?_)))))<;>intro h
 refine eg ?_
 obtain ⟨vfrom2,vto2,vnum2,vtext2,vkids2,hv4,h⟩:=h
 refine qa (isAgg149 _) (sizeOf149 _) hv4 (sro (sizeOf149 _) h fun w7 h=>q (ln (er (jW ?_))))
 obtain ⟨qfrom2,qto2,qnum2,qtext2,qkids2,hv3,h⟩:=h
 refine gg2 results104 (rva (isAgg149 _) (sizeOf149 _) hv3) (rvU (vi 53)) ⟨qfrom2,qto2,qnum2,qtext2,qkids2,53,rfl,h⟩
 refine jC (jJ (eg ?_))
 obtain ⟨vfrom3,vto3,vnum3,vtext3,vkids3,hv6,h⟩:=h
 refine qa (isAgg149 _) (sizeOf149 _) hv6 (sro (sizeOf149 _) h fun w8 h=>q (ln (er ?_)))
 obtain ⟨qfrom3,qto3,qnum3,qtext3,qkids3,hv5,h⟩:=h
 refine gg2 results104 (rva (isAgg149 _) (sizeOf149 _) hv5) (rvU (vi 0)) ⟨qfrom3,qto3,qnum3,qtext3,qkids3,0,rfl,h⟩
 refine sj3 48 hg2 (stq (v:=(vb false)) (wy 44 hg1) (xF hg2) (q2 (vb false) (xF hg1) (ln (kX (by kernel_rfl) (jC (jJ (eg ?_)))))))
 obtain ⟨vfrom4,vto4,vnum4,vtext4,vkids4,hv9,h⟩:=h
 refine qa (isAgg149 _) (sizeOf149 _) hv9 (sro (sizeOf149 _) h fun w9 h=>q (ln (er ?_)))
 obtain ⟨qfrom4,qto4,qnum4,qtext4,qkids4,hv8,h⟩:=h
 refine gg2 results104 (rva (isAgg149 _) (sizeOf149 _) hv8) (rvU (vi 0)) ⟨qfrom4,qto4,qnum4,qtext4,qkids4,0,rfl,h⟩
 obtain ⟨hg3,h⟩|⟨hg3,h⟩:=h.br
 refine sj4 34 hg3 (sm (sm (sm (sj 34 hg3 (q2 (vb true) (xT hg3) (jB ⟨true,hm,h⟩))))))
 refine qk 34 hg3 ?_
 obtain ⟨v4,hv12,h⟩:=h
 refine q4 34 hg3 (xl (isAgg4 _) hv12) (qk 34 hg3 (qk 34 hg3 (jH 4 (fun ρ w=>∃x4,Has ρ [(1,(vp (some p1))),(2,(vp (some p2))),(4,(vp (some p3))),(34,(vb x2)),(42,(vb x4))]∧m_D_j4 p1 p2 p3 x2 x4 w K) ?_ ?_)))
 rintro ρ w ⟨x4,hH,h⟩
 refine jM hH ?_
 obtain ⟨hg4,h⟩|⟨hg4,h⟩:=h.br
 refine q2 (vb true) (xT hg4) (jB ⟨true,hm,h⟩)
 refine q2 (vb x4) (xF hg4) (jB ⟨x4,hm,h⟩)
 obtain ⟨hg5,h⟩|⟨hg5,h⟩:=h.br
 refine qk 38 hg5 ?_
 obtain ⟨v5,hv11,h⟩:=h
 refine q4 38 hg5 (xl (isAgg47 _) hv11) (qk 38 hg5 (stq (v:=(vb (v5 != 0))) (wy 34 hg3) (xT hg5) (jB ⟨(v5 != 0),hm,h⟩)))
 refine sj3 38 hg5 (stq (v:=(vb false)) (wy 34 hg3) (xF hg5) (jB ⟨false,hm,h⟩))
 obtain ⟨hg6,h⟩|⟨hg6,h⟩:=h.br
 refine sj4 24 hg6 (sm (sm (sm (sj 24 hg6 (q2 (vb true) (xT hg6) (jB ⟨true,hm,h⟩))))))
 refine qk 24 hg6 ?_
 obtain ⟨v6,hv14,h⟩:=h
 refine q4 24 hg6 (xl (isAgg4 _) hv14) (qk 24 hg6 (qk 24 hg6 (jH 4 (fun ρ w=>∃x5,Has ρ [(1,(vp (some p1))),(2,(vp (some p2))),(4,(vp (some p3))),(24,(vb x1)),(32,(vb x5))]∧m_D_j5 p1 p2 p3 x1 x5 w K) ?_ ?_)))
 rintro ρ w ⟨x5,hH,h⟩
 refine jM hH ?_
 obtain ⟨hg7,h⟩|⟨hg7,h⟩:=h.br
 refine q2 (vb true) (xT hg7) (jB ⟨true,hm,h⟩)
 refine q2 (vb x5) (xF hg7) (jB ⟨x5,hm,h⟩)
 obtain ⟨hg8,h⟩|⟨hg8,h⟩:=h.br
 refine qk 28 hg8 ?_
 obtain ⟨v7,hv13,h⟩:=h
 refine q4 28 hg8 (xl (isAgg3 _) hv13) (qk 28 hg8 (stq (v:=(vb (v7 != 0))) (wy 24 hg6) (xT hg8) (jB ⟨(v7 != 0),hm,h⟩)))
 refine sj3 28 hg8 (stq (v:=(vb false)) (wy 24 hg6) (xF hg8) (jB ⟨false,hm,h⟩))
 obtain ⟨hg9,h⟩|⟨hg9,h⟩:=h.br
 refine sj4 14 hg9 (sm (sm (sm (sj 14 hg9 (q2 (vb true) (xT hg9) (jB ⟨true,hm,h⟩))))))
 refine qk 14 hg9 ?_
 obtain ⟨v8,hv16,h⟩:=h
 refine q4 14 hg9 (xl (isAgg4 _) hv16) (qk 14 hg9 (qk 14 hg9 (jH 4 (fun ρ w=>∃x6,Has ρ [(1,(vp (some p1))),(2,(vp (some p2))),(4,(vp (some p3))),(14,(vb (!r1))),(22,(vb x6))]∧m_D_j6 p1 p2 r1 p3 x6 w K) ?_ ?_)))
 rintro ρ w ⟨x6,hH,h⟩
 refine jM hH ?_
 obtain ⟨hg10,h⟩|⟨hg10,h⟩:=h.br
 refine q2 (vb true) (xT hg10) (jB ⟨true,hm,h⟩)
 refine q2 (vb x6) (xF hg10) (jB ⟨x6,hm,h⟩)
 obtain ⟨hg11,h⟩|⟨hg11,h⟩:=h.br
 refine qk 18 hg11 ?_
 obtain ⟨v9,hv15,h⟩:=h
 refine q4 18 hg11 (xl (isAgg3 _) hv15) (qk 18 hg11 (stq (v:=(vb (v9 != 0))) (wy 14 hg9) (xT hg11) (jB ⟨(v9 != 0),hm,h⟩)))
 refine sj3 18 hg11 (stq (v:=(vb false)) (wy 14 hg9) (xF hg11) (jB ⟨false,hm,h⟩))
def m_R_j1 (p1 p2:Addr) (x1:Bool) (w:World) (K:Int→WP):Prop :=Br x1 (K 50 w) (∃v1,w.cell? (p1.add 1)=some (vb v1)∧Br v1 (∃v2,w.cell? (p2.add 2)=some (vi v2)∧Calls prog 145 #[(vi v2)] w (fun e w3=>∃r1,e=.returned (vb r1)∧Br (!r1) (K 50 w3) (∃v3,w3.cell? (p2.add 2)=some (vi v3)∧∃v4,w3.cell? (p2.add 1)=some (vi v4)∧Br (v3 == v4) (K 50 w3) (∃v5,w3.cell? (p2.add 4)=some (vs v5)∧Br (decide ((v5.size:Int)>64)) (K 1 w3) (K 0 w3))))) (∃v6,w.cell? (p2.add 4)=some (vs v6)∧Br (decide ((v6.size:Int)>64)) (K 1 w) (K 0 w)))
def m_R (sfrom1 sto1:Bool) (snum1 stext1:Bool) (skids1 aH:Int) (aI aJ aK:Int) (aL:ByteArray) (aM aN:Int) (w:World) (K:Int→WP):Prop :=∀p1 w1,New w (.cells #[(vb sfrom1),(vb sto1),(vb snum1),(vb stext1),(vi skids1)] 149) p1 w1→∀p2 w2,New w1 (.cells #[(vi aH),(vi aI),(vi aJ),(vu aK),(vs aL),(vi aM),(vi aN)] 86) p2 w2→∃v7,w2.cell? p1=some (vb v7)∧Br v7 (∃v8,w2.cell? (p2.add 1)=some (vi v8)∧Calls prog 145 #[(vi v8)] w2 (fun e w4=>∃r2,e=.returned (vb r2)∧m_R_j1 p1 p2 (!r2) w4 K)) (m_R_j1 p1 p2 false w2 K)
theorem w_R (sfrom1 sto1 snum1 stext1 skids1 aH aI aJ aK aL aM aN w K) (h:m_R sfrom1 sto1 snum1 stext1 skids1 aH aI aJ aK aL aM aN w K):
  Calls prog 105 #[(.agg #[(vb sfrom1),(vb sto1),(vb snum1),(vb stext1),(vi skids1)]),(.agg #[(vi aH),(vi aI),(vi aJ),(vu aK),(vs aL),(vi aM),(vi aN)])] w (fun e w'=>∃r3,e=.returned (vi r3)∧K r3 w'):=by
 refine cw (args:=[(Aj sfrom1 sto1 snum1 stext1 skids1),(Ab aH aI aJ aK aL aM aN)]) func105 ntmps105 (eg (sn (O:=(.cells #[(vb sfrom1),(vb sto1),(vb snum1),(vb stext1),(vi skids1)] 149)) xb ?_))
 intro p1 w1 hn2
 have h:=h p1 w1 hn2
 refine nw1 h xb fun p2 w2 h=>q (ln (jA (jF (jA (vY (fun ρ w=>∃x1,Has ρ [(2,(vp (some p1))),(3,(vp (some p2))),(5,(vb x1))]∧m_R_j1 p1 p2 x1 w K) ?_ ?_)))))
 rintro ρ w ⟨x1,hH,h⟩
 refine jO hH (cbr' h (fun hc1 h=>?_) (fun hc1 h=>?_))
 refine jC (jJ (jAG (t:=x1) (by kernel_rfl) hc1 (eg (q0 (vi 50) (ln (er (kG (jW (rs1 results105 ⟨50,rfl,h⟩)))))))))
 refine rg (q (ql (isAgg4 _) h fun v1 h=>q ?_))
 obtain ⟨hg1,h⟩|⟨hg1,h⟩:=h.br
 refine qk 16 hg1 ?_
 obtain ⟨v2,hv4,h⟩:=h
 refine q4 16 hg1 (xl (isAgg3 _) hv4) (jV (wy 16 hg1) (xc call145) (h.mono ?_))
 rintro e w3 ⟨r1,rfl,h⟩
 refine ⟨_,rfl,?_⟩
 refine qk 16 hg1 (qk 16 hg1 ?_)
 obtain ⟨hg2,h⟩|⟨hg2,h⟩:=h.br
 refine sj5 21 hg2 (stq (v:=(vb true)) (wy 16 hg1) (xT hg2) (q2 (vb true) (xT hg1) (q (ln (zS (by kernel_rfl) (jA (rg (q (ln (er (kG (jW (rs1 results105 ⟨50,rfl,h⟩)))))))))))))
 refine qk 21 hg2 ?_
 obtain ⟨v3,hv3,h⟩:=h
 refine q4 21 hg2 (xl (isAgg3 _) hv3) (qk 21 hg2 ?_)
 obtain ⟨v4,hv2,h⟩:=h
 refine q4 21 hg2 (xl (isAgg3 _) hv2) (qk 21 hg2 (stq (v:=(vb (v3 == v4))) (wy 16 hg1) (xF hg2) (q2 (vb (v3 == v4)) (xT hg1) (q (ln (cbr h ?_ ?_))))))<;>intro h
 refine eg (q (ln (er (kG (jW (rs1 results105 ⟨50,rfl,h⟩))))))
 refine eg (q (ql (isAgg9 _) h fun v5 h=>qc (ln (cbr h ?_ ?_))))<;>intro h
 refine eg (q (ln (er (kG (jW (rs1 results105 ⟨1,rfl,h⟩))))))
 refine jC (kD (jJ (eg (q (ln (er (rs1 results105 ⟨0,rfl,h⟩)))))))
 refine sj5 16 hg1 (sm (sm (sm (sm (sm (sj 16 hg1 (q2 (vb false) (xF hg1) (q (ln (kX (by kernel_rfl) (eg (q0 (vp (some (p2.add 4))) (ql (isAgg9 _) h fun v6 h=>qc (ln (cbr h ?_ ?_)))))))))))))))<;>intro h
 refine eg (q (ln (er (kG (jW (rs1 results105 ⟨1,rfl,h⟩))))))
 refine jC (kD (jJ (eg (q (ln (er (rs1 results105 ⟨0,rfl,h⟩)))))))
 refine rg (q (ql (isAgg4 _) h fun v7 h=>q ?_))
 obtain ⟨hg3,h⟩|⟨hg3,h⟩:=h.br
 refine qk 8 hg3 ?_
 obtain ⟨v8,hv7,h⟩:=h
 refine q4 8 hg3 (xl (isAgg3 _) hv7) (jV (wy 8 hg3) (xc call145) (h.mono ?_))
 rintro e w4 ⟨r2,rfl,h⟩
 refine ⟨_,rfl,?_⟩
 refine qk 8 hg3 (q2 (vb (!r2)) (xT hg3) (q (ln ⟨(!r2),hm,h⟩)))
 refine sj4 8 hg3 (q2 (vb false) (xF hg3) (q (ln ⟨false,hm,h⟩)))
def m_M2 (p1:Option Addr) (aH aI:Int) (aJ aK:Int) (aL:ByteArray) (aM aN:Int) (w:World) (K:Int→Bool→WP):Prop :=∀p2 w1,New w (.cells #[(vi aH),(vi aI),(vi aJ),(vu aK),(vs aL),(vi aM),(vi aN)] 86) p2 w1→Br (Option.isNone p1) (K 0 false w1) (∀w2,w2=w1.drew→∃a1,p1=some a1∧∃v1:Option Nat,w2.cell? (a1.add 1)=some (.map v1)∧∃aA aB aC aD aE aF aG,Row w2 p2 (Aa aA aB aC aD aE aF aG)∧∃v2 ok1,(Instr.lookup 92 (.map v1) (.agg #[(vi aA),(vi aB),(vi aC),(vu aD),(vs aE),(vi aF),(vi aG)]) true).run prog w2=.ok (.tuple #[(vi v2),(vb ok1)]) w2∧K v2 ok1 w2)
theorem w_M2 (p1 aH aI aJ aK aL aM aN w K) (h:m_M2 p1 aH aI aJ aK aL aM aN w K):
  Calls prog 129 #[(vp p1),(.agg #[(vi aH),(vi aI),(vi aJ),(vu aK),(vs aL),(vi aM),(vi aN)])] w (fun e w'=>∃r1 r2,e=.returned (.tuple #[(vi r1),(vb r2)])∧K r1 r2 w'):=by
 refine cw (args:=[(vp p1),(Ab aH aI aJ aK aL aM aN)]) func129 ntmps129 (eg (sn (O:=(.cells #[(vi aH),(vi aI),(vi aJ),(vu aK),(vs aL),(vi aM),(vi aN)] 86)) xb ?_))
 intro p2 w1 hn1
 have h:=h p2 w1 hn1
 refine qb (ln (jA (eg (q (q2 (vb (Option.isNone p1)) (kC (by kernel_rfl) rfl underlying26) (ln (cbr h ?_ ?_)))))))<;>intro h
 refine eg (qb (ln (er (jW (vD (.inl rfl) results129 (v:=(vi 0)) (by kernel_rfl) (v':=(vb false)) (by kernel_rfl) ⟨0,false,rfl,h⟩)))))
 refine jC (jJ (jA (kH (by kernel_rfl) (by kernel_rfl) (by kernel_rfl) (by kernel_rfl) ?_)))
 intro w2 hw2
 have h:=h w2 hw2
 refine qq 0 (vp p1) Kp0 (qg 1 ?_)
 obtain ⟨a1,hp1,h⟩:=h
 refine sxQ Kp1 (jP rfl) rfl (xn hp1) (qq 2 (vp (some (a1.add 1))) Kp2 (qg 3 ?_))
 obtain ⟨v1,hv3,h⟩:=h
 refine sxQ Kp3 (jP rfl) rfl (xl (isAgg92 _) hv3) (qg 4 ?_)
 obtain ⟨aA,aB,aC,aD,aE,aF,aG,hv2,h⟩:=h
 refine sxQ (v:=(Ab aA aB aC aD aE aF aG)) Kp4 (jP rfl) rfl (xa p2 (Aa aA aB aC aD aE aF aG) (isAgg86 _) (sizeOf86 _) hv2) (qg 5 ?_)
 obtain ⟨v2,ok1,hv1,h⟩:=h
 refine sxQ (v:=(.tuple #[(vi v2),(vb ok1)])) Kp5 (jP rfl) rfl (kQ (by kernel_rfl) (by kernel_rfl) hv1) (qq 6 (.tuple #[(vi v2),(vb ok1)]) Kp6 (qq 7 (vi v2) Kp7 (qq 8 (vb ok1) Kp8 (qq 9 (vi v2) Kp9 (qq 10 (vb ok1) (jL (S8 (jE (jE jK)))) (wn (jJ (eg (qb (qb (ln (er (vD (.inl rfl) results129 (v:=(vi v2)) (by kernel_rfl) (v':=(vb ok1)) (by kernel_rfl) ⟨v2,ok1,rfl,h⟩)))))))))))))
def m_N2  (w:World) (K:(Array Value)→WP):Prop :=∀p1 w1,New w (.cells #[(vb false),(vb false),(vb false),(vb false),(vi 0),(vb false),(vb false),(vb false),(vb false),(vi 0),(vb false),(vb false),(vb false),(vb false),(vi 0),(vb false),(vb false),(vb false),(vb false),(vi 0),(vb false),(vb false),(vb false),(vb false),(vi 0),(vb false),(vb false),(vb false),(vb false),(vi 0),(vb false),(vb false),(vb false),(vb false),(vi 0),(vb false),(vb false),(vb false),(vb false),(vi 0),(vb false),(vb false),(vb false),(vb false),(vi 0),(vb false),(vb false),(vb false),(vb false),(vi 0)] 196) p1 w1→(∀j,j<50→zQ w1 (p1.add j))∧∀w2,w2=storeRow w1 p1 (Ah false false false false 0 true false false false 0 false false true false 0 false false false true 0 false false false false 2 false false false false 1 true false false false 0 true false false false 1 true true false false 1 true true false false 1)→∃q1:Array Value,(q1.size=50∧Row w2 p1 q1.toList)∧K q1 w2
theorem w_N2  (w:World) (K:(Array Value)→WP) (h:m_N2  w K) :
  Calls prog 137 #[] w (fun e w'=>∃r1:Array Value,e=.returned (.agg r1)∧K r1 w'):=by
 refine cw (args:=[]) func137 ntmps137 (eg (sn (O:=(.cells #[(vb false),(vb false),(vb false),(vb false),(vi 0),(vb false),(vb false),(vb false),(vb false),(vi 0),(vb false),(vb false),(vb false),(vb false),(vi 0),(vb false),(vb false),(vb false),(vb false),(vi 0),(vb false),(vb false),(vb false),(vb false),(vi 0),(vb false),(vb false),(vb false),(vb false),(vi 0),(vb false),(vb false),(vb false),(vb false),(vi 0),(vb false),(vb false),(vb false),(vb false),(vi 0),(vb false),(vb false),(vb false),(vb false),(vi 0),(vb false),(vb false),(vb false),(vb false),(vi 0)] 196)) (jT (zeroValue196 _) rfl) ?_))
 intro p1 w1 hn2
 have h:=h p1 w1 hn2
 refine ln (eg (qd (qd (qb (sro (sizeOf196 _) h fun w2 h=>ln (er ?_))))))
 obtain ⟨q1,hv1,h⟩:=h
 refine gg1 results137 (RV.cellAr (A:=p1) (vs:=q1) (by kernel_rfl) (isAgg196 _) (sizeOf196 _) hv1) ⟨q1,rfl,h⟩
def m_O2 (p1:Option Addr) (t1:Int) (w:World) (K:Int→WP):Prop :=Calls prog 80 #[(vp p1),(vi t1)] w (fun e w1=>∃r1,e=.returned (vb r1)∧Br (!r1) (K 0 w1) (∃a1,p1=some a1∧∃v1:Sl,w1.cell? a1=some v1.v∧∃a2:Addr,At v1 (q6.wrap (t1 - 1)) 9 a2∧∃v2,w1.cell? (a2.add 7)=some (vi v2)∧K v2 w1))
theorem w_O2 (p1 t1 w K) (h:m_O2 p1 t1 w K):
  Calls prog 143 #[(vp p1),(vi t1)] w (fun e w'=>∃r2,e=.returned (vi r2)∧K r2 w'):=by
 refine cw (args:=[(vp p1),(vi t1)]) func143 ntmps143 (eg (q0 (vi 0) (ln (jA (eg (q0 (vp p1) (q0 (vi t1) ?_)))))))
 refine sc call80 (h.mono fun e w1 ⟨r1,k,h⟩=>⟨_,k,?_⟩)
 refine q (ln (cbr h ?_ ?_))<;>intro h
 refine eg (q (ln (er (jW (rs1 results143 ⟨0,rfl,h⟩)))))
 refine jC (jJ (eg (q (qm h fun a1 h=>q (ql (isAgg91 _) h fun v1 h=>qb (qi (runUnderlying91 _) (sizeOf147 _) h fun a2 h=>q (ql (isAgg3 _) h fun v2 h=>q (ln (er (rs1 results143 ⟨v2,rfl,h⟩))))))))))
def m_P2 (p1:Option Addr) (t1:Int) (w:World) (K:Int→WP):Prop :=Calls prog 80 #[(vp p1),(vi t1)] w (fun e w1=>∃r1,e=.returned (vb r1)∧Br (!r1) (K 0 w1) (∃a1,p1=some a1∧∃v1:Sl,w1.cell? a1=some v1.v∧∃a2:Addr,At v1 (q6.wrap (t1 - 1)) 9 a2∧∃v2,w1.cell? (a2.add 8)=some (vi v2)∧K v2 w1))
theorem w_P2 (p1 t1 w K) (h:m_P2 p1 t1 w K):
  Calls prog 144 #[(vp p1),(vi t1)] w (fun e w'=>∃r2,e=.returned (vi r2)∧K r2 w'):=by
 refine cw (args:=[(vp p1),(vi t1)]) func144 ntmps144 (eg (q0 (vi 0) (ln (jA (eg (q0 (vp p1) (q0 (vi t1) ?_)))))))
 refine sc call80 (h.mono fun e w1 ⟨r1,k,h⟩=>⟨_,k,?_⟩)
 refine q (ln (cbr h ?_ ?_))<;>intro h
 refine eg (q (ln (er (jW (rs1 results144 ⟨0,rfl,h⟩)))))
 refine jC (jJ (eg (q (qm h fun a1 h=>q (ql (isAgg91 _) h fun v1 h=>qb (qi (runUnderlying91 _) (sizeOf147 _) h fun a2 h=>q (ql (isAgg3 _) h fun v2 h=>q (ln (er (rs1 results144 ⟨v2,rfl,h⟩))))))))))
def m_Q2 (n1:Int) (w:World) (K:Bool→WP):Prop :=Br (decide (n1≥0)) (K (decide (n1<16)) w) (K false w)
theorem w_Q2 (n1 w K) (h:m_Q2 n1 w K):
  Calls prog 145 #[(vi n1)] w (fun e w'=>∃r1,e=.returned (vb r1)∧K r1 w'):=by
 refine cw (args:=[(vi n1)]) func145 ntmps145 (eg (q0 (vb false) (ln (eg (q0 (vi n1) (q0 (vb (decide (n1≥0))) (q0 (vb (decide (n1≥0))) ?_)))))))
 obtain ⟨hg1,h⟩|⟨hg1,h⟩:=h.br
 refine qk 5 hg1 (qk 5 hg1 (q2 (vb (decide (n1<16))) (xT hg1) (q (ln (er (rs1 results145 ⟨(decide (n1<16)),rfl,h⟩))))))
 refine sj2 5 hg1 (q2 (vb false) (xF hg1) (q (ln (er (rs1 results145 ⟨false,rfl,h⟩)))))
end Go.Proofs
end
section
namespace Go.Sp
structure Node where
 kind:Int
 frm:Int
 to:Int
 num:Int
 text:ByteArray
 a:Int
 b:Int
deriving DecidableEq
structure Shape where
 frm:Bool
 to:Bool
 num:Bool
 text:Bool
 kids:Int
deriving DecidableEq
def noShape:Shape:=⟨false,false,false,false,0⟩
def shapeOf (k:Int):Shape :=
 if k=1 then ⟨true,false,false,false,0⟩ else if k=2 then ⟨false,false,true,false,0⟩ else if k=3 then ⟨false,false,false,true,0⟩
 else if k=4 then ⟨false,false,false,false,2⟩ else if k=5 then ⟨false,false,false,false,1⟩ else if k=6 then ⟨true,false,false,false,0⟩
 else if k=7 then ⟨true,false,false,false,1⟩ else if k=8 then ⟨true,true,false,false,1⟩ else if k=9 then ⟨true,true,false,false,1⟩ else noShape
def isKind (k:Int):Bool:=decide (1≤k) && decide (k≤9)
def yU (n:Int):Bool:=decide (0≤n) && decide (n<16)
def jX (n:Node):Int :=
 let s:=shapeOf n.kind
 if !isKind n.kind || (!s.frm && n.frm != 0) || (!s.to && n.to != 0) || (!s.num && n.num != 0) || (!s.text && !decide (n.text=⟨#[]⟩)) then 53 else 0
def jU (s:Shape) (n:Node):Int :=
 if (s.frm && !yU n.frm) || (s.to && (!yU n.to || n.to == n.frm)) then 50 else if n.text.size>64 then 1 else 0
end Go.Sp
end
section
open Go Go.SE
namespace Go.Proofs
open Tryz
attribute [local irreducible] Calls
theorem jAC (n:Int) (w:World):Calls prog 145 #[.int .i64 n] w (fun e w'=>∃r,e=.returned (.bool r)∧(r=Sp.yU n∧w'=w)):=by
 refine w_Q2 n w (fun r w'=>r=Sp.yU n∧w'=w) ?_;unfold m_Q2;refine ⟨fun h=>⟨?_,rfl⟩,fun h=>⟨?_,rfl⟩⟩
 ·have:0≤n:=by simpa using h
  simp [Sp.yU,this]
 ·have:¬ 0≤n:=by simpa using h
  simp [Sp.yU,this]
theorem jAD (s1 s2 s3 s4:Bool) (s5 k f t u:Int) (x:ByteArray) (a b:Int) (w:World) :
  Calls prog 105 #[.agg #[.bool s1,.bool s2,.bool s3,.bool s4,.int .i64 s5],.agg #[.int .i64 k,.int .i64 f,.int .i64 t,.int .u64 u,.string x,.int .i64 a,.int .i64 b]] w
   (fun e w'=>∃r,e=.returned (.int .i64 r)∧(r=Sp.jU ⟨s1,s2,s3,s4,s5⟩ ⟨k,f,t,u,x,a,b⟩∧Pure w w')):=by
 refine w_R _ _ _ _ _ _ _ _ _ _ _ _ w (fun r w'=>r=Sp.jU ⟨s1,s2,s3,s4,s5⟩ ⟨k,f,t,u,x,a,b⟩∧Pure w w') ?_
 unfold m_R
 intro p1 w1 h1 p2 w2 h2
 have b1:=(Box.of_new h1).pure (Ext.new h2)
 have b2:=Box.of_new h2
 have E:Pure w w2:=(Ext.new h1).trans (Ext.new h2)
 have J:∀c:Bool,c=(s1 && !Sp.yU f)→m_R_j1 p1 p2 c w2 (fun r w'=>r=Sp.jU ⟨s1,s2,s3,s4,s5⟩ ⟨k,f,t,u,x,a,b⟩∧Pure w w'):=by
  intro c hc;unfold m_R_j1;refine ⟨fun h=>⟨?_,E⟩,fun h=>⟨_,b1.cell rfl,fun h'=>⟨_,b2.cell rfl,?_⟩,fun h'=>⟨_,b2.cell rfl,fun h3=>⟨?_,E⟩,fun h3=>⟨?_,E⟩⟩⟩⟩
  ·rw [hc] at h;simp [Sp.jU,h]
  ·refine (jAC _ _).mono ?_;rintro _ _ ⟨r,rfl,rfl,rfl⟩;rw [hc] at h;refine ⟨_,rfl,fun h2=>⟨?_,E⟩,fun h2=>⟨_,b2.cell rfl,_,b2.cell rfl,fun h3=>⟨?_,E⟩,fun h3=>⟨_,b2.cell rfl,fun h4=>⟨?_,E⟩,fun h4=>⟨?_,E⟩⟩⟩⟩
   ·simp [Sp.jU,h',h2]
   ·simp [Sp.jU,h',h3]
   ·simp only [Sp.jU,h,h',h3];simp at h2 h4;simp [h2];omega
   ·simp only [Sp.jU,h,h',h3];simp at h2 h4;simp [h2];omega
  ·rw [hc] at h;simp only [Sp.jU,h,h'];simp at h3;simp;omega
  ·rw [hc] at h;simp only [Sp.jU,h,h'];simp at h3;simp;omega
 refine ⟨_,b1.cell0,fun h=>⟨_,b2.cell rfl,?_⟩,fun h=>J _ (by simp [h])⟩
 refine (jAC _ _).mono ?_
 rintro _ _ ⟨r,rfl,rfl,rfl⟩
 exact ⟨_,rfl,J _ (by simp [h])⟩
def oW:Array Value:=#[.bool false,.bool false,.bool false,.bool false,.int .i64 0,.bool true,.bool false,.bool false,.bool false,.int .i64 0,.bool false,.bool false,.bool true,.bool false,.int .i64 0,.bool false,.bool false,.bool false,.bool true,.int .i64 0,.bool false,.bool false,.bool false,.bool false,.int .i64 2,.bool false,.bool false,.bool false,.bool false,.int .i64 1,.bool true,.bool false,.bool false,.bool false,.int .i64 0,.bool true,.bool false,.bool false,.bool false,.int .i64 1,.bool true,.bool true,.bool false,.bool false,.int .i64 1,.bool true,.bool true,.bool false,.bool false,.int .i64 1]
theorem jDX (w:World):Calls prog 137 #[] w (fun e w'=>∃r,e=.returned (.agg r)∧(r=oW∧Pure w w')):=by
 refine w_N2 w (fun r w'=>r=oW∧Pure w w') ?_;unfold m_N2;intro p1 w1 h1;have E1:Pure w w1:=Ext.new h1;have hp:=New.own (Ext.refl w) h1;have b1:=Box.of_newA h1;clear h1;refine bx 50 b1 (by kernel_rfl) (by kernel_rfl) (fun w' b E=>?_);refine ⟨oW,⟨by kernel_rfl,b.row_eq (by kernel_rfl)⟩,rfl,E1.own hp E⟩
theorem jCQ (k:Int) (w:World):Calls prog 91 #[.int .i64 k] w (fun e w'=>∃r1:Bool,∃r2:Bool,∃r3:Bool,∃r4:Bool,∃r5:Int,∃r:Bool,e=.returned (.tuple #[.agg #[.bool r1,.bool r2,.bool r3,.bool r4,.int .i64 r5],.bool r])∧(((⟨r1,r2,r3,r4,r5⟩:Sp.Shape)=Sp.shapeOf k∧r=Sp.isKind k)∧Pure w w')):=by
 refine w_K2 k w (fun r1 r2 r3 r4 r5 r w'=>((⟨r1,r2,r3,r4,r5⟩:Sp.Shape)=Sp.shapeOf k∧r=Sp.isKind k)∧Pure w w') ?_;unfold m_K2;intro p1 w1 h1;have E1:Pure w w1:=Ext.new h1;have b1:=Box.of_new h1;have hp:=New.own (Ext.refl w) h1;refine ⟨fun h=>bx 5 b1 rfl rfl (fun w' b E=>⟨_,_,_,_,_,b.row,⟨?_,?_⟩,E1.own hp E⟩),fun h=>⟨fun h2=>bx 5 b1 rfl rfl (fun w' b E=>⟨_,_,_,_,_,b.row,⟨?_,?_⟩,E1.own hp E⟩),fun h2=>?_⟩⟩
 ·have:k<1:=by simpa using h
  simp only [Sp.shapeOf,Sp.noShape];repeat rw [if_neg (by omega)]
 ·have:k<1:=by simpa using h
  simp [Sp.isKind];omega
 ·have:9<k:=by simpa using h2
  simp only [Sp.shapeOf,Sp.noShape];repeat rw [if_neg (by omega)]
 ·have:9<k:=by simpa using h2
  simp [Sp.isKind];omega
 ·have h3:¬ k<1:=by simpa using h
  have h4:¬ 9<k:=by simpa using h2
  refine (jDX _).mono ?_;rintro _ w4 ⟨_,rfl,rfl,E4⟩;refine ⟨_,rfl,?_⟩;have b4:=b1.pure E4;have E5:Pure w w4:=E1.trans E4;have hk:k=1∨k=2∨k=3∨k=4∨k=5∨k=6∨k=7∨k=8∨k=9:=by omega
  rcases hk with rfl | rfl | rfl | rfl | rfl | rfl | rfl | rfl | rfl
  ·exact ⟨true,false,false,false,0,by kernel_rfl,bx 5 b4 rfl rfl (fun w' b E=>⟨_,_,_,_,_,b.row,⟨by decide,by decide⟩,E5.own hp E⟩)⟩
  ·exact ⟨false,false,true,false,0,by kernel_rfl,bx 5 b4 rfl rfl (fun w' b E=>⟨_,_,_,_,_,b.row,⟨by decide,by decide⟩,E5.own hp E⟩)⟩
  ·exact ⟨false,false,false,true,0,by kernel_rfl,bx 5 b4 rfl rfl (fun w' b E=>⟨_,_,_,_,_,b.row,⟨by decide,by decide⟩,E5.own hp E⟩)⟩
  ·exact ⟨false,false,false,false,2,by kernel_rfl,bx 5 b4 rfl rfl (fun w' b E=>⟨_,_,_,_,_,b.row,⟨by decide,by decide⟩,E5.own hp E⟩)⟩
  ·exact ⟨false,false,false,false,1,by kernel_rfl,bx 5 b4 rfl rfl (fun w' b E=>⟨_,_,_,_,_,b.row,⟨by decide,by decide⟩,E5.own hp E⟩)⟩
  ·exact ⟨true,false,false,false,0,by kernel_rfl,bx 5 b4 rfl rfl (fun w' b E=>⟨_,_,_,_,_,b.row,⟨by decide,by decide⟩,E5.own hp E⟩)⟩
  ·exact ⟨true,false,false,false,1,by kernel_rfl,bx 5 b4 rfl rfl (fun w' b E=>⟨_,_,_,_,_,b.row,⟨by decide,by decide⟩,E5.own hp E⟩)⟩
  ·exact ⟨true,true,false,false,1,by kernel_rfl,bx 5 b4 rfl rfl (fun w' b E=>⟨_,_,_,_,_,b.row,⟨by decide,by decide⟩,E5.own hp E⟩)⟩
  ·exact ⟨true,true,false,false,1,by kernel_rfl,bx 5 b4 rfl rfl (fun w' b E=>⟨_,_,_,_,_,b.row,⟨by decide,by decide⟩,E5.own hp E⟩)⟩
theorem jCS (k f t u:Int) (x:ByteArray) (a b:Int) (w:World) :
  Calls prog 104 #[.agg #[.int .i64 k,.int .i64 f,.int .i64 t,.int .u64 u,.string x,.int .i64 a,.int .i64 b]] w
   (fun e w'=>∃r1:Bool,∃r2:Bool,∃r3:Bool,∃r4:Bool,∃r5:Int,∃r:Int,e=.returned (.tuple #[.agg #[.bool r1,.bool r2,.bool r3,.bool r4,.int .i64 r5],.int .i64 r])∧(((⟨r1,r2,r3,r4,r5⟩:Sp.Shape)=Sp.shapeOf k∧r=Sp.jX ⟨k,f,t,u,x,a,b⟩)∧Pure w w')):=by
 suffices key:∀K:Bool→Bool→Bool→Bool→Int→Int→WP,(∀r1 r2 r3 r4 r5 r w',((⟨r1,r2,r3,r4,r5⟩:Sp.Shape)=Sp.shapeOf k∧r=Sp.jX ⟨k,f,t,u,x,a,b⟩)∧Pure w w'→K r1 r2 r3 r4 r5 r w')→m_D k f t u x a b w K from
  w_D _ _ _ _ _ _ _ w _ (key _ (fun _ _ _ _ _ _ _ h=>h))
 intro K hK
 unfold m_D
 intro p1 w1 h1 p2 w2 h2
 have a1:=(Box.of_new h1).pure (Ext.new h2)
 have a2:=Box.of_new h2
 have E2:Pure w w2:=(Ext.new h1).trans (Ext.new h2)
 have o2:=New.own (Ext.new h1:Pure w w1) h2
 have n12:p1.block≠p2.block:=New.ne h2 (Box.of_new h1).blk
 refine ⟨_,a1.cell0,?_⟩
 refine (jCQ _ _).mono ?_
 rintro _ w3 ⟨s1,s2,s3,s4,s5,ok,rfl,⟨hs,hok⟩,E3⟩
 refine ⟨_,_,_,_,_,_,rfl,?_⟩
 intro p3 w4 h3
 have E4:Pure w w4:=(E2.trans E3).trans (Ext.new h3)
 have o3:=New.own (E2.trans E3) h3
 have n13:p1.block≠p3.block:=New.ne h3 (a1.pure E3).blk
 have n23:p2.block≠p3.block:=New.ne h3 (a2.pure E3).blk
 refine bx 5 (Box.of_new h3) rfl rfl (fun w5 b3 E=>?_)
 have b1:=((a1.pure E3).pure (Ext.new h3)).ext E n13
 have b2:=((a2.pure E3).pure (Ext.new h3)).ext E n23
 have E5:=E4.own o3 E
 clear E E4 E3 E2 a1 a2 h1 h2 h3
 have fin : ∀ v : Int, v = Sp.jX ⟨k, f, t, u, x, a, b⟩ → (∀ j, j < 5 → zQ w5 (p2.add j)) ∧ ∀ w', w' = storeRow w5 p2 [.bool s1, .bool s2, .bool s3, .bool s4, .int .i64 s5] →
   ∃q1:Bool,∃q2:Bool,∃q3:Bool,∃q4:Bool,∃q5:Int,Row w' p2 [.bool q1,.bool q2,.bool q3,.bool q4,.int .i64 q5]∧K q1 q2 q3 q4 q5 v w':=fun v hv =>
  bx 5 b2 rfl rfl (fun w' b E=>⟨_,_,_,_,_,b.row,hK _ _ _ _ _ _ _ ⟨⟨hs,hv⟩,E5.own o2 E⟩⟩)
 obtain ⟨e1,e2,e3,e4,e5⟩:s1=(Sp.shapeOf k).frm∧s2=(Sp.shapeOf k).to∧s3=(Sp.shapeOf k).num∧s4=(Sp.shapeOf k).text∧s5=(Sp.shapeOf k).kids:=by rw [← hs];simp
 have J3:∀c:Bool,c=(!ok || (!s1 && f != 0) || (!s2 && t != 0) || (!s3 && u != 0))→m_D_j3 p1 p2 p3 c w5 K:=by
  intro c hc;unfold m_D_j3;refine ⟨fun h=>⟨_,_,_,_,_,b3.row,fin _ ?_⟩,fun h=>⟨_,b3.cell rfl,fun h4=>⟨_,b1.cell rfl,fun h5=>⟨_,_,_,_,_,b3.row,fin _ ?_⟩,fun h5=>⟨_,_,_,_,_,b3.row,fin _ ?_⟩⟩,fun h4=>⟨_,_,_,_,_,b3.row,fin _ ?_⟩⟩⟩
  ·rw [h] at hc;simp only [Sp.jX,← e1,← e2,← e3,← e4,← hok,← hc];simp
  ·rw [h] at hc;simp only [Sp.jX,← e1,← e2,← e3,← e4,← hok,← hc];simp at h4 h5;simp [h4,h5]
  ·rw [h] at hc;simp only [Sp.jX,← e1,← e2,← e3,← e4,← hok,← hc];simp at h4 h5;simp [h4,h5]
  ·rw [h] at hc;simp only [Sp.jX,← e1,← e2,← e3,← e4,← hok,← hc];simp at h4;simp [h4]
 have J2:∀c:Bool,c=(!ok || (!s1 && f != 0) || (!s2 && t != 0))→m_D_j2 p1 p2 p3 c w5 K:=by
  intro c hc;have J4:∀d:Bool,d=(!s3 && u != 0)→m_D_j4 p1 p2 p3 c d w5 K:=fun d hd=>⟨fun h=>J3 _ (by rw [← hc,h];rfl),fun h=>J3 _ (by rw [← hc,h];simpa using hd)⟩;exact ⟨fun h=>J3 _ (by rw [← hc,h];rfl),fun h=>⟨_,b3.cell rfl,fun h4=>⟨_,b1.cell rfl,J4 _ (by rw [h4];rfl)⟩,fun h4=>J4 _ (by rw [h4];rfl)⟩⟩
 have J1:∀c:Bool,c=(!ok || (!s1 && f != 0))→m_D_j1 p1 p2 p3 c w5 K:=by
  intro c hc;have J5:∀d:Bool,d=(!s2 && t != 0)→m_D_j5 p1 p2 p3 c d w5 K:=fun d hd=>⟨fun h=>J2 _ (by rw [← hc,h];rfl),fun h=>J2 _ (by rw [← hc,h];simpa using hd)⟩;exact ⟨fun h=>J2 _ (by rw [← hc,h];rfl),fun h=>⟨_,b3.cell rfl,fun h4=>⟨_,b1.cell rfl,J5 _ (by rw [h4];rfl)⟩,fun h4=>J5 _ (by rw [h4];rfl)⟩⟩
 have J6:∀d:Bool,d=(!s1 && f != 0)→m_D_j6 p1 p2 ok p3 d w5 K:=fun d hd=>⟨fun h=>J1 _ (by rw [h];rfl),fun h=>J1 _ (by rw [h];simpa using hd)⟩
 exact ⟨fun h=>J1 _ (by rw [h];rfl),fun h=>⟨_,b3.cell0,fun h4=>⟨_,b1.cell rfl,J6 _ (by rw [h4];rfl)⟩,fun h4=>J6 _ (by rw [h4];rfl)⟩⟩
end Go.Proofs
end
section
namespace Go.Sp
structure Ent where
 node:Node
 size:Int
 depth:Int
deriving DecidableEq
abbrev Pool:=List Ent
def inP (L:Pool) (t:Int):Bool:=decide (1≤t) && decide (t≤L.length)
def get (L:Pool) (t:Int):Option Ent:=if inP L t then L[(t - 1).toNat]? else none
def sizeOf (L:Pool) (t:Int):Int:=((get L t).map (·.size)).getD 0
def depthOf (L:Pool) (t:Int):Int:=((get L t).map (·.depth)).getD 0
def tX:Node:=⟨0,0,0,0,⟨#[]⟩,0,0⟩
def jD (L:Pool) (t:Int):Node:=((get L t).map (·.node)).getD tX
def zB (n:Node):List Int:=[n.a,n.b].take (shapeOf n.kind).kids.toNat
def check (L:Pool) (n:Node):Int×Int×Int :=
 let s:=shapeOf n.kind
 if jX n≠0 then (0,0,jX n)
 else if (decide (s.kids<1) && n.a != 0) || (decide (s.kids<2) && n.b != 0) then (0,0,53)
 else if jU s n≠0 then (0,0,jU s n)
 else if (zB n).any (fun t=>!inP L t) then (0,0,51)
 else
  let sz:=1+((zB n).map (sizeOf L)).sum
  let d:=(zB n).foldl (fun d t=>max d (depthOf L t)) 0+1
  if sz>4096∨d>64 then (0,0,52) else (sz,d,0)
def find (L:Pool) (n:Node):Option Nat:=L.findIdx? (fun e=>e.node=n)
def make (L:Pool) (n:Node):Int×Int×Pool :=
 let c:=check L n
 if c.2.2≠0 then (0,c.2.2,L)
 else match find L n with
  | some i=>(i+1,0,L)
  | none=>if 65536≤L.length then (0,6,L) else (L.length+1,0,L++[⟨n,c.1,c.2.1⟩])
structure Ok (L:Pool):Prop where
 few:L.length≤65536
 nodup:(L.map (·.node)).Nodup
 size:∀e∈L,1≤e.size∧e.size≤4096
 depth:∀e∈L,1≤e.depth∧e.depth≤64
theorem zA {L:Pool} {t:Int}:inP L t=true↔1≤t∧t≤L.length:=by simp [inP]
theorem uH {L:Pool} {t:Int} (h:inP L t=true):∃e,get L t=some e∧e∈L∧∃hi:(t - 1).toNat<L.length,L[(t - 1).toNat]=e:=by
 obtain ⟨h1,h2⟩:=zA.1 h;have hi:(t - 1).toNat<L.length:=by omega
 exact ⟨L[(t - 1).toNat],by simp [get,h],List.getElem_mem hi,hi,rfl⟩
theorem kL {L:Pool} {t:Int} (h:inP L t=false):get L t=none:=by simp [get,h]
theorem Ok.sizeOf {L:Pool} (h:Ok L) (t:Int):0≤sizeOf L t∧sizeOf L t≤4096:=by
 cases ht:inP L t with
 | true=>obtain ⟨e,he,hm,_⟩:=uH ht;have:=h.size e hm;simp [Sp.sizeOf,he];omega
 | false=>simp [Sp.sizeOf,kL ht]
theorem Ok.depthOf {L:Pool} (h:Ok L) (t:Int):0≤depthOf L t∧depthOf L t≤64:=by
 cases ht:inP L t with
 | true=>obtain ⟨e,he,hm,_⟩:=uH ht;have:=h.depth e hm;simp [Sp.depthOf,he];omega
 | false=>simp [Sp.depthOf,kL ht]
theorem Ok.nil:Ok []:=⟨by simp,by simp,by simp,by simp⟩
theorem lB (k:Int):(shapeOf k).kids=0∨(shapeOf k).kids=1∨(shapeOf k).kids=2:=by
 unfold shapeOf noShape;repeat' split
 all_goals simp
end Go.Sp
end
section
open Go Go.SE
namespace Go.Proofs
open Tryz
attribute [local irreducible] Calls
def qM (n:Sp.Node):List Value:=[.int .i64 n.kind,.int .i64 n.frm,.int .i64 n.to,.int .u64 n.num,.string n.text,.int .i64 n.a,.int .i64 n.b]
def jBB (e:Sp.Ent):List Value:=qM e.node++[.int .i64 e.size,.int .i64 e.depth]
def uE (n:Sp.Node):Value:=.agg (qM n).toArray
def vM (L:Sp.Pool):List (Value×Value):=L.zipIdx.map fun p=>(uE p.1.node,.int .i64 (p.2+1:Nat))
structure PoolS (w:World) (p:Addr) (L:Sp.Pool) (s:Sl) (m:Nat):Prop where
 box:Box w p [s.v,.map (some m)] 94
 rows:Rws w 147 9 s (L.map jBB)
 map:CMap w m (vM L)
 n1:m≠p.block
 n2:¬ s.blk p.block
 n3:¬ s.blk m
def jN (w:World) (p:Addr) (L:Sp.Pool) (F:NP):Prop:=∃s m,PoolS w p L s m∧∀b,F b↔(b=p.block∨s.blk b∨b=m)
theorem jN.ext {G:NP} {w w':World} {p:Addr} {L:Sp.Pool} {F:NP} (h:jN w p L F) (hE:Ext G w w') (hd:∀b,F b→¬ G b):jN w' p L F:=by
 obtain ⟨s,m,h,hF⟩:=h;exact ⟨s,m,⟨h.box.ext hE (hd _ ((hF _).2 (.inl rfl))),h.rows.ext hE (fun b hb=>hd _ ((hF _).2 (.inr (.inl hb)))),h.map.ext hE (hd _ ((hF _).2 (.inr (.inr rfl)))),h.n1,h.n2,h.n3⟩,hF⟩
theorem jN.pure {w w':World} {p:Addr} {L:Sp.Pool} {F:NP} (h:jN w p L F) (hE:Pure w w'):jN w' p L F:=h.ext hE (fun _ _ h=>h)
theorem jN.lt {w:World} {p:Addr} {L:Sp.Pool} {F:NP} (h:jN w p L F) {b:Nat} (hb:F b):b<w.heap.size:=by
 obtain ⟨s,m,h,hF⟩:=h;rcases (hF b).1 hb with rfl | hb | rfl
 ·exact h.box.lt
 ·exact h.rows.lt hb
 ·exact h.map.lt
theorem i64 {n:Int} (h:-9223372036854775808≤n) (h':n≤9223372036854775807):IntKind.i64.wrap n=n:=IntWalk.i64_in n ⟨h,h'⟩
theorem c_in (p:Addr) (t:Int) (w:World) {L:Sp.Pool} {F:NP} (hP:jN w p L F):Calls prog 80 #[.pointer (some p),.int .i64 t] w (fun e w'=>∃r,e=.returned (.bool r)∧(r=Sp.inP L t∧w=w')):=by
 obtain ⟨s,m,h,_⟩:=hP;refine w_Y (some p) t w (fun r w'=>r=Sp.inP L t∧w=w') ?_;unfold m_Y;have hl:(s.len:Int)=L.length:=by rw [h.rows.len];simp
 refine Br.t rfl ⟨fun h1=>⟨p,rfl,s,h.box.cell0,?_,rfl⟩,fun h1=>⟨?_,rfl⟩⟩
 ·have:1≤t:=by simpa using h1
  simp [Sp.inP,hl,this]
 ·have:¬ 1≤t:=by simpa using h1
  simp [Sp.inP,this]
theorem PoolS.at {w:World} {p:Addr} {L:Sp.Pool} {s:Sl} {m:Nat} (h:PoolS w p L s m) {t:Int} (ht:Sp.inP L t=true) (hok:Sp.Ok L):∃a e,At s (IntKind.i64.wrap (t - 1)) 9 a∧Row w a (jBB e)∧s.blk a.block∧Sp.get L t=some e:=by
 obtain ⟨h1,h2⟩:=Sp.zA.1 ht;obtain ⟨e,hg,_,hi,he⟩:=Sp.uH ht;have:=hok.few;rw [i64 (by omega) (by omega)];obtain ⟨a,hat,hr,hb⟩:=h.rows.at (i:=t - 1) (by omega) (by simpa using hi);exact ⟨a,e,hat,(by rw [List.getElem_map,he] at hr;exact hr),hb,hg⟩
theorem c_Size (p:Addr) (t:Int) (w:World) {L:Sp.Pool} {F:NP} (hP:jN w p L F) (hok:Sp.Ok L):Calls prog 143 #[.pointer (some p),.int .i64 t] w (fun e w'=>∃r,e=.returned (.int .i64 r)∧(r=Sp.sizeOf L t∧w=w')):=by
 refine w_O2 (some p) t w (fun r w'=>r=Sp.sizeOf L t∧w=w') ?_;unfold m_O2;refine (c_in p t w hP).mono ?_;rintro _ _ ⟨_,rfl,rfl,rfl⟩;obtain ⟨s,m,h,_⟩:=hP;refine ⟨_,rfl,fun h1=>⟨?_,rfl⟩,fun h1=>?_⟩
 ·simp [Sp.sizeOf,Sp.kL (show Sp.inP L t=false by simpa using h1)]
 ·obtain ⟨a,e,hat,hr,_,hg⟩:=h.at (show Sp.inP L t=true by simpa using h1) hok;exact ⟨p,rfl,s,h.box.cell0,a,hat,e.size,hr 7 (by simp [jBB,qM]),by simp [Sp.sizeOf,hg],rfl⟩
theorem jFG (p:Addr) (t:Int) (w:World) {L:Sp.Pool} {F:NP} (hP:jN w p L F) (hok:Sp.Ok L):Calls prog 144 #[.pointer (some p),.int .i64 t] w (fun e w'=>∃r,e=.returned (.int .i64 r)∧(r=Sp.depthOf L t∧w=w')):=by
 refine w_P2 (some p) t w (fun r w'=>r=Sp.depthOf L t∧w=w') ?_;unfold m_P2;refine (c_in p t w hP).mono ?_;rintro _ _ ⟨_,rfl,rfl,rfl⟩;obtain ⟨s,m,h,_⟩:=hP;refine ⟨_,rfl,fun h1=>⟨?_,rfl⟩,fun h1=>?_⟩
 ·simp [Sp.depthOf,Sp.kL (show Sp.inP L t=false by simpa using h1)]
 ·obtain ⟨a,e,hat,hr,_,hg⟩:=h.at (show Sp.inP L t=true by simpa using h1) hok;exact ⟨p,rfl,s,h.box.cell0,a,hat,e.depth,hr 8 (by simp [jBB,qM]),by simp [Sp.depthOf,hg],rfl⟩
theorem uB (p:Addr) (t:Int) (w:World) {L:Sp.Pool} {F:NP} (hP:jN w p L F) (hok:Sp.Ok L):Calls prog 43 #[.pointer (some p),.int .i64 t] w
  (fun e w'=>∃k:Int,∃f:Int,∃t':Int,∃u:Int,∃x:ByteArray,∃a:Int,∃b:Int,∃r:Bool,e=.returned (.tuple #[.agg #[.int .i64 k,.int .i64 f,.int .i64 t',.int .u64 u,.string x,.int .i64 a,.int .i64 b],.bool r])∧(((⟨k,f,t',u,x,a,b⟩:Sp.Node)=Sp.jD L t∧r=Sp.inP L t)∧Pure w w')):=by
 refine w_F2 (some p) t w (fun k f t' u x a b r w'=>((⟨k,f,t',u,x,a,b⟩:Sp.Node)=Sp.jD L t∧r=Sp.inP L t)∧Pure w w') ?_
 unfold m_F2
 intro p1 w1 h1
 have E1:Pure w w1:=Ext.new h1
 have b1:=Box.of_new h1
 have hp:=New.own (Ext.refl w) h1
 refine (c_in p t w1 (hP.pure E1)).mono ?_
 rintro _ _ ⟨_,rfl,rfl,rfl⟩
 obtain ⟨s,m,h,_⟩:=hP.pure E1
 refine ⟨_,rfl,fun h1=>bx 7 b1 rfl rfl (fun w' b E=>⟨_,_,_,_,_,_,_,b.row,⟨?_,?_⟩,E1.own hp E⟩),fun h1=>?_⟩
 ·simp [Sp.jD,Sp.kL (show Sp.inP L t=false by simpa using h1),Sp.tX]
 ·symm;simpa using h1
 ·have ht:Sp.inP L t=true:=by simpa using h1
  obtain ⟨a,e,hat,hr,_,hg⟩:=h.at ht hok
  have hn:Row w1 a (qM e.node):=fun i hi=>by
   have:=hr i (by simp [jBB];omega);rw [this];unfold jBB;rw [List.getElem?_append_left hi]
  exact ⟨p,rfl,s,h.box.cell0,a,hat,_,_,_,_,_,_,_,hn,bx 7 b1 rfl rfl (fun w' b E=>⟨_,_,_,_,_,_,_,b.row,⟨by simp [Sp.jD,hg],ht.symm⟩,E1.own hp E⟩)⟩
end Go.Proofs
end
section
namespace Go.Sp
inductive Tree where
 | mk (k f t u:Int) (x:ByteArray) (kids:List Tree)
def Tree.kids:Tree→List Tree | .mk _ _ _ _ _ ks=>ks
def Tree.node:Tree→Node | .mk k f t u x _=>⟨k,f,t,u,x,0,0⟩
theorem Tree.ind {P:Tree→Prop} (h:∀k f t u x (ks:List Tree),(∀i (hi:i<ks.length),P ks[i])→P (.mk k f t u x ks)) (t:Tree):P t:=by
 refine Tree.rec (motive_1:=P) (motive_2:=fun ks=>∀i (hi:i<ks.length),P ks[i]) ?_ ?_ ?_ t
 ·intro k f t u x ks ih;exact h _ _ _ _ _ _ ih
 ·intro i hi;simp at hi
 ·intro t ks ht hks i hi;cases i with
  | zero=>exact ht
  | succ i=>exact hks i (by simpa using hi)
def vE (n:Node) (len:Nat):Int :=
 let e:=if jX n=0 then if (len:Int)≠(shapeOf n.kind).kids then 53 else 0 else jX n
 if e=0 then jU (shapeOf n.kind) n else e
mutual
def zZ (inside seen:Int):Tree→Int×Int
 | .mk k f t u x ks=>if 4096≤seen then (52,seen) else if 64≤inside then (52,seen) else zK (inside+1) (vE ⟨k,f,t,u,x,0,0⟩ ks.length) (seen+1) ks
def zK (inside e seen:Int):List Tree→Int×Int
 | []=>(e,seen)
 | t :: ts=>if e=0 then zK inside (zZ inside seen t).1 (zZ inside seen t).2 ts else (e,seen)
end
mutual
def zW (L:Pool):Tree→Int×Int×Pool
 | .mk k f t u x ks=>zG ⟨k,f,t,u,x,0,0⟩ 0 L ks
def zG (n:Node) (i:Nat) (L:Pool):List Tree→Int×Int×Pool
 | []=>make L n
 | t :: ts=>if (zW L t).2.1≠0 then (0,(zW L t).2.1,(zW L t).2.2) else zG (if i=0 then { n with a:=(zW L t).1 } else { n with b:=(zW L t).1 }) (i+1) (zW L t).2.2 ts
end
def of (L:Pool) (t:Tree):Int×Int×Pool :=
 if (zZ 0 0 t).1≠0 then (0,(zZ 0 0 t).1,L)
 else if (zW L t).2.1≠0 then (0,(zW L t).2.1,L) else ((zW L t).1,0,(zW L t).2.2)
theorem jAN (L:Pool) (n:Node):∃M,(make L n).2.2=L++M:=by
 unfold make;simp only;by_cases hc:(check L n).2.2=0
 ·simp only [hc];rw [if_neg (by simp)];split
  ·exact ⟨[],by simp⟩
  ·split
   ·exact ⟨[],by simp⟩
   ·exact ⟨_,rfl⟩
 ·rw [if_pos hc];exact ⟨[],by simp⟩
theorem jDV {L:Pool} {n:Node} (hok:Ok L) (h:(check L n).2.2=0):1≤(check L n).1∧(check L n).1≤4096∧1≤(check L n).2.1∧(check L n).2.1≤64:=by
 unfold check at h ⊢;simp only at h ⊢;by_cases h1:jX n≠0
 ·rw [if_pos h1] at h;exact absurd h h1
 rw [if_neg h1] at h ⊢;split at h
 ·simp at h
 rename_i h2;rw [if_neg h2];by_cases h3:jU (shapeOf n.kind) n≠0
 ·rw [if_pos h3] at h;exact absurd h h3
 rw [if_neg h3] at h ⊢;split at h
 ·simp at h
 rename_i h4;rw [if_neg h4];split at h
 ·simp at h
 rename_i h5;rw [if_neg h5];have hs:∀l:List Int,0≤(l.map (sizeOf L)).sum:=by
  intro l;induction l with
  | nil=>simp
  | cons y l ih=>have:=hok.sizeOf y;simp only [List.map_cons,List.sum_cons];omega
 have hd:∀(l:List Int) (d:Int),0≤d→0≤l.foldl (fun d t=>max d (depthOf L t)) d:=by
  intro l;induction l with
  | nil=>intro d h;exact h
  | cons y l ih=>intro d h;exact ih (max d (depthOf L y)) (by omega)
 have:=hs (zB n);have:=hd (zB n) 0 (by omega);simp only;omega
theorem jCB {L:Pool} (hok:Ok L) (n:Node):Ok (make L n).2.2:=by
 by_cases hc:(check L n).2.2=0
 ·have:=jDV hok hc;unfold make;simp only [hc];rw [if_neg (by simp)];split
  ·exact hok
  ·rename_i hf;split
   ·exact hok
   ·rename_i hl;refine ⟨by simp;omega,?_,?_,?_⟩
    ·rw [List.map_append,List.nodup_append];refine ⟨hok.nodup,by simp,?_⟩;intro a ha b hb;simp only [List.map_cons,List.map_nil,List.mem_singleton] at hb;subst hb;obtain ⟨e,he,rfl⟩:=List.mem_map.1 ha;unfold find at hf;rw [List.findIdx?_eq_none_iff] at hf;simpa using hf e he
    ·intro e he;rcases List.mem_append.1 he with h | h
     ·exact hok.size e h
     ·simp only [List.mem_singleton] at h;subst h;simp;omega
    ·intro e he;rcases List.mem_append.1 he with h | h
     ·exact hok.depth e h
     ·simp only [List.mem_singleton] at h;subst h;simp;omega
 ·unfold make;simp only;rw [if_pos hc];exact hok
theorem qD (t:Tree):∀L,Ok L→Ok (zW L t).2.2∧∃M,(zW L t).2.2=L++M:=by
 induction t using Tree.ind with
 | h k f t u x ks ih =>
  have:∀(ks:List Tree),(∀i (hi:i<ks.length),∀L,Ok L→Ok (zW L ks[i]).2.2∧∃M,(zW L ks[i]).2.2=L++M)→∀n i L,Ok L→Ok (zG n i L ks).2.2∧∃M,(zG n i L ks).2.2=L++M:=by
   intro ks;induction ks with
   | nil=>intro _ n i L h;unfold zG;exact ⟨jCB h n,jAN L n⟩
   | cons t ts iht =>
    intro hh n i L h
    have h0:=hh 0 (by simp) L h
    simp only [List.getElem_cons_zero] at h0
    unfold zG
    split
    ·exact h0
    ·obtain ⟨ho,M,hM⟩:=h0
     have:=iht (fun i hi=>hh (i+1) (by simpa using hi)) (if i=0 then { n with a:=(zW L t).1 } else { n with b:=(zW L t).1 }) (i+1) (zW L t).2.2 ho
     refine ⟨this.1,?_⟩
     obtain ⟨M2,hM2⟩:=this.2
     exact ⟨M++M2,by rw [hM2,hM,List.append_assoc]⟩
  intro L h
  unfold zW
  exact this ks ih _ _ L h
def isNum (n:Int):Prop:=0≤n∧n<18446744073709551616
inductive NumT:Tree→Prop
 | mk (k f t u:Int) (x:ByteArray) (ks:List Tree) (own:isNum u) (kids:∀i (hi:i<ks.length),NumT ks[i]):NumT (.mk k f t u x ks)
end Go.Sp
end
section
namespace Go.Sp
theorem uY {L:Pool} {i:Nat} (hi:i<L.length):jD L ((i:Int)+1)=L[i].node:=by
 have h:inP L ((i:Int)+1)=true:=zA.2 ⟨by omega,by omega⟩;have e:((i:Int)+1 - 1).toNat=i:=by omega
 simp [jD,get,h,e,hi]
theorem tY {L:Pool} {t:Int} (h:inP L t=true):∃i:Nat,i<L.length∧t=(i:Int)+1:=by
 have:=zA.1 h;exact ⟨(t - 1).toNat,by omega,by omega⟩
theorem tZ {L:Pool} {i:Nat} (hi:i<L.length):get L ((i:Int)+1)=some L[i]:=by
 have h:inP L ((i:Int)+1)=true:=zA.2 ⟨by omega,by omega⟩;have e:((i:Int)+1 - 1).toNat=i:=by omega
 simp [get,h,e,hi]
structure Wf (L:Pool):Prop where
 ok:Ok L
 each:∀i (hi:i<L.length),check (L.take i) L[i].node=(L[i].size,L[i].depth,0)
theorem Wf.nil:Wf []:=⟨Ok.nil,fun i hi=>by simp at hi⟩
theorem jAT {L:Pool} {n:Node} (h:(check L n).2.2=0):jX n=0∧((shapeOf n.kind).kids<1→n.a=0)∧((shapeOf n.kind).kids<2→n.b=0)∧jU (shapeOf n.kind) n=0∧(∀t∈zB n,inP L t=true) ∧
  (check L n).1=1+((zB n).map (sizeOf L)).sum∧(check L n).2.1=(zB n).foldl (fun d t=>max d (depthOf L t)) 0+1∧(check L n).1≤4096∧(check L n).2.1≤64:=by
 unfold check at h ⊢
 simp only at h ⊢
 by_cases h1:jX n≠0
 ·rw [if_pos h1] at h;exact absurd h h1
 rw [if_neg h1] at h ⊢
 split at h
 ·simp at h
 rename_i h2;rw [if_neg h2]
 by_cases h3:jU (shapeOf n.kind) n≠0
 ·rw [if_pos h3] at h;exact absurd h h3
 rw [if_neg h3] at h ⊢
 split at h
 ·simp at h
 rename_i h4;rw [if_neg h4]
 split at h
 ·simp at h
 rename_i h5;rw [if_neg h5]
 simp only [Bool.or_eq_true,Bool.and_eq_true,decide_eq_true_eq,bne_iff_ne,ne_eq,not_or,not_and,Classical.not_not] at h2
 refine ⟨by simpa using h1,h2.1,h2.2,by simpa using h3,fun t ht=>?_,rfl,rfl,by simp only;omega,by simp only;omega⟩
 cases hi:inP L t with
 | true=>rfl
 | false=>exact absurd (List.any_eq_true.2 ⟨t,ht,by simp [hi]⟩) h4
theorem lV (L:Pool) (n:Node):(make L n).2.2=L∨((check L n).2.2=0∧(make L n).2.2=L++[⟨n,(check L n).1,(check L n).2.1⟩]):=by
 by_cases hc:(check L n).2.2=0
 ·unfold make;simp only [hc];rw [if_neg (by simp)];split
  ·exact .inl rfl
  ·split
   ·exact .inl rfl
   ·exact .inr ⟨trivial,rfl⟩
 ·unfold make;simp only;rw [if_pos hc];exact .inl rfl
theorem jBR {L:Pool} {e:Ent} (h:∀i (hi:i<L.length),check (L.take i) L[i].node=(L[i].size,L[i].depth,0)) (he:check L e.node=(e.size,e.depth,0)):∀i (hi:i<(L++[e]).length),check ((L++[e]).take i) (L++[e])[i].node=((L++[e])[i].size,(L++[e])[i].depth,0):=by
 intro i hi;simp only [List.length_append,List.length_cons,List.length_nil] at hi;by_cases hlt:i<L.length
 ·simp only [List.getElem_append_left hlt];rw [List.take_append_of_le_length (by omega)];exact h i hlt
 ·have:i=L.length:=by omega
  subst this;simp only [List.getElem_append_right (Nat.le_refl _),Nat.sub_self,List.getElem_cons_zero];rw [List.take_left' rfl];exact he
theorem vW {L:Pool} (h:Wf L) (n:Node):Wf (make L n).2.2:=by
 have ho:=jCB h.ok n;rcases lV L n with e | ⟨hc,e⟩
 ·rw [e];exact h
 ·rw [e] at ho ⊢;exact ⟨ho,jBR h.each (by rw [← hc])⟩
theorem jFC (t:Tree):∀L,Wf L→Wf (zW L t).2.2:=by
 induction t using Tree.ind with
 | h k f t u x ks ih =>
  have:∀(ks:List Tree),(∀i (hi:i<ks.length),∀L,Wf L→Wf (zW L ks[i]).2.2)→∀n i L,Wf L→Wf (zG n i L ks).2.2:=by
   intro ks;induction ks with
   | nil=>intro _ n i L h;unfold zG;exact vW h n
   | cons t ts iht =>
    intro hh n i L h
    have h0:=hh 0 (by simp) L h
    simp only [List.getElem_cons_zero] at h0
    unfold zG
    split
    ·exact h0
    ·exact iht (fun i hi=>hh (i+1) (by simpa using hi)) _ _ _ h0
  intro L h
  unfold zW
  exact this ks ih _ _ L h
theorem of_wf {L:Pool} (h:Wf L) (t:Tree):Wf (of L t).2.2:=by
 unfold of;split
 ·exact h
 ·split
  ·exact h
  ·exact jFC t L h
theorem jFB {L M:Pool} {t:Int} (h:inP L t=true):inP (L++M) t=true:=by
 have:=zA.1 h;exact zA.2 ⟨this.1,by rw [List.length_append];omega⟩
theorem jCJ {L M:Pool} {t:Int} (h:inP L t=true):get (L++M) t=get L t:=by
 obtain ⟨i,hi,rfl⟩:=tY h;rw [tZ hi,tZ (by rw [List.length_append];omega),List.getElem_append_left hi]
theorem jAI {L M:Pool} {t:Int} (h:inP L t=true):sizeOf (L++M) t=sizeOf L t:=by unfold sizeOf;rw [jCJ h]
theorem tD {L M:Pool} {t:Int} (h:inP L t=true):depthOf (L++M) t=depthOf L t:=by unfold depthOf;rw [jCJ h]
theorem Wf.node {L:Pool} (h:Wf L) {t:Int} (ht:inP L t=true):jX (jD L t)=0∧((shapeOf (jD L t).kind).kids<1→(jD L t).a=0)∧((shapeOf (jD L t).kind).kids<2→(jD L t).b=0)∧jU (shapeOf (jD L t).kind) (jD L t)=0 ∧
  (∀k∈zB (jD L t),inP L k=true∧k<t)∧sizeOf L t=1+((zB (jD L t)).map (sizeOf L)).sum∧depthOf L t=(zB (jD L t)).foldl (fun d k=>max d (depthOf L k)) 0+1:=by
 obtain ⟨i,hi,rfl⟩:=tY ht
 have he:=h.each i hi
 have hz:=jAT (L:=L.take i) (n:=L[i].node) (by rw [he])
 rw [uY hi]
 obtain ⟨h1,h2,h3,h4,h5,h6,h7,_,_⟩:=hz
 have hin:∀k∈zB L[i].node,inP (L.take i) k=true∧inP L k=true∧k<(i:Int)+1:=by
  intro k hk;have hk':=h5 k hk;have hk2:=zA.1 hk';have:L.take i++L.drop i=L:=List.take_append_drop i L;refine ⟨hk',by rw [← this];exact jFB hk',?_⟩;rw [List.length_take] at hk2;omega
 have hsz:∀k∈zB L[i].node,sizeOf (L.take i) k=sizeOf L k∧depthOf (L.take i) k=depthOf L k:=by
  intro k hk;have hk':=(hin k hk).1;have:L.take i++L.drop i=L:=List.take_append_drop i L;exact ⟨by rw [← jAI (M:=L.drop i) hk',this],by rw [← tD (M:=L.drop i) hk',this]⟩
 refine ⟨h1,h2,h3,h4,fun k hk=>⟨(hin k hk).2.1,(hin k hk).2.2⟩,?_,?_⟩
 ·have:sizeOf L ((i:Int)+1)=L[i].size:=by simp [sizeOf,tZ hi]
  rw [this]
  rw [he] at h6
  simp only at h6
  rw [h6]
  congr 2
  exact List.map_congr_left (fun k hk=>(hsz k hk).1)
 ·have:depthOf L ((i:Int)+1)=L[i].depth:=by simp [depthOf,tZ hi]
  rw [this]
  rw [he] at h7
  simp only at h7
  rw [h7]
  congr 1
  have:∀(l:List Int) (d:Int),(∀k∈l,depthOf (L.take i) k=depthOf L k)→l.foldl (fun d t=>max d (depthOf (L.take i) t)) d=l.foldl (fun d k=>max d (depthOf L k)) d:=by
   intro l;induction l with
   | nil=>intro d _;rfl
   | cons a l ih=>intro d hh;simp only [List.foldl_cons];rw [hh a (by simp)];exact ih _ (fun k hk=>hh k (by simp [hk]))
  exact this _ _ (fun k hk=>(hsz k hk).2)
theorem Wf.first {L M:Pool} (h:Wf (L++M)):Wf L:=by
 refine ⟨⟨by have:=h.ok.few;rw [List.length_append] at this;omega,?_,fun e he=>h.ok.size e (by simp [he]),fun e he=>h.ok.depth e (by simp [he])⟩,fun i hi=>?_⟩
 ·have:=h.ok.nodup;rw [List.map_append] at this;exact (List.nodup_append.1 this).1
 ·have:=h.each i (by rw [List.length_append];omega);rw [List.getElem_append_left hi,List.take_append_of_le_length (by omega)] at this;exact this
end Go.Sp
end
section
namespace Go.Sp
def zJ (k:Int):Bool:=k == 7 || k == 8 || k == 9
def qH (k:Int):Bool:=k == 1 || k == 2 || k == 3
def vA (n:Int):Node:=⟨6,n,0,0,⟨#[]⟩,0,0⟩
def kI (n:Node):Int:=if n.kind=9 then n.to else n.frm
def zU (L:Pool) (r u t:Int):Prop :=
 (r=1∧(jD L u).kind=4∧(jD L u).a=t)∨(r=2∧(jD L u).kind=4∧(jD L u).b=t)∨(r=3∧zJ (jD L u).kind=true∧(jD L u).a=t)
inductive Seen (L:Pool) (G:List Int):Int→Prop
 | given {t:Int}:t∈G→Seen L G t
 | aris {r u t:Int}:Seen L G u→zU L r u t→Seen L G t
inductive Drv (L:Pool) (K:Int→Prop):Int→Prop
 | seen {t:Int}:K t→Drv L K t
 | free {t:Int}:qH (jD L t).kind=true→Drv L K t
 | pair {t:Int}:(jD L t).kind=4→Drv L K (jD L t).a→Drv L K (jD L t).b→Drv L K t
 | hash {t:Int}:(jD L t).kind=5→Drv L K (jD L t).a→Drv L K t
 | sign {t:Int} {i:Nat}:zJ (jD L t).kind=true→Drv L K (jD L t).a→find L (vA (kI (jD L t)))=some i→K ((i:Int)+1)→Drv L K t
structure Way where
 t:Int
 rule:Int
 frm:Int
deriving DecidableEq
def jG (S:List Way):List Int:=S.map Way.t
def tK (L:Pool) (G:List Int) (pre:List Way) (v:Way):Prop:=(v.rule=0∧v.frm=0∧v.t∈G)∨(v.rule≠0∧zU L v.rule v.frm v.t∧v.frm∈jG pre)
structure WaysOk (L:Pool) (G:List Int) (S:List Way):Prop where
 nodup:(jG S).Nodup
 inp:∀t∈jG S,inP L t=true
 way:∀i (h:i<S.length),tK L G (S.take i) S[i]
def gN (L:Pool) (S:List Way) (u:Int):Prop:=∀r t,zU L r u t→t∈jG S
structure KnowOk (L:Pool) (G:List Int) (S:List Way):Prop extends WaysOk L G S where
 closed:∀u∈jG S,gN L S u
 giv:∀t∈G,t∈jG S
 gnd:G.Nodup
theorem zY (S:List Way):(jG S).length=S.length:=by simp [jG]
theorem tK.mono {L:Pool} {G G':List Int} {pre:List Way} {v:Way} (h:tK L G pre v) (hG:∀t∈G,t∈G'):tK L G' pre v:=by
 rcases h with ⟨a,b,c⟩ | h
 ·exact .inl ⟨a,b,hG _ c⟩
 ·exact .inr h
theorem WaysOk.mono {L:Pool} {G G':List Int} {S:List Way} (h:WaysOk L G S) (hG:∀t∈G,t∈G'):WaysOk L G' S:=⟨h.nodup,h.inp,fun i hi=>(h.way i hi).mono hG⟩
theorem WaysOk.snoc {L:Pool} {G:List Int} {S:List Way} (h:WaysOk L G S) {v:Way} (hn:v.t ∉ jG S) (hi:inP L v.t=true) (hv:tK L G S v):WaysOk L G (S++[v]):=by
 refine ⟨?_,?_,fun i hlt=>?_⟩
 ·unfold jG at hn ⊢;rw [List.map_append,List.nodup_append];exact ⟨h.nodup,by simp,fun x hx y hy e=>by simp at hy;subst hy;exact hn (e▸hx)⟩
 ·intro t ht;unfold jG at ht;rw [List.map_append,List.mem_append] at ht;rcases ht with ht | ht
  ·exact h.inp t ht
  ·simp at ht;rw [ht];exact hi
 ·rw [List.length_append] at hlt;simp only [List.length_cons,List.length_nil] at hlt;by_cases hl:i<S.length
  ·rw [List.getElem_append_left hl,List.take_append_of_le_length (by omega)];exact h.way i hl
  ·have:i=S.length:=by omega
   subst this;rw [List.getElem_append_right (Nat.le_refl _),List.take_left];simpa using hv
theorem gN.snoc {L:Pool} {S:List Way} {u:Int} {v:Way} (h:gN L S u):gN L (S++[v]) u:=fun r t ha=>by
 unfold jG;rw [List.map_append];exact List.mem_append_left _ (h r t ha)
theorem xP {S:List Way} {t:Int} (h:t∈jG S):∃i,∃hi:i<S.length,S[i].t=t∧(jG S).idxOf t=i:=by
 have hlt:=List.idxOf_lt_length_iff.2 h;refine ⟨(jG S).idxOf t,by simpa [jG] using hlt,?_,rfl⟩;have:=List.getElem_idxOf hlt;simp only [jG,List.getElem_map] at this ⊢;exact this
theorem KnowOk.seen_iff {L:Pool} {G:List Int} {S:List Way} (h:KnowOk L G S) (t:Int):t∈jG S↔Seen L G t:=by
 constructor
 ·intro ht;obtain ⟨i,hi,e,_⟩:=xP ht;subst e;have:∀(n i:Nat) (hi:i<S.length),i≤n→Seen L G S[i].t:=by
   intro n;induction n with
   | zero =>
    intro i hi h0
    have:i=0:=by omega
    subst this
    rcases h.way 0 hi with ⟨_,_,hg⟩ | ⟨_,_,hm⟩
    ·exact .given hg
    ·simp [jG] at hm
   | succ n ih =>
    intro i hi hn
    rcases h.way i hi with ⟨_,_,hg⟩ | ⟨_,ha,hm⟩
    ·exact .given hg
    ·obtain ⟨j,hj,e,_⟩:=xP hm
     rw [List.length_take] at hj
     have:=ih j (by omega) (by omega)
     rw [List.getElem_take] at e
     rw [e] at this
     exact .aris this ha
  exact this i i hi (Nat.le_refl _)
 ·intro hs;induction hs with
  | given hg=>exact h.giv _ hg
  | aris _ ha ih=>exact h.closed _ ih _ _ ha
theorem Seen.mono {L:Pool} {G G':List Int} (hG:∀t∈G,t∈G') {t:Int} (h:Seen L G t):Seen L G' t:=by
 induction h with
 | given hg=>exact .given (hG _ hg)
 | aris _ ha ih=>exact .aris ih ha
theorem Drv.mono {L:Pool} {K K':Int→Prop} (hK:∀t,K t→K' t) {t:Int} (h:Drv L K t):Drv L K' t:=by
 induction h with
 | seen h=>exact .seen (hK _ h)
 | free h=>exact .free h
 | pair h _ _ iha ihb=>exact .pair h iha ihb
 | hash h _ ih=>exact .hash h ih
 | sign h _ hf hk ih=>exact .sign h ih hf (hK _ hk)
structure Step where
 rule:Int
 a:Int
 b:Int
 t:Int
deriving DecidableEq
def ahead (i:Nat) (v:Int):Bool:=decide (0≤v) && decide (v<i)
def tAt (pre:List Step) (v:Int):Int:=(pre[v.toNat]?.map Step.t).getD 0
def gL (L:Pool) (r u t:Int):Bool :=
 if r=1 then (jD L u).kind == 4 && (jD L u).a == t else if r=2 then (jD L u).kind == 4 && (jD L u).b == t else zJ (jD L u).kind && (jD L u).a == t
def fol (L:Pool) (G:List Int) (pre:List Step) (s:Step):Bool :=
 if inP L s.t=false then false
 else if s.rule=0 then s.a == 0 && s.b == 0 && decide (s.t∈G)
 else if s.rule=1∨s.rule=2∨s.rule=3 then ahead pre.length s.a && s.b == 0 && gL L s.rule (tAt pre s.a) s.t
 else if s.rule=4 then s.a == 0 && s.b == 0 && qH (jD L s.t).kind
 else if s.rule=5 then
  if (jD L s.t).kind=4 then ahead pre.length s.a && ahead pre.length s.b && tAt pre s.a == (jD L s.t).a && tAt pre s.b == (jD L s.t).b
  else if (jD L s.t).kind=5 then ahead pre.length s.a && s.b == 0 && tAt pre s.a == (jD L s.t).a
  else if zJ (jD L s.t).kind=true then ahead pre.length s.a && ahead pre.length s.b && tAt pre s.a == (jD L s.t).a && (jD L (tAt pre s.b)).kind == 6 && (jD L (tAt pre s.b)).frm == kI (jD L s.t)
  else false
 else false
def gK (L:Pool) (G:List Int) (l:List Step):Nat→Nat→Option Nat
 | 0,_=>none
 | n+1,i=>match l[i]? with
  | none=>none
  | some s=>if fol L G (l.take i) s=true then gK L G l n (i+1) else some i
def yX (L:Pool) (G:List Int) (l:List Step) (goal:Int):Int×Int:=match gK L G l l.length 0 with
 | some i=>(80,i)
 | none=>if l.length=0∨tAt l ((l.length:Int) - 1)≠goal then (81,l.length) else (0,0)
theorem xH {L:Pool} {G:List Int} {l:List Step} (h:∀i (hi:i<l.length),fol L G (l.take i) l[i]=true):∀n i,gK L G l n i=none
 | 0,_=>rfl
 | n+1,i=>by
  rw [gK];cases hl:l[i]? with
  | none=>rfl
  | some s =>
   obtain ⟨hi,e⟩:=List.getElem?_eq_some_iff.1 hl
   have:=h i hi
   rw [e] at this
   simp only [this,if_true]
   exact xH h n (i+1)
end Go.Sp
namespace Go.Sp
theorem lT {α:Type} [DecidableEq α]:∀{l m:List α},l.Nodup→(∀x∈l,x∈m)→l.length≤m.length
 | [],m,_,_=>by simp
 | x :: l,m,hn,hs=>by
  have hx:=hs x (by simp);rw [List.nodup_cons] at hn;have:=lT (m:=m.erase x) hn.2 (fun y hy=>(List.mem_erase_of_ne (fun h=>hn.1 (by rw [← h];exact hy))).2 (hs y (List.mem_cons_of_mem _ hy)));rw [List.length_erase_of_mem hx] at this;have:=List.length_pos_of_mem hx;simp only [List.length_cons];omega
theorem kR {L:Pool} {l:List Int} (hn:l.Nodup) (hi:∀t∈l,inP L t=true):l.length≤L.length:=by
 have:=lT (m:=(List.range L.length).map fun i:Nat=>(i:Int)+1) hn (fun t ht=>by
  obtain ⟨i,h1,h2⟩:=tY (hi t ht);exact List.mem_map.2 ⟨i,List.mem_range.2 h1,h2.symm⟩)
 simpa using this
theorem WaysOk.few {L:Pool} {G:List Int} {S:List Way} (h:WaysOk L G S):S.length≤L.length:=by
 have:=kR h.nodup h.inp;rwa [zY] at this
theorem jAP {L:Pool} (h:Wf L) {t:Int} (ht:inP L t=true) (hk:(jD L t).kind=4):(inP L (jD L t).a=true∧(jD L t).a<t)∧(inP L (jD L t).b=true∧(jD L t).b<t):=by
 have:=(h.node ht).2.2.2.2.1;simp only [zB,hk,shapeOf] at this;exact ⟨this _ (by simp),this _ (by simp)⟩
theorem kids5 {L:Pool} (h:Wf L) {t:Int} (ht:inP L t=true) (hk:(jD L t).kind=5):inP L (jD L t).a=true∧(jD L t).a<t:=by
 have:=(h.node ht).2.2.2.2.1;simp only [zB,hk,shapeOf] at this;exact this _ (by simp)
theorem jDT {L:Pool} (h:Wf L) {t:Int} (ht:inP L t=true) (hk:zJ (jD L t).kind=true):inP L (jD L t).a=true∧(jD L t).a<t:=by
 have:=(h.node ht).2.2.2.2.1;simp only [zJ,Bool.or_eq_true,beq_iff_eq] at hk;rcases hk with (hk | hk) | hk <;> simp only [zB,hk,shapeOf] at this <;> exact this _ (by simp)
theorem zU.inp {L:Pool} (h:Wf L) {r u t:Int} (hu:inP L u=true) (ha:zU L r u t):inP L t=true∧t<u:=by
 rcases ha with ⟨_,hk,rfl⟩ | ⟨_,hk,rfl⟩ | ⟨_,hk,rfl⟩
 ·exact (jAP h hu hk).1
 ·exact (jAP h hu hk).2
 ·exact jDT h hu hk
def vS (S:List Way) (v:Way):List Way:=if v.t∈jG S then S else S++[v]
theorem kT (S:List Way) (v:Way):jG (S++[v])=jG S++[v.t]:=by simp [jG]
theorem vC (S:List Way) (v:Way):v.t∈jG (vS S v)∧∀t∈jG S,t∈jG (vS S v):=by
 unfold vS;split
 ·rename_i h;exact ⟨h,fun _ h=>h⟩
 ·rw [kT];exact ⟨by simp,fun t ht=>List.mem_append_left _ ht⟩
theorem qS (S:List Way) (v:Way):∃M,vS S v=S++M:=by
 unfold vS;split
 ·exact ⟨[],by simp⟩
 ·exact ⟨[v],rfl⟩
theorem WaysOk.add {L:Pool} {G:List Int} {S:List Way} (h:WaysOk L G S) {v:Way} (hi:inP L v.t=true) (hv:tK L G S v):WaysOk L G (vS S v):=by
 unfold vS;split
 ·exact h
 ·rename_i hn;exact h.snoc hn hi hv
end Go.Sp
end
section
open Go Go.SE
namespace Go.Proofs
open Tryz
attribute [local irreducible] Calls
def wayv (p:Int×Int):Value:=.agg #[.int .i64 p.1,.int .i64 p.2]
def jEB (S:List Sp.Way):List (Int×(Int×Int)):=S.map fun v=>(v.t,(v.rule,v.frm))
theorem uM (S:List Sp.Way):(jEB S).map Prod.fst=Sp.jG S:=by simp [jEB,Sp.jG]
theorem jBH (S:List Sp.Way) (v:Sp.Way):jEB (S++[v])=jEB S++[(v.t,(v.rule,v.frm))]:=by simp [jEB]
structure KnowS (w:World) (k p:Addr) (G:List Int) (S:List Sp.Way) (ks:List Int) (sg:Sl) (m:Nat) (sl:Sl):Prop where
 box:Box w k [.pointer (some p),sg.v,.map (some m),sl.v] 109
 giv:Rws w 30 1 sg (tmr G)
 seen:IMap wayv w m (jEB S)
 list:Rws w 30 1 sl (tmr ks)
 n1:m≠k.block
 n2:¬ sg.blk k.block
 n3:¬ sl.blk k.block
 n4:¬ sg.blk m
 n5:¬ sl.blk m
 n6:∀b,sg.blk b→¬ sl.blk b
def KF (k:Addr) (sg:Sl) (m:Nat) (sl:Sl) (b:Nat):Prop:=b=k.block∨sg.blk b∨b=m∨sl.blk b
def zD (w:World) (k p:Addr) (G:List Int) (S:List Sp.Way) (F:NP):Prop:=∃sg m sl,KnowS w k p G S (Sp.jG S) sg m sl∧∀b,F b↔KF k sg m sl b
section
variable {w w':World} {k p:Addr} {G:List Int} {S:List Sp.Way} {ks:List Int} {sg sl:Sl} {m:Nat} {F:NP}
theorem KnowS.ext {X:NP} (h:KnowS w k p G S ks sg m sl) (hE:Ext X w w') (hd:∀b,KF k sg m sl b→¬ X b):KnowS w' k p G S ks sg m sl :=
 ⟨h.box.ext hE (hd _ (.inl rfl)),h.giv.ext hE (fun b hb=>hd _ (.inr (.inl hb))),h.seen.ext hE (hd _ (.inr (.inr (.inl rfl)))),h.list.ext hE (fun b hb=>hd _ (.inr (.inr (.inr hb)))),h.n1,h.n2,h.n3,h.n4,h.n5,h.n6⟩
theorem KnowS.pure (h:KnowS w k p G S ks sg m sl) (hE:Pure w w'):KnowS w' k p G S ks sg m sl:=h.ext hE (fun _ _ h=>h)
theorem KnowS.lt (h:KnowS w k p G S ks sg m sl) {b:Nat} (hb:KF k sg m sl b):b<w.heap.size:=by
 rcases hb with rfl | hb | rfl | hb
 ·exact h.box.lt
 ·exact h.giv.lt hb
 ·exact h.seen.lt
 ·exact h.list.lt hb
theorem zD.ext {X:NP} (h:zD w k p G S F) (hE:Ext X w w') (hd:∀b,F b→¬ X b):zD w' k p G S F:=by
 obtain ⟨sg,m,sl,h,hF⟩:=h;exact ⟨sg,m,sl,h.ext hE (fun b hb=>hd b ((hF b).2 hb)),hF⟩
theorem zD.pure (h:zD w k p G S F) (hE:Pure w w'):zD w' k p G S F:=h.ext hE (fun _ _ h=>h)
theorem zD.lt (h:zD w k p G S F) {b:Nat} (hb:F b):b<w.heap.size:=by
 obtain ⟨sg,m,sl,h,hF⟩:=h;exact h.lt ((hF b).1 hb)
theorem KnowS.look (h:KnowS w k p G S ks sg m sl) (t:Int):∃r f:Int,(Instr.lookup 107 (.map (some m)) (.int .i64 t) true).run prog w=.ok (.tuple #[.agg #[.int .i64 r,.int .i64 f],.bool (decide (t∈Sp.jG S))]) w∧(t∈Sp.jG S→SE.look (jEB S) t=some (r,f)):=by
 rcases h.seen.get (P:=prog) (T:=107) underlying107 underlying30 (zeroValue113 _) t true with ⟨h1,h2⟩ | ⟨⟨r,f⟩,h1,h2⟩
 ·have hn:t ∉ Sp.jG S:=by have:=vI.1 h1;rwa [uM] at this
  exact ⟨0,0,by rw [decide_eq_false hn];exact h2,fun h=>absurd h hn⟩
 ·have hy : t ∈ Sp.jG S := by
   have:=qB h1;rw [← uM];exact List.mem_map.2 ⟨_,this,rfl⟩
  exact ⟨r,f,by rw [decide_eq_true hy];exact h2,fun _=>h1⟩
theorem KnowS.put (h:KnowS w k p G S ks sg m sl) {v:Sp.Way} (hn:v.t ∉ Sp.jG S):∃w',(Instr.mapUpdate 107 (.map (some m)) (.int .i64 v.t) (.agg #[.int .i64 v.rule,.int .i64 v.frm])).run prog w=.ok () w'∧KnowS w' k p G (S++[v]) ks sg m sl∧Ext (·=m) w w':=by
 obtain ⟨w',h1,h2,h3⟩:=h.seen.put (P:=prog) (T:=107) (K:=30) underlying107 underlying30 (k:=v.t) (vI.2 (by rw [uM];exact hn)) (v.rule,v.frm);exact ⟨w',h1,⟨h.box.ext h3 (fun e=>h.n1 e.symm),h.giv.ext h3 (fun b hb e=>h.n4 (e▸hb)),by rw [jBH];exact h2,h.list.ext h3 (fun b hb e=>h.n5 (e▸hb)),h.n1,h.n2,h.n3,h.n4,h.n5,h.n6⟩,h3⟩
theorem KnowS.app (h:KnowS w k p G S ks sg m sl) {t:Int} {q:Addr} {w1:World} (hq:New w (.cells #[.int .i64 t] 30) q w1) (hn:ks.length≤1000000):∃s1 w2,(Builtin.append_ #[52,52] 52 #[sl.v,(Sl.mk (some q) 1 1).v]).run prog w1=.ok s1.v w2∧Ext sl.blk w1 w2∧Box w2 k [.pointer (some p),sg.v,.map (some m),sl.v] 109 ∧
  KnowS (w2.setCell (k.add 3) s1.v) k p G S (ks++[t]) sg m s1∧Ext (KF k sg m sl) w (w2.setCell (k.add 3) s1.v)∧∀b,KF k sg m s1 b→KF k sg m sl b∨w.heap.size≤b:=by
 have E1:Pure w w1:=Ext.new hq
 have h1:=h.pure E1
 obtain ⟨s1,w2,hr,hR,hE,hb⟩:=h1.list.append (P:=prog) (ty:=52) (c:=1) qI (r:=[.int .i64 t]) (Box.of_new hq).row rfl rfl (by rw [jY];omega) (by rw [jY];simp [maxLen];omega)
 have hbx:=h1.box.ext hE h1.n3
 have hs1:∀b,s1.blk b→sl.blk b∨w.heap.size≤b:=fun b h=>(hb b h).imp_right (fun h=>by have:=E1.size;omega)
 have nk:¬ s1.blk k.block:=fun hh=>(hs1 _ hh).elim h.n3 (fun hh=>by have:=h.box.lt;omega)
 have nm:¬ s1.blk m:=fun hh=>(hs1 _ hh).elim h.n5 (fun hh=>by have:=h.seen.lt;omega)
 have E3:=Ext.setCell (w:=w2) (k.add 3) s1.v
 rw [jR] at E3
 refine ⟨s1,w2,hr,hE,hbx,⟨hbx.set 3 s1.v,((h1.giv.ext hE h.n6).ext E3 (fun b hb e=>h.n2 (e▸hb))),((h1.seen.ext hE h.n5).ext E3 h.n1),by rw [show tmr (ks++[t])=tmr ks++[[.int .i64 t]] by simp [tmr]];exact hR.ext E3 (fun b hb e=>nk (e▸hb)),h.n1,h.n2,nk,h.n4,nm,fun b h1 h2=>(hs1 b h2).elim (h.n6 b h1) (fun hh=>by have:=h.giv.lt h1;omega)⟩,?_,?_⟩
 ·exact ((E1.pure (F:=KF k sg m sl)).trans (hE.mono (fun b _ hb=>.inr (.inr (.inr hb))))).trans (E3.mono (fun b _ hb=>.inl hb))
 ·rintro b (hb | hb | hb | hb)
  ·exact .inl (.inl hb)
  ·exact .inl (.inr (.inl hb))
  ·exact .inl (.inr (.inr (.inl hb)))
  ·exact (hs1 b hb).imp_left (fun h=>.inr (.inr (.inr h)))
end
theorem oJ (p:Addr) (w0:World):Calls prog 20 #[.pointer (some p)] w0 (fun e w'=>∃r:Option Addr,e=.returned (.pointer r)∧∃k F,r=some k∧zD w' k p [] [] F∧Pure w0 w'∧∀b,F b→w0.heap.size≤b):=by
 refine w_V1 _ w0 (fun r w'=>∃k F,r=some k∧zD w' k p [] [] F∧Pure w0 w'∧∀b,F b→w0.heap.size≤b) ?_;unfold m_V1;refine Br.f rfl ?_;intro p2 w1 h1 p3 w2 h2;have E1:Pure w0 w1:=Ext.new h1;have E2:Pure w1 w2:=Ext.new h2;have hnil:∀b,¬ Sl.nil.blk b:=fun b hb=>by obtain ⟨a,h,_⟩:=hb;cases h
 refine ⟨p3,_,rfl,⟨Sl.nil,p2.block,Sl.nil,⟨Box.of_new h2,Rws.nil _ _ _,(IMap.of_new (f:=wayv) h1).pure E2,Rws.nil _ _ _,?_,hnil _,hnil _,hnil _,hnil _,fun b hb=>(hnil b hb).elim⟩,fun b=>Iff.rfl⟩,E1.trans E2,?_⟩
 ·have:=h1.at_size;have:=h2.at_size;have:=E1.size;have:=(IMap.of_new (f:=wayv) h1).lt;omega
 ·rintro b (rfl | hb | rfl | hb)
  ·have:=h2.at_size;have:=E1.size;omega
  ·exact (hnil b hb).elim
  ·have:=h1.at_size;omega
  ·exact (hnil b hb).elim
theorem qE (k p:Addr) (t:Int) (w0:World) {G:List Int} {S:List Sp.Way} {F:NP} (h:zD w0 k p G S F) :
  Calls prog 54 #[.pointer (some k),.int .i64 t] w0 (fun e w'=>∃r:Bool,e=.returned (.bool r)∧(r=decide (t∈Sp.jG S)∧Pure w0 w')):=by
 refine w_Y1 _ _ w0 (fun r w'=>r=decide (t∈Sp.jG S)∧Pure w0 w') ?_
 unfold m_Y1
 obtain ⟨sg,m,sl,h,hF⟩:=h
 obtain ⟨r,f,h1,_⟩:=h.look t
 exact Br.f rfl ⟨k,rfl,_,h.box.cell rfl,r,f,_,h1,fun H1 w2 hs=>⟨rfl,hs.first⟩⟩
theorem qQ (k p:Addr) (w0:World) {G:List Int} {S:List Sp.Way} {F:NP} (h:zD w0 k p G S F) (hn:G.length≤1000000) :
  Calls prog 55 #[.pointer (some k)] w0 (fun e w'=>∃r:Sl,e=.returned r.v∧RetO w0 30 1 (tmr G) r w'):=by
 refine w_Z1 _ w0 (fun r w'=>RetO w0 30 1 (tmr G) r w') ?_
 unfold m_Z1
 obtain ⟨sg,m,sl,h,hF⟩:=h
 refine Br.f rfl ⟨k,rfl,sg,h.box.cell rfl,?_⟩
 refine (gE sg G w0 h.giv.lst (fun hz=>?_) hn).mono ?_
 ·rcases h.giv.own with ⟨e,_⟩ | ⟨g,cur,ha,_⟩
  ·exact e
  ·rw [ha] at hz;cases hz
 ·rintro _ w1 ⟨r,rfl,hr⟩
  exact ⟨r,rfl,hr⟩
section
variable {w w':World} {k p:Addr} {G:List Int} {S:List Sp.Way} {F:NP}
theorem zD.hst {w0:World} {H H':NP} (h:zD w k p G S F) (hs:Hst w0 H w H' w') (hd:∀b,F b→¬ H b):zD w' k p G S F∧∀b,F b→¬ H' b:=by
 have hd':=hs.disj (G:=F) (fun b hb=>⟨h.lt hb,hd b hb⟩);exact ⟨h.ext hs.ext hd',hd'⟩
end
theorem qP (k p:Addr) (t rule u:Int) (c1 c2:Addr) (w0:World) {G:List Int} {S:List Sp.Way} {F:NP} (h:zD w0 k p G S F) (h1:w0.cell? c1=some (.pointer (some k))) (h2:w0.cell? c2=some (.int .i64 u)) (d1:¬ F c1.block) (d2:¬ F c2.block) (hn:S.length≤1000000) :
  Calls prog 97 #[.int .i64 t,.int .i64 rule,.pointer (some c1),.pointer (some c2)] w0 (fun e w'=>e=.returned (.tuple #[])∧∃F',zD w' k p G (Sp.vS S ⟨t,rule,u⟩) F'∧Ext F w0 w'∧∀b,F' b→F b∨w0.heap.size≤b):=by
 refine w_B2 _ _ _ _ w0 (fun w'=>∃F',zD w' k p G (Sp.vS S ⟨t,rule,u⟩) F'∧Ext F w0 w'∧∀b,F' b→F b∨w0.heap.size≤b) ?_
 unfold m_B2
 have hA:=h
 obtain ⟨sg,m,sl,h,hF⟩:=h
 obtain ⟨r,f,hl,_⟩:=h.look t
 refine ⟨_,h1,k,rfl,_,h.box.cell rfl,r,f,_,hl,fun hc=>?_,fun hc=>?_⟩
 ·have hnt:t ∉ Sp.jG S:=by simpa using hc
  have hadd:Sp.vS S ⟨t,rule,u⟩=S++[⟨t,rule,u⟩]:=if_neg hnt
  rw [hadd]
  intro H1 w2 hs2
  have E2:=hs2.first
  have hh:∀{b},b<w0.heap.size→¬ H1 b:=fun hb hx=>by have:=hs2.old _ hx;omega
  have E3:Pure w0 w2.drew:=E2.trans (Ext.drew w2)
  have D4:∀w4:World,Pure w4 w4.drew:=fun w4=>Ext.drew w4
  have c1lt:=World.block_lt_of_cell? w0 c1 h1
  refine ⟨fun w'=>KnowS w' k p G S (Sp.jG S) sg m sl∧w'.cell? c1=some (.pointer (some k))∧w'.cell? c2=some (.int .i64 u),⟨h.pure E3,E3.cell h1 (fun h=>h),E3.cell h2 (fun h=>h)⟩,?_⟩
  rintro _ rfl
  have h3:=h.pure E3
  refine ⟨_,fun w' h=>h.2.1,k,rfl,_,fun w' h=>h.1.box.cell rfl,_,fun w' h=>h.2.2,?_⟩
  obtain ⟨w4,hr4,h4,E4⟩:=h3.put (v:=⟨t,rule,u⟩) hnt
  refine ⟨w4,hr4,E4.kept (fun b hb e=>by subst e;exact hh (h.lt (.inr (.inr (.inl rfl)))) hb),?_⟩
  have c14:w4.cell? c1=some (.pointer (some k)):=E4.cell (E3.cell h1 (fun h=>h)) (fun e=>d1 ((hF _).2 (.inr (.inr (.inl e)))))
  have h5:=h4.pure (Ext.drew w4)
  refine ⟨fun w'=>w'.cell? c1=some (.pointer (some k))∧Box w' k [.pointer (some p),sg.v,.map (some m),sl.v] 109,⟨(D4 w4).cell c14 (fun h=>h),h5.box⟩,?_⟩
  rintro _ rfl
  refine ⟨_,fun w' h=>h.1,_,fun w' h=>h.1,k,rfl,sl,fun w' h=>h.2.cell rfl,?_⟩
  intro q w6 h6
  have E6:Pure w4.drew w6:=Ext.new h6
  refine ⟨⟨E6.cell ((D4 w4).cell c14 (fun h=>h)) (fun h=>h),h5.box.pure E6⟩,?_⟩
  obtain ⟨s1,w7,hr7,X7,b7,k7,E7,f7⟩:=h5.app h6 (by rw [Sp.zY];exact hn)
  have c17:w7.cell? c1=some (.pointer (some k)):=X7.cell (E6.cell ((D4 w4).cell c14 (fun h=>h)) (fun h=>h)) (fun hb=>d1 ((hF _).2 (.inr (.inr (.inr hb)))))
  refine ⟨s1,w7,hr7,⟨c17,b7⟩,X7.kept (fun b hb hx=>hh (h.lt (.inr (.inr (.inr hx)))) hb),k,rfl,b7.canW (by simp),by rw [jR];exact hh h.box.lt,?_⟩
  rintro _ rfl
  rw [← show Sp.jG (S++[⟨t,rule,u⟩])=Sp.jG S++[t] from Sp.kT S ⟨t,rule,u⟩] at k7
  have e4:w0.heap.size≤w4.drew.heap.size:=Nat.le_trans E3.size (Nat.le_trans E4.size (D4 w4).size)
  refine ⟨_,⟨sg,m,s1,k7,fun b=>Iff.rfl⟩,?_,fun b hb=>(f7 b hb).imp (hF b).2 (fun h=>by omega)⟩
  refine ((E3.pure (F:=F)).trans (E4.mono (fun b _ e=>(hF b).2 (.inr (.inr (.inl e)))))).trans (((Ext.drew w4:Pure w4 w4.drew).pure (F:=F)).trans (E7.mono (fun b _ hb=>(hF b).2 hb)))
 ·have hnt:t∈Sp.jG S:=by simpa using hc
  have hadd:Sp.vS S ⟨t,rule,u⟩=S:=if_pos hnt
  rw [hadd]
  intro H1 w2 hs2
  exact ⟨F,hA.pure hs2.first,hs2.first.pure,fun b hb=>.inl hb⟩
structure SeesAt (w0:World) (H:NP) (w:World) (k p p1:Addr) (L:Sp.Pool) (G:List Int) (S:List Sp.Way) (F F0 FP:NP):Prop where
 know:zD w k p G S F
 pool:jN w p L FP
 cap:w.cell? p1=some (.pointer (some k))
 ext:Ext F0 w0 w
 own:∀b,F b→F0 b∨w0.heap.size≤b
 h1:∀b,F b→¬ H b
 h2:∀b,FP b→¬ H b
 h3:¬ H p1.block
 d1:¬ F p1.block
 d2:∀b,F b→¬ FP b
section
variable {w0 w w':World} {H H':NP} {k p p1:Addr} {L:Sp.Pool} {G:List Int} {S S':List Sp.Way} {F F' F0 FP:NP}
theorem SeesAt.pure (h:SeesAt w0 H w k p p1 L G S F F0 FP) (E:Pure w w'):SeesAt w0 H w' k p p1 L G S F F0 FP :=
 ⟨h.know.pure E,h.pool.pure E,E.cell h.cap (fun h=>h),h.ext.thenPure E,h.own,h.h1,h.h2,h.h3,h.d1,h.d2⟩
theorem SeesAt.hst (h:SeesAt w0 H w k p p1 L G S F F0 FP) (hs:Hst w0 H w H' w'):SeesAt w0 H' w' k p p1 L G S F F0 FP:=by
 have x1:=hs.disj (G:=F) (fun b hb=>⟨h.know.lt hb,h.h1 b hb⟩);have x2:=hs.disj (G:=FP) (fun b hb=>⟨h.pool.lt hb,h.h2 b hb⟩);have x3:=hs.disj (G:=(·=p1.block)) (fun b hb=>by subst hb;exact ⟨World.block_lt_of_cell? w p1 h.cap,h.h3⟩) _ rfl;exact ⟨h.know.ext hs.ext x1,h.pool.ext hs.ext x2,hs.ext.cell h.cap x3,h.ext.trans' hs.ext (fun i hi hb=>by have:=hs.old i hb;omega),h.own,x1,x2,x3,h.d1,h.d2⟩
theorem SeesAt.fresh (h:SeesAt w0 H w k p p1 L G S F F0 FP) {q:Nat} (E:Ext (·=q) w w') (q1:¬ F q) (q2:¬ FP q) (q3:q≠p1.block) (q4:w0.heap.size≤q):SeesAt w0 H w' k p p1 L G S F F0 FP :=
 ⟨h.know.ext E (fun b hb e=>q1 (e▸hb)),h.pool.ext E (fun b hb e=>q2 (e▸hb)),E.cell h.cap (fun e=>q3 e.symm),h.ext.trans' E (fun i hi e=>by subst e;omega),h.own,h.h1,h.h2,h.h3,h.d1,h.d2⟩
theorem SeesAt.step (h:SeesAt w0 H w k p p1 L G S F F0 FP) (hH:∀b,H b→b<w.heap.size) (hK:zD w' k p G S' F') (E:Ext F w w') (hF:∀b,F' b→F b∨w.heap.size≤b):SeesAt w0 H w' k p p1 L G S' F' F0 FP:=by
 have hb:=h.ext.size;refine ⟨hK,h.pool.ext E (fun b hb hf=>h.d2 b hf hb),E.cell h.cap h.d1,h.ext.trans' E (fun i hi hf=>(h.own i hf).elim id (fun hh=>by omega)),fun b hb=>?_,fun b hb hh=>?_,h.h2,h.h3,fun hh=>?_,fun b hb hh=>?_⟩
 ·rcases hF b hb with h1 | h1
  ·exact h.own b h1
  ·right;omega
 ·rcases hF b hb with h1 | h1
  ·exact h.h1 b h1 hh
  ·have:=hH b hh;omega
 ·rcases hF _ hh with h1 | h1
  ·exact h.d1 h1
  ·have:=World.block_lt_of_cell? w p1 h.cap;omega
 ·rcases hF b hb with h1 | h1
  ·exact h.d2 b h1 hh
  ·have:=h.pool.lt hh;omega
end
theorem jAW (k p:Addr) (t rule frm:Int) (w0:World) {L:Sp.Pool} {G:List Int} {S:List Sp.Way} {F FP:NP} (h:zD w0 k p G S F) (hP:jN w0 p L FP) (hW:Sp.Wf L) (hd:∀b,F b→¬ FP b)
  (hwo:Sp.WaysOk L G S) (hcl:∀u∈Sp.jG S,Sp.gN L S u) (ht:Sp.inP L t=true) (hv:Sp.tK L G S ⟨t,rule,frm⟩) :
  Calls prog 59 #[.pointer (some k),.int .i64 t,.agg #[.int .i64 rule,.int .i64 frm]] w0 (fun e w'=>e=.returned (.tuple #[])∧∃S' F',zD w' k p G S' F'∧(Sp.WaysOk L G S'∧(∀u∈Sp.jG S',Sp.gN L S' u)∧t∈Sp.jG S'∧∀u∈Sp.jG S,u∈Sp.jG S')∧Ext F w0 w'∧∀b,F' b→F b∨w0.heap.size≤b):=by
 suffices key:∀K:WP,(∀S' F' w',zD w' k p G S' F'→(Sp.WaysOk L G S'∧(∀u∈Sp.jG S',Sp.gN L S' u)∧t∈Sp.jG S'∧∀u∈Sp.jG S,u∈Sp.jG S')→Ext F w0 w'→(∀b,F' b→F b∨w0.heap.size≤b)→K w')→m_N (some k) t rule frm w0 K from
  w_N _ _ _ _ w0 _ (key _ (fun S' F' w' a b c d=>⟨S',F',a,b,c,d⟩))
 intro K hK
 unfold m_N
 intro p1 w1 h1 H1 w2 hs2
 have hp1:=h1.at_size
 have E1:Pure w0 w1:=Ext.new h1
 have nF:∀{b},F b→b<w0.heap.size:=fun hb=>h.lt hb
 have nP:∀{b},FP b→b<w0.heap.size:=fun hb=>hP.lt hb
 have A1:SeesAt w0 None w1 k p p1 L G S F F FP:=⟨h.pure E1,hP.pure E1,(Box.of_new h1).cell0,E1.pure,fun b hb=>.inl hb,fun b _ h=>h,fun b _ h=>h,fun h=>h,fun hb=>by have:=nF hb;omega,hd⟩
 have A2:=A1.hst hs2
 obtain ⟨sg,m,sl,k2,hF2⟩:=A2.know
 obtain ⟨r,f,hl,_⟩:=k2.look t
 refine ⟨_,A2.cap,k,rfl,_,k2.box.cell rfl,r,f,_,hl,fun hc=>?_,fun hc=>?_⟩
 ·intro H2 w4 hs4
  have A4:=A2.hst hs4
  exact hK S F w4 A4.know ⟨hwo,hcl,by simpa using hc,fun _ h=>h⟩ A4.ext (fun b hb=>.inl hb)
 have hnt:t ∉ Sp.jG S:=by simpa using hc
 intro H2 w4 hs4
 have A4:=A2.hst hs4
 have k4:KnowS w4 k p G S (Sp.jG S) sg m sl:=k2.ext hs4.ext (fun b hb=>A4.h1 b ((hF2 b).2 hb))
 have D:∀w:World,Pure w w.drew:=fun w=>Ext.drew w
 refine ⟨fun w'=>w'.cell? p1=some (.pointer (some k))∧Box w' k [.pointer (some p),sg.v,.map (some m),sl.v] 109,⟨(A4.pure (D w4)).cap,(k4.pure (D w4)).box⟩,?_⟩
 rintro _ rfl
 have A5:=A4.pure (D w4)
 have k5:=k4.pure (D w4)
 have hs5:Hst w0 H2 w4.drew H2 w4.drew:=hs4.here.again (D w4).keptP
 refine ⟨_,fun w' h=>h.1,k,rfl,_,fun w' h=>h.2.cell rfl,?_⟩
 obtain ⟨w6,hr6,k6,E6⟩:=k5.put (v:=⟨t,rule,frm⟩) hnt
 have hm:¬ H2 m:=A5.h1 m ((hF2 m).2 (.inr (.inr (.inl rfl))))
 refine ⟨w6,hr6,E6.kept (fun b hb e=>hm (e▸hb)),?_⟩
 have c16:w6.cell? p1=some (.pointer (some k)):=E6.cell A5.cap (fun e=>A5.d1 ((hF2 _).2 (.inr (.inr (.inl e)))))
 refine ⟨_,c16,k,rfl,sl,k6.box.cell rfl,?_⟩
 have k7:=k6.pure (D w6)
 have c17:w6.drew.cell? p1=some (.pointer (some k)):=(D w6).cell c16 (fun h=>h)
 refine ⟨fun w'=>w'.cell? p1=some (.pointer (some k))∧Box w' k [.pointer (some p),sg.v,.map (some m),sl.v] 109,⟨c17,k7.box⟩,?_⟩
 rintro _ rfl
 refine ⟨_,fun w' h=>h.1,_,fun w' h=>h.1,k,rfl,sl,fun w' h=>h.2.cell rfl,?_⟩
 intro q w8 h8
 have E8:Pure w6.drew w8:=Ext.new h8
 refine ⟨⟨E8.cell c17 (fun h=>h),k7.box.pure E8⟩,?_⟩
 have hSn:S.length≤65536:=by have:=hwo.few;have:=hW.ok.few;omega
 obtain ⟨s1,w9,hr9,X9,b9,k9,E9,f9⟩:=k7.app h8 (by rw [Sp.zY];omega)
 have c19:w9.cell? p1=some (.pointer (some k)):=X9.cell (E8.cell c17 (fun h=>h)) (fun hb=>A5.d1 ((hF2 _).2 (.inr (.inr (.inr hb)))))
 have hH8:∀b,H2 b→b<w4.drew.heap.size:=hs5.lt
 refine ⟨s1,w9,hr9,⟨c19,b9⟩,X9.kept (fun b hb hx=>A5.h1 b ((hF2 b).2 (.inr (.inr (.inr hx)))) hb),k,rfl,b9.canW (by simp),by rw [jR];exact A5.h1 _ ((hF2 _).2 (.inl rfl)),?_⟩
 rintro _ rfl
 rw [← show Sp.jG (S++[⟨t,rule,frm⟩])=Sp.jG S++[t] from Sp.kT S ⟨t,rule,frm⟩] at k9
 have E59:Ext F w4.drew (w9.setCell (k.add 3) s1.v):=(E6.mono (fun b _ e=>(hF2 b).2 (.inr (.inr (.inl e))))).trans (((D w6).pure (F:=F)).trans (E9.mono (fun b _ hb=>(hF2 b).2 hb)))
 have z6:w4.drew.heap.size≤w6.drew.heap.size:=Nat.le_trans E6.size (D w6).size
 have A10:SeesAt w0 H2 (w9.setCell (k.add 3) s1.v) k p p1 L G (S++[⟨t,rule,frm⟩]) (KF k sg m s1) F FP:=A5.step hH8 ⟨sg,m,s1,k9,fun b=>Iff.rfl⟩ E59 (fun b hb=>(f9 b hb).imp (hF2 b).2 (fun h=>by omega))
 have hw1:Sp.WaysOk L G (S++[⟨t,rule,frm⟩]):=hwo.snoc hnt ht hv
 have hl2:sl.len=S.length:=by rw [k2.list.len,jY,Sp.zY]
 refine ⟨fun i H w'=>∃(j:Nat) (Sj:List Sp.Way) (Fj:NP),i=j∧j≤Sj.length∧SeesAt w0 H w' k p p1 L G Sj Fj F FP∧Sp.WaysOk L G Sj∧(∀u∈Sp.jG (Sj.take j),Sp.gN L Sj u)∧t∈Sp.jG Sj∧∀u∈Sp.jG S,u∈Sp.jG Sj,fun i _=>((L.length:Int) - i).toNat,
  ⟨S.length,_,_,by rw [hl2],by simp,A10,hw1,fun u hu=>by rw [List.take_left] at hu;exact (hcl u hu).snoc,by rw [Sp.kT];simp,fun u hu=>by rw [Sp.kT];exact List.mem_append_left _ hu⟩,?_⟩
 rintro _ Hl wl hl ⟨j,Sj,Fj,rfl,hj,A,hwj,hcj,htj,hSj⟩
 unfold m_N_l1
 obtain ⟨tg,mj,tl,kj,hFj⟩:=A.know
 have hlj:tl.len=Sj.length:=by rw [kj.list.len,jY,Sp.zY]
 refine ⟨_,A.cap,k,rfl,tl,kj.box.cell rfl,fun hc=>?_,fun hc=>?_⟩
 ·have hlt:=zO hlj hc
  obtain ⟨a8,at8,_,c8⟩:=gU kj.list.lst (j:=j) (by rw [Sp.zY];exact hlt)
  have hu:(Sp.jG Sj)[j]'(by rw [Sp.zY];exact hlt)=Sj[j].t:=by simp [Sp.jG]
  rw [hu] at c8
  have hum:Sj[j].t∈Sp.jG Sj:=List.mem_map.2 ⟨_,List.getElem_mem hlt,rfl⟩
  have hui:=hwj.inp _ hum
  have hLn:Sj.length≤L.length:=hwj.few
  have hL6:=hW.ok.few
  have htk:Sp.jG (Sj.take (j+1))=Sp.jG (Sj.take j)++[Sj[j].t]:=by rw [List.take_succ_eq_append_getElem hlt,Sp.kT]
  generalize Sj[j].t=u at *
  refine ⟨_,A.cap,k,rfl,tl,kj.box.cell rfl,a8,at8,u,c8,?_⟩
  intro p5 w11 h11
  have hp5:=h11.at_size
  have E11:Pure wl w11:=Ext.new h11
  have b5:=Box.of_new h11
  have hnh5:¬ Hl p5.block:=fun hh=>by have:=hl.lt _ hh;omega
  refine ⟨b5.canW0 (by simp),hnh5,?_⟩
  rintro _ rfl
  have b12:=b5.set0 (v:=.int .i64 u)
  have E12:=Ext.setCell (w:=w11) p5 (.int .i64 u)
  have wl0:=A.ext.size
  have n5:¬ Fj p5.block:=fun hh=>by have:=A.know.lt hh;omega
  have n5p:¬ FP p5.block:=fun hh=>by have:=A.pool.lt hh;omega
  have n51:p5.block≠p1.block:=fun hh=>by have:=World.block_lt_of_cell? wl p1 A.cap;omega
  have A12:SeesAt w0 Hl (w11.setCell p5 (.int .i64 u)) k p p1 L G Sj Fj F FP:=(A.pure E11).fresh E12 n5 n5p n51 (by omega)
  have k12:KnowS (w11.setCell p5 (.int .i64 u)) k p G Sj (Sp.jG Sj) tg mj tl:=(kj.pure E11).ext E12 (fun b hb e=>n5 (e▸(hFj b).2 hb))
  have hl12:Hst w0 Hl (w11.setCell p5 (.int .i64 u)) Hl (w11.setCell p5 (.int .i64 u)):=(hl.again E11.keptP).again (E12.kept (fun b hb e=>hnh5 (e▸hb)))
  generalize w11.setCell p5 (.int .i64 u)=w12 at *
  clear E11 E12 h11
  refine ⟨fun w'=>w'.cell? p1=some (.pointer (some k))∧Box w' k [.pointer (some p),tg.v,.map (some mj),tl.v] 109∧Box w' p5 [.int .i64 u] 30,⟨(A12.pure (D w12)).cap,(k12.pure (D w12)).box,b12.pure (D w12)⟩,?_⟩
  rintro _ rfl
  have A17:=A12.pure (D w12)
  have b17:=b12.pure (D w12)
  have k17:=k12.pure (D w12)
  have hs17:Hst w0 Hl w12.drew Hl w12.drew:=hl12.again (D w12).keptP
  generalize hn:Sp.jD L u=n at *
  have J2 : ∀ (a9 : Addr) (w : World), Hst w0 Hl w Hl w → SeesAt w0 Hl w k p p1 L G Sj Fj F FP → w.cell? p5 = some (.int .i64 u) → Row w a9 (qM n) → ¬ Fj a9.block → ¬ Hl a9.block →
    m_N_j2 p1 j p5 a9 w0 Hl w (fun y'0 H' w'=>(∃(j:Nat) (Sj:List Sp.Way) (Fj:NP),y'0=j∧j≤Sj.length∧SeesAt w0 H' w' k p p1 L G Sj Fj F FP∧Sp.WaysOk L G Sj∧(∀u∈Sp.jG (Sj.take j),Sp.gN L Sj u)∧t∈Sp.jG Sj∧∀u∈Sp.jG S,u∈Sp.jG Sj)∧((L.length:Int) - y'0).toNat<((L.length:Int) - (j:Int)).toNat) K:=by
   intro a9 w hs Aw c5 r9 n9 nh9
   have fin : ∀ (H' : NP) (w' : World) (S' : List Sp.Way) (F' : NP), SeesAt w0 H' w' k p p1 L G S' F' F FP → Sp.WaysOk L G S' → (∃ M, S' = Sj ++ M) → Sp.gN L S' u →
     ((∃(j':Nat) (Sj:List Sp.Way) (Fj:NP),IntKind.i64.wrap ((j:Int)+1)=j'∧j'≤Sj.length∧SeesAt w0 H' w' k p p1 L G Sj Fj F FP∧Sp.WaysOk L G Sj∧(∀u∈Sp.jG (Sj.take j'),Sp.gN L Sj u)∧t∈Sp.jG Sj∧∀u∈Sp.jG S,u∈Sp.jG Sj)∧((L.length:Int) - IntKind.i64.wrap ((j:Int)+1)).toNat<((L.length:Int) - (j:Int)).toNat):=by
    rintro H' w' S' F' A' hw' ⟨M,rfl⟩ hsh
    have hsub:∀x∈Sp.jG Sj,x∈Sp.jG (Sj++M):=fun x hx=>by unfold Sp.jG at hx ⊢;rw [List.map_append];exact List.mem_append_left _ hx
    rw [zL (n:=L.length) (by omega) (by omega)]
    refine ⟨⟨j+1,_,F',rfl,by rw [List.length_append];omega,A',hw',fun x hx=>?_,hsub t htj,fun x hx=>hsub x (hSj x hx)⟩,kZ (by omega)⟩
    rw [List.take_append_of_le_length (by omega),htk,List.mem_append,List.mem_singleton] at hx
    rcases hx with hx | rfl
    ·exact fun r y ha=>hsub y (hcj x hx r y ha)
    ·exact hsh
   unfold m_N_j2
   have ck:w.cell? a9=some (.int .i64 n.kind):=by simpa [Addr.add,qM] using r9 0 (by simp [qM])
   have ca:w.cell? (a9.add 5)=some (.int .i64 n.a):=r9 5 (by simp [qM])
   have cb:w.cell? (a9.add 6)=some (.int .i64 n.b):=r9 6 (by simp [qM])
   refine ⟨_,ck,fun hk=>?_,fun hk=>?_⟩
   ·have hk4:n.kind=4:=by simpa using hk
    have hkids:=Sp.jAP hW hui (by rw [hn];exact hk4)
    rw [hn] at hkids
    refine ⟨_,ca,?_⟩
    refine (qP k p n.a 1 u p1 p5 w Aw.know Aw.cap c5 Aw.d1 (fun hh=>n5 hh) (by omega)).mono ?_
    rintro _ w13 ⟨rfl,F1,K1,X1,f1⟩
    have A1:=Aw.step hs.lt K1 X1 f1
    have hs13:=hs.again (X1.kept (fun b hb hf=>Aw.h1 b hf hb))
    refine ⟨rfl,X1.kept (fun b hb hf=>Aw.h1 b hf hb),n.b,X1.cell cb (by rw [jR];exact n9),?_⟩
    have a1:Sp.zU L 1 u n.a:=.inl ⟨rfl,by rw [hn];exact hk4,by rw [hn]⟩
    have a2:Sp.zU L 2 u n.b:=.inr (.inl ⟨rfl,by rw [hn];exact hk4,by rw [hn]⟩)
    have hw1:=hwj.add (v:=⟨n.a,1,u⟩) hkids.1.1 (.inr ⟨by simp,a1,hum⟩)
    have u1:=(Sp.vC Sj ⟨n.a,1,u⟩).2 u hum
    have hw2:=hw1.add (v:=⟨n.b,2,u⟩) hkids.2.1 (.inr ⟨by simp,a2,u1⟩)
    have p5lt:=World.block_lt_of_cell? w p5 c5
    have m5:¬ F1 p5.block:=fun hh=>(f1 _ hh).elim n5 (fun hx=>by omega)
    refine (qP k p n.b 2 u p1 p5 w13 A1.know A1.cap (X1.cell c5 n5) A1.d1 m5 (by have:=hw1.few;omega)).mono ?_
    rintro _ w14 ⟨rfl,F2,K2,X2,f2⟩
    have A2:=A1.step hs13.lt K2 X2 f2
    refine ⟨rfl,X2.kept (fun b hb hf=>A1.h1 b hf hb),?_⟩
    refine fin Hl w14 _ F2 A2 hw2 ?_ ?_
    ·obtain ⟨M1,e1⟩:=Sp.qS Sj ⟨n.a,1,u⟩
     obtain ⟨M2,e2⟩:=Sp.qS (Sp.vS Sj ⟨n.a,1,u⟩) ⟨n.b,2,u⟩
     exact ⟨M1++M2,by rw [e2,e1,List.append_assoc]⟩
    ·rintro r y (⟨_,_,h3⟩ | ⟨_,_,h3⟩ | ⟨_,h2,_⟩)
     ·rw [hn] at h3;subst h3
      exact (Sp.vC _ ⟨n.b,2,u⟩).2 _ (Sp.vC Sj ⟨n.a,1,u⟩).1
     ·rw [hn] at h3;subst h3
      exact (Sp.vC _ ⟨n.b,2,u⟩).1
     ·rw [hn,hk4] at h2;cases h2
   ·have hk4:n.kind≠4:=by simpa using hk
    rintro y1 rfl
    have hy:(cond ((n.kind:Int) == 7) ((n.kind:Int) == 7) (cond ((n.kind:Int) == 8) ((n.kind:Int) == 8) ((n.kind:Int) == 9)))=Sp.zJ n.kind:=by
     unfold Sp.zJ;cases h7:(n.kind == 7) <;> cases h8:(n.kind == 8) <;> simp
    rw [hy]
    refine ⟨fun hs7=>?_,fun hs7=>?_⟩
    ·intro H3 w15 hs15
     have A15:=Aw.hst hs15
     have hkids:=Sp.jDT hW hui (by rw [hn];exact hs7)
     rw [hn] at hkids
     have r15:=jEW r9 nh9 hs15
     have ca15:w15.cell? (a9.add 5)=some (.int .i64 n.a):=r15 5 (by simp)
     have c515:=jDW c5 hnh5 hs15
     refine ⟨n.a,ca15,?_⟩
     refine (qP k p n.a 3 u p1 p5 w15 A15.know A15.cap c515 A15.d1 n5 (by omega)).mono ?_
     rintro _ w16 ⟨rfl,F1,K1,X1,f1⟩
     have A1:=A15.step hs15.lt K1 X1 f1
     refine ⟨rfl,X1.kept (fun b hb hf=>A15.h1 b hf hb),?_⟩
     have a3:Sp.zU L 3 u n.a:=.inr (.inr ⟨rfl,by rw [hn];exact hs7,by rw [hn]⟩)
     refine fin H3 w16 _ F1 A1 (hwj.add (v:=⟨n.a,3,u⟩) hkids.1 (.inr ⟨by simp,a3,hum⟩)) (Sp.qS Sj ⟨n.a,3,u⟩) ?_
     rintro r y (⟨_,h2,_⟩ | ⟨_,h2,_⟩ | ⟨_,_,h3⟩)
     ·rw [hn] at h2;exact absurd h2 hk4
     ·rw [hn] at h2;exact absurd h2 hk4
     ·rw [hn] at h3;subst h3
      exact (Sp.vC Sj ⟨n.a,3,u⟩).1
    ·intro H3 w15 hs15
     refine fin H3 w15 Sj Fj (Aw.hst hs15) hwj ⟨[],by simp⟩ ?_
     rintro r y (⟨_,h2,_⟩ | ⟨_,h2,_⟩ | ⟨_,h2,_⟩)
     ·rw [hn] at h2;exact absurd h2 hk4
     ·rw [hn] at h2;exact absurd h2 hk4
     ·rw [hn,hs7] at h2;cases h2
  refine ⟨_,fun w' h=>h.1,k,rfl,_,fun w' h=>h.2.1.cell0,_,fun w' h=>h.2.2.cell0,?_,?_⟩
  ·refine (uB p u w12.drew A17.pool hW.ok).mono ?_
   rintro _ w18 ⟨nk,nf,nt,nu,nx,na,nb,ok,rfl,⟨hnn,_⟩,E18⟩
   rw [hn] at hnn
   refine ⟨_,_,_,_,_,_,_,_,rfl,⟨(A17.pure E18).cap,k17.box.pure E18,b17.pure E18⟩,E18.keptP,?_⟩
   intro p6 w19 h19
   have hp6:=h19.at_size
   have E19:=E18.trans (Ext.new h19)
   have b6:=Box.of_new h19
   have z18:=E18.size
   have z12:wl.heap.size≤w12.drew.heap.size:=by have:=(b17.lt);omega
   have nh6:¬ Hl p6.block:=fun hh=>by have:=hl.lt _ hh;omega
   refine ⟨⟨(A17.pure E19).cap,k17.box.pure E19,b17.pure E19⟩,b6.canWs (n:=7) (by simp),nh6,?_⟩
   rintro _ rfl
   have E20:=Ext.storeRow w19 p6 [(.int .i64 nk),(.int .i64 nf),(.int .i64 nt),(.int .u64 nu),(.string nx),(.int .i64 na),(.int .i64 nb)]
   have b20:=b6.store (vs:=[(.int .i64 nk),(.int .i64 nf),(.int .i64 nt),(.int .u64 nu),(.string nx),(.int .i64 na),(.int .i64 nb)]) rfl
   have A19:=A17.pure E19
   have n6:¬ Fj p6.block:=fun hh=>by have:=A17.know.lt hh;omega
   have A20:=A19.fresh E20 n6 (fun hh=>by have:=A17.pool.lt hh;omega) (fun hh=>by have:=World.block_lt_of_cell? _ p1 A17.cap;omega) (by have:=A17.ext.size;omega)
   have k20:=(k17.box.pure E19).ext E20 (fun e=>by have:=k17.box.lt;omega)
   have b520:=(b17.pure E19).ext E20 (fun e=>by have:=b17.lt;omega)
   have hs20:Hst w0 Hl _ Hl _:=(hs17.again E19.keptP).again (E20.kept (fun b hb e=>nh6 (e▸hb)))
   exact ⟨⟨A20.cap,k20,b520⟩,J2 p6 _ hs20 A20 b520.cell0 (by rw [← hnn];exact b20.row) n6 nh6⟩
  ·intro p7 w21 h21
   have hp6:=h21.at_size
   have E21:Pure w12.drew w21:=Ext.new h21
   have b7:=Box.of_new h21
   refine ⟨⟨(A17.pure E21).cap,k17.box.pure E21,b17.pure E21⟩,?_⟩
   refine (uB p u w21 (A17.pure E21).pool hW.ok).mono ?_
   rintro _ w22 ⟨nk,nf,nt,nu,nx,na,nb,ok,rfl,⟨hnn,_⟩,E22⟩
   rw [hn] at hnn
   have E19:=E21.trans E22
   have z12:wl.heap.size≤w12.drew.heap.size:=by have:=(b17.lt);omega
   have nh6:¬ Hl p7.block:=fun hh=>by have:=hl.lt _ hh;omega
   have b6:=b7.pure E22
   refine ⟨_,_,_,_,_,_,_,_,rfl,⟨(A17.pure E19).cap,k17.box.pure E19,b17.pure E19⟩,E22.keptP,b6.canWs (n:=7) (by simp),nh6,?_⟩
   rintro _ rfl
   have E20:=Ext.storeRow w22 p7 [(.int .i64 nk),(.int .i64 nf),(.int .i64 nt),(.int .u64 nu),(.string nx),(.int .i64 na),(.int .i64 nb)]
   have b20:=b6.store (vs:=[(.int .i64 nk),(.int .i64 nf),(.int .i64 nt),(.int .u64 nu),(.string nx),(.int .i64 na),(.int .i64 nb)]) rfl
   have A19:=A17.pure E19
   have n6:¬ Fj p7.block:=fun hh=>by have:=A17.know.lt hh;omega
   have A20:=A19.fresh E20 n6 (fun hh=>by have:=A17.pool.lt hh;omega) (fun hh=>by have:=World.block_lt_of_cell? _ p1 A17.cap;omega) (by have:=A17.ext.size;omega)
   have k20:=(k17.box.pure E19).ext E20 (fun e=>by have:=k17.box.lt;omega)
   have b520:=(b17.pure E19).ext E20 (fun e=>by have:=b17.lt;omega)
   have hs20:Hst w0 Hl _ Hl _:=(hs17.again E19.keptP).again (E20.kept (fun b hb e=>nh6 (e▸hb)))
   exact ⟨⟨A20.cap,k20,b520⟩,J2 p7 _ hs20 A20 b520.cell0 (by rw [← hnn];exact b20.row) n6 nh6⟩
 ·have hge:=kA hlj hj hc
  subst hge
  rw [List.take_length] at hcj
  exact hK Sj Fj wl A.know ⟨hwj,hcj,htj,hSj⟩ A.ext A.own
theorem jDL (p:Addr) (k:Int) (w:World) (hk:k=0∨k=1∨k=2):(Instr.sliceAt 52 (Sl.mk (some p) 2 2).v .none (some (.int .i64 k)) .none).run prog w=.ok (Sl.mk (some p) k.toNat 2).v w:=by
 rcases hk with rfl | rfl | rfl <;> kernel_rfl
theorem jFF (p:Addr) (k f t u:Int) (x:ByteArray) (a b:Int) (w:World) {L:Sp.Pool} {F:NP} (hP:jN w p L F) (hok:Sp.Ok L) :
  Calls prog 102 #[.pointer (some p),.agg #[.int .i64 k,.int .i64 f,.int .i64 t,.int .u64 u,.string x,.int .i64 a,.int .i64 b]] w
   (fun e w'=>∃r1:Int,∃r2:Int,∃r3:Int,e=.returned (.tuple #[.int .i64 r1,.int .i64 r2,.int .i64 r3])∧((r1,r2,r3)=Sp.check L ⟨k,f,t,u,x,a,b⟩∧Pure w w')):=by
 suffices key:∀K:Int→Int→Int→WP,(∀r1 r2 r3 w',(r1,r2,r3)=Sp.check L ⟨k,f,t,u,x,a,b⟩∧Pure w w'→K r1 r2 r3 w')→m_E (some p) k f t u x a b w K from
  w_E _ _ _ _ _ _ _ _ w _ (key _ (fun _ _ _ _ h=>h))
 intro K hK
 unfold m_E
 intro p2 w1 h1
 have b1:=Box.of_new h1
 have E1:Pure w w1:=Ext.new h1
 refine ⟨_,_,_,_,_,_,_,b1.row,?_⟩
 refine (jCS _ _ _ _ _ _ _ _).mono ?_
 rintro _ w2 ⟨s1,s2,s3,s4,s5,pe,rfl,⟨hs,hpe⟩,E2⟩
 refine ⟨_,_,_,_,_,_,rfl,?_⟩
 intro p3 w3 h3
 have b2:=(b1.pure E2).pure (Ext.new h3)
 have n23:p2.block≠p3.block:=New.ne h3 (b1.pure E2).blk
 have E3:Pure w w3:=(E1.trans E2).trans (Ext.new h3)
 have o3:=New.own (E1.trans E2) h3
 refine bx 5 (Box.of_new h3) rfl rfl (fun w4 b3 E=>?_)
 have b2:=b2.ext E n23
 have E4:Pure w w4:=E3.own o3 E
 clear E E3 E2 E1 b1 h1 h3
 have hsh:Sp.shapeOf k=⟨s1,s2,s3,s4,s5⟩:=hs.symm
 have hk5:s5=0∨s5=1∨s5=2:=by have:=Sp.lB k;rw [hsh] at this;exact this
 generalize hn:(⟨k,f,t,u,x,a,b⟩:Sp.Node)=n at *
 have hnk:n.kind=k:=by rw [← hn]
 have hna:n.a=a:=by rw [← hn]
 have hnb:n.b=b:=by rw [← hn]
 have J2:∀e2 w',Pure w4 w'→(e2≠0→Sp.check L n=(0,0,e2))→(e2=0→pe=0∧((decide (s5<1) && a != 0) || (decide (s5<2) && b != 0))=false∧Sp.jU ⟨s1,s2,s3,s4,s5⟩ n=0)→m_E_j2 (some p) p2 p3 e2 w' K:=by
  intro e2 w' E' hne heq;have b2:=b2.pure E';have b3:=b3.pure E';have E5:=E4.trans E';have hP':=hP.pure E5;unfold m_E_j2;refine ⟨fun h=>hK _ _ _ _ ⟨(hne (by simpa using h)).symm,E5⟩,fun h=>⟨_,b2.cell rfl,_,b2.cell rfl,?_⟩⟩;intro p4 w5 h5;obtain ⟨hp0,hc0,hf0⟩:=heq (by simpa using h);have b4:=Box.of_new h5;have E6:=E5.trans (Ext.new h5);have hP6:=hP.pure E6;refine ⟨_,(b3.pure (Ext.new h5)).cell rfl,_,jDL p4 s5 w5 hk5,?_⟩;have hks:Sp.zB n=[a,b].take s5.toNat:=by simp [Sp.zB,hnk,hsh,hna,hnb]
  have hlen:(Sp.zB n).length=s5.toNat:=by rw [hks];rcases hk5 with rfl | rfl | rfl <;> rfl
  have hget:∀j (hj:j<(Sp.zB n).length),w5.cell? (p4.add (j*1))=some (.int .i64 (Sp.zB n)[j]):=by
   intro j hj;have hj2:j<s5.toNat:=by omega
   have:(Sp.zB n)[j]=[a,b][j]'(by simp;omega):=by simp only [hks,List.getElem_take]
   rw [this,Nat.mul_one];refine b4.cell ?_;have h2:j=0∨j=1:=by omega
   rcases h2 with rfl | rfl <;> rfl
  have hrest:Sp.check L n=if (Sp.zB n).any (fun t=>!Sp.inP L t) then (0,0,51) else if 1+((Sp.zB n).map (Sp.sizeOf L)).sum>4096∨(Sp.zB n).foldl (fun d t=>max d (Sp.depthOf L t)) 0+1>64 then (0,0,52) else (1+((Sp.zB n).map (Sp.sizeOf L)).sum,(Sp.zB n).foldl (fun d t=>max d (Sp.depthOf L t)) 0+1,0):=by
   unfold Sp.check;simp only [hnk,hsh,hna,hnb,← hpe,hp0,hc0,hf0];simp
  generalize hkk:Sp.zB n=ks at *;have hl2:ks.length≤2:=by omega
  have hsum:∀j,0≤((ks.take j).map (Sp.sizeOf L)).sum∧((ks.take j).map (Sp.sizeOf L)).sum≤4096*(ks.take j).length:=by
   intro j;generalize ks.take j=l;induction l with
   | nil=>simp
   | cons y l ih=>have:=hok.sizeOf y;simp only [List.map_cons,List.sum_cons,List.length_cons];omega
  have hdep:∀(l:List Int) (d:Int),0≤d→d≤64→0≤l.foldl (fun d t=>max d (Sp.depthOf L t)) d∧l.foldl (fun d t=>max d (Sp.depthOf L t)) d≤64:=by
   intro l;induction l with
   | nil=>intro d h1 h2;exact ⟨h1,h2⟩
   | cons y l ih=>intro d h1 h2;have:=hok.depthOf y;exact ih (max d (Sp.depthOf L y)) (by omega) (by omega)
  refine ⟨fun sz d x w'=>∃j:Nat,x=j∧j≤ks.length∧sz=1+((ks.take j).map (Sp.sizeOf L)).sum∧d=(ks.take j).foldl (fun d t=>max d (Sp.depthOf L t)) 0∧(ks.take j).any (fun t=>!Sp.inP L t)=false∧w5=w',fun _ _ x _=>(2 - x).toNat,⟨0,rfl,Nat.zero_le _,by simp,by simp,by simp,rfl⟩,?_⟩;rintro sz d _ _ ⟨j,rfl,hj,rfl,rfl,hin,rfl⟩;unfold m_E_l3;have hs1:=hsum j;have hd1:=hdep (ks.take j) 0 (by omega) (by omega);have htl:(ks.take j).length≤2:=by rw [List.length_take];omega
  refine ⟨fun h=>?_,fun h=>?_⟩
  ·have hlt:j<ks.length:=by have h:=of_decide_eq_true h;simp only at h;omega
   refine ⟨p4.add (j*1),⟨by omega,of_decide_eq_true h,p4,rfl,by simp⟩,ks[j],hget j hlt,?_⟩;have htk:ks.take (j+1)=ks.take j++[ks[j]]:=List.take_succ_eq_append_getElem hlt;refine (c_in p _ w5 hP6).mono ?_;rintro _ _ ⟨_,rfl,rfl,rfl⟩;refine ⟨_,rfl,fun h=>?_,fun h=>?_⟩
   ·refine hK _ _ _ _ ⟨?_,E6⟩;rw [hrest,if_pos];exact List.any_eq_true.2 ⟨ks[j],List.getElem_mem hlt,h⟩
   ·refine (c_Size p _ w5 hP6 hok).mono ?_;rintro _ _ ⟨_,rfl,rfl,rfl⟩;refine ⟨_,rfl,?_⟩;refine (jFG p _ w5 hP6 hok).mono ?_;rintro _ _ ⟨_,rfl,rfl,rfl⟩;refine ⟨_,rfl,_,run_max_int2 _ _ _ _ _ _ _,⟨j+1,?_,hlt,?_,?_,?_,rfl⟩,?_⟩
    ·rw [i64 (by omega) (by omega)];omega
    ·have:=hok.sizeOf ks[j];rw [i64 (by omega) (by omega),htk,List.map_append,List.sum_append];simp only [List.map_cons,List.map_nil,List.sum_cons,List.sum_nil];omega
    ·rw [htk,List.foldl_append];simp only [List.foldl_cons,List.foldl_nil];split <;> omega
    ·rw [htk,List.any_append,hin];simpa using h
    ·show (2 - IntKind.i64.wrap ((j:Int)+1)).toNat<(2 - (j:Int)).toNat;rw [i64 (by omega) (by omega)];omega
  ·have hge:j=ks.length:=by have h:=of_decide_eq_false h;simp only at h;omega
   subst hge;rw [List.take_length] at hs1 hd1 hin ⊢;have hlt:(ks.length:Int)≤2:=by omega
   refine ⟨fun h=>hK _ _ _ _ ⟨?_,E6⟩,fun h=>?_⟩
   ·rw [hrest,hin,if_neg (by simp),if_pos (.inl (by simpa using h))]
   ·rw [i64 (by omega) (by omega)];refine ⟨fun h'=>hK _ _ _ _ ⟨?_,E6⟩,fun h'=>hK _ _ _ _ ⟨?_,E6⟩⟩
    ·rw [hrest,hin,if_neg (by simp),if_pos (.inr (by simpa using h'))]
    ·rw [hrest,hin,if_neg (by simp),if_neg (by simp at h h';omega)]
 have J1:∀e1,(e1≠0→Sp.check L n=(0,0,e1))→(e1=0→pe=0∧((decide (s5<1) && a != 0) || (decide (s5<2) && b != 0))=false)→m_E_j1 (some p) p2 p3 e1 w4 K:=by
  intro e1 hne heq;unfold m_E_j1;refine ⟨fun h=>⟨_,_,_,_,_,b3.row,_,_,_,_,_,_,_,b2.row,?_⟩,fun h=>J2 _ _ (Ext.refl _) hne (fun e=>by rw [e] at h;cases h)⟩;obtain ⟨hp0,hc0⟩:=heq (by simpa using h);refine (jAD _ _ _ _ _ _ _ _ _ _ _ _ _).mono ?_;rintro _ w9 ⟨_,rfl,rfl,E9⟩;rw [hn];refine ⟨_,rfl,J2 _ _ E9 (fun hf=>?_) (fun hf=>⟨hp0,hc0,hf⟩)⟩;unfold Sp.check;simp only [hnk,hsh,hna,hnb,← hpe,hp0,hc0];simp [hf]
 have J53:pe=0→((decide (s5<1) && a != 0) || (decide (s5<2) && b != 0))=true→m_E_j1 (some p) p2 p3 53 w4 K:=fun hp0 hc=>J1 53 (fun _=>by
  unfold Sp.check;simp only [hnk,hsh,hna,hnb,← hpe,hp0,hc];simp) (fun e=>by cases e)
 have Jpe:pe≠0→m_E_j1 (some p) p2 p3 pe w4 K:=fun hp=>J1 pe (fun _=>by
  unfold Sp.check;simp only [← hpe];rw [if_pos hp]) (fun e=>absurd e hp)
 have J5:∀x2 x3,x2=(decide (s5<1) && a != 0)→x3=(decide (s5<2) && b != 0)→m_E_j5 (some p) p2 pe p3 x2 x3 w4 K:=by
  intro x2 x3 h2 h3;unfold m_E_j5;refine ⟨fun h=>⟨fun hx=>J53 (by simpa using h) (by rw [← h2,hx];rfl),fun hx=>⟨fun hy=>J53 (by simpa using h) (by rw [← h2,← h3,hy];simp),fun hy=>J1 pe (fun e=>absurd (by simpa using h) e) (fun e=>⟨e,by rw [← h2,← h3,hx,hy];rfl⟩)⟩⟩,fun h=>Jpe (by simpa using h)⟩
 have J4:∀x2,x2=(decide (s5<1) && a != 0)→m_E_j4 (some p) p2 pe p3 x2 w4 K:=by
  intro x2 h2;unfold m_E_j4;refine ⟨fun h=>⟨fun hx=>J53 (by simpa using h) (by rw [← h2,hx];rfl),fun hx=>⟨_,b3.cell rfl,fun h5=>⟨_,b2.cell rfl,J5 _ _ h2 (by rw [h5];rfl)⟩,fun h5=>J5 _ _ h2 (by rw [h5];rfl)⟩⟩,fun h=>Jpe (by simpa using h)⟩
 exact ⟨fun h=>⟨_,b3.cell rfl,fun h5=>⟨_,b2.cell rfl,J4 _ (by rw [h5];rfl)⟩,fun h5=>J4 _ (by rw [h5];rfl)⟩,fun h=>Jpe (by simpa using h)⟩
def oO (v:Value):Prop:=∃n,v=uE n
theorem xZ {n n':Sp.Node}:uE n=uE n'↔n=n':=by
 constructor
 ·intro h;cases n;cases n';simp [uE,qM] at h;simp [h]
 ·rintro rfl;rfl
theorem xW (n:Sp.Node):Instr.sameBits 10000 (uE n) (uE n)=true:=by
 have h:∀d,Instr.sameBits (d+1) (uE n) (uE n)=true:=fun d=>by
  have e:(n.text == n.text)=true:=by rw [beq_toListBytes];simp
  cases d <;> simp [Instr.sameBits,uE,qM,e]
 exact h 9999
theorem qC:KeyOK prog 86 oO:=by
 refine KeyOK.of_struct underlying86 ?_ ?_ ?_
 ·rintro _ ⟨n,rfl⟩ em w;kernel_rfl
 ·rintro _ _ w ⟨n,rfl⟩ ⟨n',rfl⟩;refine ⟨decide (n=n'),?_,by simp only [xZ,decide_eq_true_eq];exact eq_comm⟩;obtain ⟨k,f,t,u,x,a,b⟩:=n;obtain ⟨k',f',t',u',x',a',b'⟩:=n';simp [Op.equal,Op.maxDepth,go_sem,jBN,uE,qM]
  repeat' split
  all_goals simp_all
 ·rintro _ ⟨n,rfl⟩;exact xW n
theorem uS:SlType prog 91 147 9 (16*5):=by
 refine ⟨underlying91,⟨t147,_,by kernel_rfl,(by kernel_rfl:t147.zero=some (.agg #[.int .i64 0,.int .i64 0,.int .i64 0,.int .u64 0,.string ⟨#[]⟩,.int .i64 0,.int .i64 0,.int .i64 0,.int .i64 0])),by kernel_rfl,by kernel_rfl,rfl⟩,by omega⟩
theorem tW {L:Sp.Pool} {i:Nat} {n:Sp.Node} {v:Value} (h:(vM L)[i]?=some (uE n,v)):∃e,L[i]?=some e∧e.node=n∧v=.int .i64 (i+1:Nat):=by
 simp only [vM,List.getElem?_map,List.getElem?_zipIdx,Option.map_map,Option.map_eq_some_iff] at h;obtain ⟨e,he,h⟩:=h;simp only [Function.comp,Prod.mk.injEq] at h;exact ⟨e,he,xZ.1 h.1,by rw [← h.2];simp⟩
theorem tV {L:Sp.Pool} {n:Sp.Node} (h:∀q∈vM L,q.1≠uE n):∀e∈L,e.node≠n:=by
 intro e he hn;obtain ⟨i,hi,rfl⟩:=List.mem_iff_getElem.1 he;refine h (uE L[i].node,.int .i64 (i+1:Nat)) ?_ (by rw [hn]);exact List.mem_map.2 ⟨(L[i],i),by rw [List.mem_zipIdx_iff_getElem?];simp [hi],rfl⟩
theorem qU {L:Sp.Pool}:∀q∈vM L,oO q.1:=by
 intro q hq;obtain ⟨x,_,rfl⟩:=List.mem_map.1 hq;exact ⟨_,rfl⟩
theorem jBY (L:Sp.Pool) (e:Sp.Ent):vM (L++[e])=vM L++[(uE e.node,.int .i64 (L.length+1:Nat))]:=by
 simp [vM,List.zipIdx_append]
theorem jCK {L:Sp.Pool} (hok:Sp.Ok L) {i:Nat} {e:Sp.Ent} (h:L[i]?=some e):Sp.find L e.node=some i:=by
 obtain ⟨hi,rfl⟩:=List.getElem?_eq_some_iff.1 h;unfold Sp.find;rw [List.findIdx?_eq_some_iff_getElem];refine ⟨hi,by simp,fun j hj=>?_⟩;have hnd:=hok.nodup;simp only [decide_eq_true_eq];intro e;exact List.pairwise_iff_getElem.1 hnd j i (by simp;omega) (by simpa using hi) hj (by simpa using e)
theorem gC {L:Sp.Pool} {n:Sp.Node} (h:∀e∈L,e.node≠n):Sp.find L n=none:=by
 unfold Sp.find;rw [List.findIdx?_eq_none_iff];intro e he;simpa using h e he
theorem gI (p:Addr) (k f t u:Int) (x:ByteArray) (a b:Int) (w:World) {L:Sp.Pool} {F:NP} (hP:jN w p L F) (hok:Sp.Ok L) :
  Calls prog 66 #[.pointer (some p),.agg #[.int .i64 k,.int .i64 f,.int .i64 t,.int .u64 u,.string x,.int .i64 a,.int .i64 b]] w
   (fun e w'=>∃r1:Int,∃r2:Int,e=.returned (.tuple #[.int .i64 r1,.int .i64 r2])∧((r1,r2)=((Sp.make L ⟨k,f,t,u,x,a,b⟩).1,(Sp.make L ⟨k,f,t,u,x,a,b⟩).2.1)∧∃F',jN w' p (Sp.make L ⟨k,f,t,u,x,a,b⟩).2.2 F'∧Ext F w w'∧∀b,F' b→F b∨w.heap.size≤b)):=by
 suffices key:∀K:Int→Int→WP,(∀r1 r2 w',((r1,r2)=((Sp.make L ⟨k,f,t,u,x,a,b⟩).1,(Sp.make L ⟨k,f,t,u,x,a,b⟩).2.1)∧∃F',jN w' p (Sp.make L ⟨k,f,t,u,x,a,b⟩).2.2 F'∧Ext F w w'∧∀b,F' b→F b∨w.heap.size≤b)→K r1 r2 w')→m_P1 (some p) k f t u x a b w K from
  w_P1 _ _ _ _ _ _ _ _ w _ (key _ (fun _ _ _ h=>h))
 intro K hK
 unfold m_P1
 intro p2 w1 h1
 have b1:=Box.of_new h1
 have E1:Pure w w1:=Ext.new h1
 have o2:¬ F p2.block:=fun h=>by have:=hP.lt h;have:=h1.at_size;omega
 refine Br.f rfl ⟨_,_,_,_,_,_,_,b1.row,?_⟩
 refine (jFF p k f t u x a b w1 (hP.pure E1) hok).mono ?_
 rintro _ w2 ⟨sz,dp,er,rfl,hck,E2⟩
 refine ⟨_,_,_,rfl,?_⟩
 generalize hn:(⟨k,f,t,u,x,a,b⟩:Sp.Node)=n at *
 have E3:Pure w w2:=E1.trans E2
 have oQ:∀w',Pure w w'→∃F',jN w' p L F'∧Ext F w w'∧∀b,F' b→F b∨w.heap.size≤b:=fun w' E=>⟨F,hP.pure E,E.pure,fun _ h=>.inl h⟩
 refine ⟨fun h=>hK _ _ _ ?_,fun h=>?_⟩
 ·have he:er≠0:=by simpa using h
  have:Sp.make L n=(0,er,L):=by unfold Sp.make;simp [← hck,he]
  rw [this];exact ⟨rfl,oQ _ E3⟩
 ·have he:er=0:=by simpa using h
  subst he
  intro w3 hw3
  have E4:Pure w w3:=by rw [hw3];exact E3.trans (Ext.drew w2)
  have b3:=(b1.pure E2).pure (show Pure w2 w3 by rw [hw3];exact Ext.drew w2)
  clear hw3
  obtain ⟨s,m,hS,hF⟩:=hP.pure E4
  refine ⟨p,rfl,_,hS.box.cell (i:=1) rfl,_,_,_,_,_,_,_,b3.row,?_⟩
  have hkey:(Value.agg #[.int .i64 k,.int .i64 f,.int .i64 t,.int .u64 u,.string x,.int .i64 a,.int .i64 b])=uE n:=by rw [← hn];rfl
  rw [hkey]
  rcases hS.map.lookup (P:=prog) (T:=92) (E:=30) underlying92 qC qU ⟨n,rfl⟩ (zeroValue30 _) true with ⟨hnot,hrun⟩ | ⟨i,v,hi,hrun⟩
  ·refine ⟨_,_,hrun,Br.f rfl ⟨p,rfl,s,hS.box.cell0,?_⟩⟩
   have hno:=tV hnot
   have hfn:=gC hno
   have hlen:(s.len:Int)=L.length:=by rw [hS.rows.len];simp
   refine ⟨fun h=>hK _ _ _ ?_,fun h=>?_⟩
   ·have h2:65536≤L.length:=by have h:=of_decide_eq_true h;omega
    have:Sp.make L n=(0,6,L):=by unfold Sp.make;simp [← hck,hfn,h2]
    rw [this];exact ⟨rfl,oQ _ E4⟩
   ·have h2:¬ 65536≤L.length:=by have h:=of_decide_eq_false h;omega
    have hmk:Sp.make L n=((L.length:Int)+1,0,L++[⟨n,sz,dp⟩]):=by unfold Sp.make;simp [← hck,hfn,h2]
    refine ⟨fun w'=>w'.cell? p=some s.v∧Row w' p2 (qM n),⟨?_,?_⟩,?_⟩
    ·exact Ext.cell (F:=None) (Ext.drew w3) hS.box.cell0 id
    ·rw [← hn];exact Ext.row (F:=None) (Ext.drew w3) b3.row id
    intro w4 hw4
    have E5:Pure w3 w4:=by rw [hw4];exact Ext.drew w3
    clear hw4
    have hS4:PoolS w4 p L s m:=by
     exact ⟨hS.box.pure E5,hS.rows.pure E5,hS.map.ext E5 id,hS.n1,hS.n2,hS.n3⟩
    have b4:=b3.pure E5
    refine ⟨p,rfl,s,fun w' h=>h.1,k,f,t,u,x,a,b,fun w' h=>by have:=h.2;rw [← hn] at this;exact this,?_⟩
    intro p3 w5 h5
    have E6:Pure w4 w5:=Ext.new h5
    have o3:w.heap.size≤p3.block:=New.own (E4.trans E5) h5
    have b5:=Box.of_new h5
    have hrows5:=hS4.rows.pure E6
    have hbox5:=hS4.box.pure E6
    have hmap5:CMap w5 m (vM L):=hS4.map.ext E6 id
    have b45:=b4.pure E6
    have hrow:Row w5 p3 (jBB ⟨n,sz,dp⟩):=by rw [← hn];exact b5.row
    refine ⟨⟨hbox5.cell0,by rw [← hn];exact b45.row⟩,?_⟩
    obtain ⟨s1,w6,hr6,hrows6,E7,hb6⟩:=hrows5.append (P:=prog) (ty:=91) uS (c:=1) hrow (by simp [jBB,qM]) (by simp [jBB,qM,zN]) (by simp;omega) (by simp [maxLen];omega)
    have nb:∀b,s.blk b→b≠p2.block:=fun b hb e=>o2 (by rw [← e];exact (hF b).2 (.inr (.inl hb)))
    have hbox6:=hbox5.ext E7 hS.n2
    have hmap6:=hmap5.ext E7 hS.n3
    have b6:=b45.ext E7 (fun h=>nb _ h rfl)
    refine ⟨s1,w6,hr6,⟨hbox6.cell0,by rw [← hn];exact b6.row⟩,p,rfl,hbox6.canW0 (by simp),?_⟩
    intro w7 hw7
    have hbox7:Box w7 p [s1.v,.map (some m)] 94:=by rw [hw7];exact hbox6.set0
    have E8:Ext (·=p.block) w6 w7:=by rw [hw7];exact Ext.setCell p _
    clear hw7
    have hs1p:¬ s1.blk p.block:=fun h=>(hb6 _ h).elim hS.n2 (fun h=>by have:=hbox5.lt;omega)
    have hs1m:¬ s1.blk m:=fun h=>(hb6 _ h).elim hS.n3 (fun h=>by have:=hmap5.lt;omega)
    have hrows7:=hrows6.ext E8 (fun b hb e=>hs1p (by rw [← e];exact hb))
    have hmap7:=hmap6.ext E8 hS.n1
    have b7:=b6.ext E8 (fun e=>o2 (by rw [e];exact (hF _).2 (.inl rfl)))
    have hl1:(s1.len:Int)=L.length+1:=by rw [hrows6.len];simp
    refine ⟨p,rfl,s1,hbox7.cell0,?_⟩
    refine ⟨fun w'=>w'.cell? (p.add 1)=some (.map (some m))∧Row w' p2 (qM n),⟨?_,?_⟩,?_⟩
    ·exact Ext.cell (F:=None) (Ext.drew w7) (hbox7.cell (i:=1) rfl) id
    ·rw [← hn];exact Ext.row (F:=None) (Ext.drew w7) b7.row id
    intro w8 hw8
    have E9:Pure w7 w8:=by rw [hw8];exact Ext.drew w7
    clear hw8
    refine ⟨p,rfl,some m,fun w' h=>h.1,k,f,t,u,x,a,b,fun w' h=>by have:=h.2;rw [← hn] at this;exact this,?_⟩
    rw [hkey,hl1]
    have hmap8:CMap w8 m (vM L):=hmap7.ext E9 id
    obtain ⟨w9,hr9,hmap9,E10⟩:=hmap8.insert (P:=prog) (v:=.int .i64 ((L.length:Int)+1)) underlying92 qC qU ⟨n,rfl⟩ hnot
    refine ⟨w9,hr9,hK _ _ _ ?_⟩
    rw [hmk]
    have hbox9:=(hbox7.pure E9).ext E10 (fun e=>hS.n1 e.symm)
    have hrows9:=(hrows7.pure E9).ext E10 (fun b hb e=>hs1m (by rw [← e];exact hb))
    refine ⟨rfl,fun b=>b=p.block∨s1.blk b∨b=m,⟨s1,m,⟨hbox9,?_,?_,hS.n1,hs1p,hs1m⟩,fun _=>Iff.rfl⟩,?_,?_⟩
    ·simpa using hrows9
    ·rw [jBY];simpa using hmap9
    ·have hF':∀b,F b↔(b=p.block∨s.blk b∨b=m):=hF
     have Ea:Ext F w w5:=((E4.trans E5).trans E6).pure
     have Eb:Ext F w w6:=Ea.trans' E7 (fun i _ h=>(hF' i).2 (.inr (.inl h)))
     have Ec:Ext F w w7:=Eb.trans' E8 (fun i _ h=>(hF' i).2 (.inl h))
     have Ed:Ext F w w8:=Ec.thenPure E9
     exact Ed.trans' E10 (fun i _ h=>(hF' i).2 (.inr (.inr h)))
    ·intro b hb
     rcases hb with rfl | hb | rfl
     ·exact .inl ((hF _).2 (.inl rfl))
     ·rcases hb6 b hb with h | h
      ·exact .inl ((hF _).2 (.inr (.inl h)))
      ·right;have:=((E4.trans E5).trans E6).size;omega
     ·exact .inl ((hF _).2 (.inr (.inr rfl)))
  ·obtain ⟨e,he,hen,rfl⟩:=tW hi
   refine ⟨_,_,hrun,Br.t rfl (hK _ _ _ ?_)⟩
   have hfd:=jCK hok he
   rw [hen] at hfd
   have:Sp.make L n=((i:Int)+1,0,L):=by unfold Sp.make;simp [← hck,hfd]
   rw [this];exact ⟨by simp,oQ _ E4⟩
end Go.Proofs
end
section
open Go.SE
namespace Go.Sp
def kF (L:Pool) (n:Int):Int×Bool:=match find L (vA n) with
 | some i=>((i:Int)+1,true)
 | none=>(0,false)
theorem jCL {L:Pool} {n:Node} {i:Nat} (h:find L n=some i):i<L.length∧jD L ((i:Int)+1)=n:=by
 unfold find at h;rw [List.findIdx?_eq_some_iff_getElem] at h;obtain ⟨hi,h1,_⟩:=h;refine ⟨hi,?_⟩;rw [uY hi];simpa using h1
theorem qX {L:Pool} {n:Int} (h:(kF L n).2=true):inP L (kF L n).1=true∧jD L (kF L n).1=vA n∧∃i,find L (vA n)=some i∧(kF L n).1=(i:Int)+1:=by
 unfold kF at h ⊢;cases hf:find L (vA n) with
 | none=>rw [hf] at h;cases h
 | some i =>
  obtain ⟨hi,hn⟩:=jCL hf
  exact ⟨zA.2 ⟨by simp only;omega,by simp only;omega⟩,hn,i,rfl,rfl⟩
theorem jAQ {L:Pool} {n:Int} {i:Nat} (h:find L (vA n)=some i):kF L n=((i:Int)+1,true):=by unfold kF;rw [h]
theorem Drv.inv {L:Pool} {K:Int→Prop} {t:Int} (h:Drv L K t):K t∨qH (jD L t).kind=true∨((jD L t).kind=4∧Drv L K (jD L t).a∧Drv L K (jD L t).b)∨((jD L t).kind=5∧Drv L K (jD L t).a) ∨
  (zJ (jD L t).kind=true∧Drv L K (jD L t).a∧(kF L (kI (jD L t))).2=true∧K (kF L (kI (jD L t))).1):=by
 cases h with
 | seen h=>exact .inl h
 | free h=>exact .inr (.inl h)
 | pair h a b=>exact .inr (.inr (.inl ⟨h,a,b⟩))
 | hash h a=>exact .inr (.inr (.inr (.inl ⟨h,a⟩)))
 | sign h a hf hk=>rw [jAQ hf];exact .inr (.inr (.inr (.inr ⟨h,a,rfl,hk⟩)))
theorem Drv.signed {L:Pool} {K:Int→Prop} {t:Int} (h:zJ (jD L t).kind=true) (ha:Drv L K (jD L t).a) (hk:(kF L (kI (jD L t))).2=true) (hK:K (kF L (kI (jD L t))).1):Drv L K t:=by
 obtain ⟨_,_,i,hf,e⟩:=qX hk;rw [e] at hK;exact .sign h ha hf hK
theorem tR {k:Int} (h:zJ k=true):k≠4∧k≠5∧k≠6∧qH k=false:=by
 simp only [zJ,Bool.or_eq_true,beq_iff_eq] at h;rcases h with (rfl | rfl) | rfl <;> decide
theorem kK {L:Pool} (h:Wf L) {t:Int} (ht:inP L t=true):qH (jD L t).kind=true∨(jD L t).kind=4∨(jD L t).kind=5∨(jD L t).kind=6∨zJ (jD L t).kind=true:=by
 have h1:=(h.node ht).1;unfold jX at h1;simp only at h1;split at h1
 ·cases h1
 ·rename_i hh;simp only [Bool.or_eq_true,Bool.not_eq_true',not_or] at hh;have hk:isKind (jD L t).kind=true:=by simpa using hh.1.1.1.1
  simp only [isKind,Bool.and_eq_true,decide_eq_true_eq] at hk;simp only [qH,zJ,Bool.or_eq_true,beq_iff_eq];omega
inductive Sub (L:Pool):Int→Int→Prop
 | refl (t:Int):Sub L t t
 | kid {t u k:Int}:Sub L t u→k∈zB (jD L u)→Sub L t k
theorem Sub.trans {L:Pool} {a b c:Int} (h:Sub L a b) (k:Sub L b c):Sub L a c:=by
 induction k with
 | refl=>exact h
 | kid _ hk ih=>exact .kid ih hk
theorem yT {n:Node} (h:n.kind=4∨n.kind=5∨zJ n.kind=true):n.a∈zB n:=by
 simp only [zJ,Bool.or_eq_true,beq_iff_eq] at h;rcases h with h | h | (h | h) | h <;> simp [zB,h,shapeOf]
theorem jCG {n:Node} (h:n.kind=4):n.b∈zB n:=by simp [zB,h,shapeOf]
theorem zU.sub {L:Pool} {r u t:Int} (h:zU L r u t):Sub L u t:=by
 rcases h with ⟨_,hk,rfl⟩ | ⟨_,hk,rfl⟩ | ⟨_,hk,rfl⟩
 ·exact .kid (.refl u) (yT (.inl hk))
 ·exact .kid (.refl u) (jCG hk)
 ·exact .kid (.refl u) (yT (.inr (.inr hk)))
theorem Seen.sub {L:Pool} {G:List Int} {t:Int} (h:Seen L G t):∃g∈G,Sub L g t:=by
 induction h with
 | given hg=>exact ⟨_,hg,.refl _⟩
 | aris _ ha ih=>obtain ⟨g,hg,hs⟩:=ih;exact ⟨g,hg,hs.trans ha.sub⟩
def yQ (S:List Way) (t:Int):Nat:=(jG S).idxOf t+if t∈jG S then 0 else t.toNat
theorem uV {S:List Way} {t:Int} (h:t∈jG S):yQ S t<S.length:=by
 have:=List.idxOf_lt_length_iff.2 h;unfold yQ;rw [if_pos h];rw [zY] at this;omega
theorem xY {S:List Way} {t:Int} (h:t ∉ jG S):yQ S t=S.length+t.toNat:=by
 unfold yQ;rw [if_neg h,List.idxOf_eq_length h,zY]
theorem uG {S:List Way} {t a:Int} (h:t ∉ jG S) (h0:1≤a) (ha:a<t):yQ S a<yQ S t:=by
 rw [xY h];by_cases hm:a∈jG S
 ·have:=uV hm;omega
 ·rw [xY hm];omega
theorem jDO {S:List Way} {t a:Int} (h:t ∉ jG S) (ht:1≤t) (hm:a∈jG S):yQ S a<yQ S t:=by
 rw [xY h];have:=uV hm;omega
theorem way_of {L:Pool} {G:List Int} {S:List Way} (h:WaysOk L G S) {t r f:Int} (hl:(t,(r,f))∈S.map fun v=>(v.t,(v.rule,v.frm))):(r=0∧f=0∧t∈G)∨(r≠0∧zU L r f t∧f∈jG S∧yQ S f<yQ S t):=by
 obtain ⟨v,hv,e⟩:=List.mem_map.1 hl;obtain ⟨i,hi,rfl⟩:=List.getElem_of_mem hv;simp only [Prod.mk.injEq] at e;obtain ⟨rfl,rfl,rfl⟩:=e;rcases h.way i hi with hw | ⟨h1,h2,h3⟩
 ·exact .inl hw
 ·right;have hsub:S[i].frm∈jG S:=by
   obtain ⟨y,hy,e⟩:=List.mem_map.1 h3;exact List.mem_map.2 ⟨y,List.mem_of_mem_take hy,e⟩
  refine ⟨h1,h2,hsub,?_⟩;have hti:S[i].t∈jG S:=List.mem_map.2 ⟨_,hv,rfl⟩;have hidx:(jG S).idxOf S[i].t=i:=by
   obtain ⟨j,hj,e1,e2⟩:=xP hti;rw [e2];have h4:(jG S)[j]'(by rw [zY];exact hj)=(jG S)[i]'(by rw [zY];exact hi):=by simp [jG,e1]
   exact (List.getElem_inj h.nodup).1 h4
  have hf:(jG S).idxOf S[i].frm<i:=by
   have e:jG S=jG (S.take i)++jG (S.drop i):=by unfold jG;rw [← List.map_append,List.take_append_drop]
   rw [e,List.idxOf_append,if_pos h3];have:=List.idxOf_lt_length_iff.2 h3;rw [zY,List.length_take] at this;omega
  unfold yQ;rw [if_pos hsub,if_pos hti,hidx];omega
theorem tJ {L:Pool} {r u t:Int} (hr:r=1∨r=2∨r=3):gL L r u t=true↔zU L r u t:=by
 unfold gL zU;rcases hr with rfl | rfl | rfl <;> simp
theorem zU.rule {L:Pool} {r u t:Int} (h:zU L r u t):r=1∨r=2∨r=3:=by
 rcases h with ⟨h,_⟩ | ⟨h,_⟩ | ⟨h,_⟩
 ·exact .inl h
 ·exact .inr (.inl h)
 ·exact .inr (.inr h)
def jDA (l:List Step):List (Int×Int):=l.zipIdx.map fun p=>(p.1.t,(p.2:Int))
theorem oN (l:List Step):(jDA l).map Prod.fst=l.map Step.t:=by
 unfold jDA;rw [List.map_map];show l.zipIdx.map (fun p=>p.1.t)=_;rw [show (fun p:Step×Nat=>p.1.t)=Step.t∘Prod.fst from rfl,← List.map_map,List.zipIdx_map_fst]
theorem oL (l:List Step) (s:Step):jDA (l++[s])=jDA l++[(s.t,(l.length:Int))]:=by simp [jDA,List.zipIdx_append]
theorem jCX {l:List Step} {t v:Int} (h:SE.look (jDA l) t=some v):∃i,∃hi:i<l.length,v=i∧l[i].t=t:=by
 have:=qB h;obtain ⟨q,hq,e⟩:=List.mem_map.1 this;obtain ⟨s,i⟩:=q;rw [List.mem_zipIdx_iff_getElem?] at hq;obtain ⟨hi,e'⟩:=List.getElem?_eq_some_iff.1 hq;simp only [Prod.mk.injEq] at e;exact ⟨i,hi,e.2.symm,by rw [e'];exact e.1⟩
theorem oM {l:List Step} {t:Int}:SE.look (jDA l) t=none↔t ∉ l.map Step.t:=by rw [vI,oN]
structure PrfOk (L:Pool) (G:List Int) (K:Int→Prop) (l:List Step) (B:List Int):Prop where
 fol:∀i (hi:i<l.length),fol L G (l.take i) l[i]=true
 nd:(l.map Step.t).Nodup
 drv:∀s∈l,Drv L K s.t
 bar:∀t∈B,¬ Drv L K t
theorem PrfOk.nil (L:Pool) (G:List Int) (K:Int→Prop):PrfOk L G K [] []:=⟨fun i hi=>by simp at hi,by simp,by simp,by simp⟩
theorem PrfOk.snoc {L:Pool} {G:List Int} {K:Int→Prop} {l:List Step} {B:List Int} (h:PrfOk L G K l B) {s:Step} (hf:Sp.fol L G l s=true) (hn:s.t ∉ l.map Step.t) (hd:Drv L K s.t):PrfOk L G K (l++[s]) B:=by
 refine ⟨fun i hi=>?_,?_,fun x hx=>?_,h.bar⟩
 ·rw [List.length_append] at hi;simp only [List.length_cons,List.length_nil] at hi;by_cases hl:i<l.length
  ·rw [List.getElem_append_left hl,List.take_append_of_le_length (by omega)];exact h.fol i hl
  ·have:i=l.length:=by omega
   subst this;rw [List.getElem_append_right (Nat.le_refl _),List.take_left];simpa using hf
 ·rw [List.map_append,List.nodup_append];exact ⟨h.nd,by simp,fun x hx y hy e=>by simp at hy;subst hy;exact hn (e▸hx)⟩
 ·rcases List.mem_append.1 hx with hx | hx
  ·exact h.drv x hx
  ·simp at hx;subst hx;exact hd
theorem PrfOk.bars {L:Pool} {G:List Int} {K:Int→Prop} {l:List Step} {B:List Int} (h:PrfOk L G K l B) {t:Int} (ht:¬ Drv L K t):PrfOk L G K l (B++[t]) :=
 ⟨h.fol,h.nd,h.drv,fun x hx=>(List.mem_append.1 hx).elim (h.bar x) (fun hx=>by simp at hx;subst hx;exact ht)⟩
theorem jEG {L:Pool} {G:List Int} {pre:List Step} {s:Step} (h:fol L G pre s=true):inP L s.t=true:=by
 unfold fol at h;split at h
 ·cases h
 ·rename_i hh;simpa using hh
theorem PrfOk.few {L:Pool} {G:List Int} {K:Int→Prop} {l:List Step} {B:List Int} (h:PrfOk L G K l B):l.length≤L.length:=by
 have:=kR h.nd (fun t ht=>by
  obtain ⟨s,hs,rfl⟩:=List.mem_map.1 ht;obtain ⟨i,hi,rfl⟩:=List.getElem_of_mem hs;exact jEG (h.fol i hi))
 simpa using this
theorem uP {l:List Step} {i:Nat} (hi:i<l.length):tAt l (i:Int)=l[i].t:=by simp [tAt,hi]
theorem qF {n i:Nat} (h:i<n):ahead n (i:Int)=true:=by simp [ahead];omega
theorem jBM {l M:List Step} {i:Nat} (hi:i<l.length):tAt (l++M) (i:Int)=l[i].t:=by
 rw [uP (by rw [List.length_append];omega),List.getElem_append_left hi]
end Go.Sp
end
section
open Go Go.SE
namespace Go.Sp
def jBA (G:List Int) (t:Int):List Int:=if t∈G then G else G++[t]
def vN (L:Pool) (G:List Int) (t:Int):List Int:=if inP L t=true then jBA G t else G
theorem lA {G:List Int} {t x:Int}:x∈jBA G t↔x∈G∨x=t:=by
 unfold jBA;split
 ·rename_i h;exact ⟨.inl,fun h'=>h'.elim id (fun e=>e▸h)⟩
 ·simp
theorem jFK {G:List Int} {t:Int} (h:G.Nodup):(jBA G t).Nodup:=by
 unfold jBA;split
 ·exact h
 ·rename_i hn;rw [List.nodup_append];exact ⟨h,by simp,fun x hx y hy e=>by simp at hy;subst hy;exact hn (e▸hx)⟩
def qN (L:Pool) (S:List Way) (t:Int):Int×Int×Bool×Bool :=
 if inP L t=false then (0,0,false,false)
 else if qH (jD L t).kind=true then (0,0,true,true)
 else if (jD L t).kind=4 then ((jD L t).a,(jD L t).b,false,true)
 else if (jD L t).kind=5 then ((jD L t).a,0,false,true)
 else if (jD L t).kind=6 then (0,0,false,false)
 else ((jD L t).a,(kF L (kI (jD L t))).1,false,(kF L (kI (jD L t))).2 && decide ((kF L (kI (jD L t))).1∈jG S))
end Go.Sp
namespace Go.Proofs
open Tryz
attribute [local irreducible] Calls
theorem c_Has (p:Addr) (n:Sp.Node) (w0:World) {L:Sp.Pool} {F:NP} (hP:jN w0 p L F) (hok:Sp.Ok L) :
  Calls prog 129 #[.pointer (some p),uE n] w0 (fun e w'=>∃r:Int,∃ok:Bool,e=.returned (.tuple #[.int .i64 r,.bool ok])∧((match Sp.find L n with | some i=>r=(i:Int)+1∧ok=true | none=>r=0∧ok=false)∧Pure w0 w')):=by
 obtain ⟨k,f,t,u,x,a,b⟩:=n
 generalize hn:(⟨k,f,t,u,x,a,b⟩:Sp.Node)=n
 have hkey:(Value.agg #[.int .i64 k,.int .i64 f,.int .i64 t,.int .u64 u,.string x,.int .i64 a,.int .i64 b])=uE n:=by rw [← hn];rfl
 rw [← hkey]
 refine w_M2 _ _ _ _ _ _ _ _ w0 (fun r ok w'=>(match Sp.find L n with | some i=>r=(i:Int)+1∧ok=true | none=>r=0∧ok=false)∧Pure w0 w') ?_
 unfold m_M2
 intro p2 w1 h1
 have b1:=Box.of_new h1
 have E1:Pure w0 w1:=Ext.new h1
 refine Br.f rfl ?_
 rintro _ rfl
 have Ed:Pure w1 w1.drew:=Ext.drew w1
 have E2:=E1.trans Ed
 obtain ⟨s,m,hS,hF⟩:=hP.pure E2
 refine ⟨p,rfl,_,hS.box.cell (i:=1) rfl,_,_,_,_,_,_,_,(b1.pure Ed).row,?_⟩
 rw [hkey]
 rcases hS.map.lookup (P:=prog) (T:=92) (E:=30) underlying92 qC qU ⟨n,rfl⟩ (zeroValue30 _) true with ⟨hnot,hrun⟩ | ⟨i,v,hi,hrun⟩
 ·refine ⟨_,_,hrun,?_,E2⟩
  rw [gC (tV hnot)];exact ⟨rfl,rfl⟩
 ·obtain ⟨e,he,hen,rfl⟩:=tW hi
  refine ⟨_,_,hrun,?_,E2⟩
  rw [← hen,jCK hok he];exact ⟨by simp,rfl⟩
abbrev MakePost (p:Addr) (L:Sp.Pool) (F:NP) (w:World) (n:Sp.Node) (e:Ending) (w':World):Prop :=
 ∃r1:Int,∃r2:Int,e=.returned (.tuple #[.int .i64 r1,.int .i64 r2])∧((r1,r2)=((Sp.make L n).1,(Sp.make L n).2.1)∧∃F',jN w' p (Sp.make L n).2.2 F'∧Ext F w w'∧∀b,F' b→F b∨w.heap.size≤b)
section
variable (p:Addr) (w0:World) {L:Sp.Pool} {F:NP} (hP:jN w0 p L F) (hok:Sp.Ok L)
include hP hok
theorem c_Num (n:Int):Calls prog 47 #[.pointer (some p),.int .u64 n] w0 (MakePost p L F w0 ⟨2,0,0,n,⟨#[]⟩,0,0⟩):=by
 refine w_G2 _ _ w0 (fun r1 r2 w'=>(r1,r2)=((Sp.make L ⟨2,0,0,n,⟨#[]⟩,0,0⟩).1,(Sp.make L ⟨2,0,0,n,⟨#[]⟩,0,0⟩).2.1)∧∃F',jN w' p (Sp.make L ⟨2,0,0,n,⟨#[]⟩,0,0⟩).2.2 F'∧Ext F w0 w'∧∀b,F' b→F b∨w0.heap.size≤b) ?_;unfold m_G2;refine (gI p _ _ _ _ _ _ _ w0 hP hok).mono ?_;rintro _ w1 ⟨r1,r2,rfl,h⟩;exact ⟨r1,r2,rfl,h⟩
theorem c_Name (n:Int):Calls prog 28 #[.pointer (some p),.int .i64 n] w0 (MakePost p L F w0 ⟨1,n,0,0,⟨#[]⟩,0,0⟩):=by
 refine w_D2 _ _ w0 (fun r1 r2 w'=>(r1,r2)=((Sp.make L ⟨1,n,0,0,⟨#[]⟩,0,0⟩).1,(Sp.make L ⟨1,n,0,0,⟨#[]⟩,0,0⟩).2.1)∧∃F',jN w' p (Sp.make L ⟨1,n,0,0,⟨#[]⟩,0,0⟩).2.2 F'∧Ext F w0 w'∧∀b,F' b→F b∨w0.heap.size≤b) ?_;unfold m_D2;refine (gI p _ _ _ _ _ _ _ w0 hP hok).mono ?_;rintro _ w1 ⟨r1,r2,rfl,h⟩;exact ⟨r1,r2,rfl,h⟩
theorem c_Pair (a b:Int):Calls prog 29 #[.pointer (some p),.int .i64 a,.int .i64 b] w0 (MakePost p L F w0 ⟨4,0,0,0,⟨#[]⟩,a,b⟩):=by
 refine w_E2 _ _ _ w0 (fun r1 r2 w'=>(r1,r2)=((Sp.make L ⟨4,0,0,0,⟨#[]⟩,a,b⟩).1,(Sp.make L ⟨4,0,0,0,⟨#[]⟩,a,b⟩).2.1)∧∃F',jN w' p (Sp.make L ⟨4,0,0,0,⟨#[]⟩,a,b⟩).2.2 F'∧Ext F w0 w'∧∀b,F' b→F b∨w0.heap.size≤b) ?_;unfold m_E2;refine (gI p _ _ _ _ _ _ _ w0 hP hok).mono ?_;rintro _ w1 ⟨r1,r2,rfl,h⟩;exact ⟨r1,r2,rfl,h⟩
theorem jEH (n a:Int):Calls prog 48 #[.pointer (some p),.int .i64 n,.int .i64 a] w0 (MakePost p L F w0 ⟨7,n,0,0,⟨#[]⟩,a,0⟩):=by
 refine w_H2 _ _ _ w0 (fun r1 r2 w'=>(r1,r2)=((Sp.make L ⟨7,n,0,0,⟨#[]⟩,a,0⟩).1,(Sp.make L ⟨7,n,0,0,⟨#[]⟩,a,0⟩).2.1)∧∃F',jN w' p (Sp.make L ⟨7,n,0,0,⟨#[]⟩,a,0⟩).2.2 F'∧Ext F w0 w'∧∀b,F' b→F b∨w0.heap.size≤b) ?_;unfold m_H2;refine (gI p _ _ _ _ _ _ _ w0 hP hok).mono ?_;rintro _ w1 ⟨r1,r2,rfl,h⟩;exact ⟨r1,r2,rfl,h⟩
theorem c_Hash (a:Int):Calls prog 49 #[.pointer (some p),.int .i64 a] w0 (MakePost p L F w0 ⟨5,0,0,0,⟨#[]⟩,a,0⟩):=by
 refine w_I2 _ _ w0 (fun r1 r2 w'=>(r1,r2)=((Sp.make L ⟨5,0,0,0,⟨#[]⟩,a,0⟩).1,(Sp.make L ⟨5,0,0,0,⟨#[]⟩,a,0⟩).2.1)∧∃F',jN w' p (Sp.make L ⟨5,0,0,0,⟨#[]⟩,a,0⟩).2.2 F'∧Ext F w0 w'∧∀b,F' b→F b∨w0.heap.size≤b) ?_;unfold m_I2;refine (gI p _ _ _ _ _ _ _ w0 hP hok).mono ?_;rintro _ w1 ⟨r1,r2,rfl,h⟩;exact ⟨r1,r2,rfl,h⟩
theorem c_Key (n:Int):Calls prog 50 #[.pointer (some p),.int .i64 n] w0 (MakePost p L F w0 ⟨6,n,0,0,⟨#[]⟩,0,0⟩):=by
 refine w_J2 _ _ w0 (fun r1 r2 w'=>(r1,r2)=((Sp.make L ⟨6,n,0,0,⟨#[]⟩,0,0⟩).1,(Sp.make L ⟨6,n,0,0,⟨#[]⟩,0,0⟩).2.1)∧∃F',jN w' p (Sp.make L ⟨6,n,0,0,⟨#[]⟩,0,0⟩).2.2 F'∧Ext F w0 w'∧∀b,F' b→F b∨w0.heap.size≤b) ?_;unfold m_J2;refine (gI p _ _ _ _ _ _ _ w0 hP hok).mono ?_;rintro _ w1 ⟨r1,r2,rfl,h⟩;exact ⟨r1,r2,rfl,h⟩
end
theorem KnowS.appG {w:World} {k p:Addr} {G:List Int} {S:List Sp.Way} {ks:List Int} {sg sl:Sl} {m:Nat} (h:KnowS w k p G S ks sg m sl) {t:Int} {q:Addr} {w1:World} (hq:New w (.cells #[.int .i64 t] 30) q w1) (hn:G.length≤1000000):∃s1 w2,(Builtin.append_ #[52,52] 52 #[sg.v,(Sl.mk (some q) 1 1).v]).run prog w1=.ok s1.v w2∧Ext sg.blk w1 w2∧zQ w2 (k.add 1) ∧
  KnowS (w2.setCell (k.add 1) s1.v) k p (G++[t]) S ks s1 m sl∧Ext (KF k sg m sl) w (w2.setCell (k.add 1) s1.v)∧∀b,KF k s1 m sl b→KF k sg m sl b∨w.heap.size≤b:=by
 have E1:Pure w w1:=Ext.new hq
 have h1:=h.pure E1
 obtain ⟨s1,w2,hr,hR,hE,hb⟩:=h1.giv.append (P:=prog) (ty:=52) (c:=1) qI (r:=[.int .i64 t]) (Box.of_new hq).row rfl rfl (by rw [jY];omega) (by rw [jY];simp [maxLen];omega)
 have hbx:=h1.box.ext hE h1.n2
 have hs1:∀b,s1.blk b→sg.blk b∨w.heap.size≤b:=fun b h=>(hb b h).imp_right (fun h=>by have:=E1.size;omega)
 have nk:¬ s1.blk k.block:=fun hh=>(hs1 _ hh).elim h.n2 (fun hh=>by have:=h.box.lt;omega)
 have nm:¬ s1.blk m:=fun hh=>(hs1 _ hh).elim h.n4 (fun hh=>by have:=h.seen.lt;omega)
 have E3:=Ext.setCell (w:=w2) (k.add 1) s1.v
 rw [jR] at E3
 refine ⟨s1,w2,hr,hE,hbx.canW (by simp),⟨hbx.set 1 s1.v,by rw [show tmr (G++[t])=tmr G++[[.int .i64 t]] by simp [tmr]];exact hR.ext E3 (fun b hb e=>nk (e▸hb)),((h1.seen.ext hE h.n4).ext E3 h.n1),((h1.list.ext hE (fun b h2 h1=>h.n6 b h1 h2)).ext E3 (fun b hb e=>h.n3 (e▸hb))),h.n1,nk,h.n3,nm,h.n5,fun b h1 h2=>(hs1 b h1).elim (fun h1=>h.n6 b h1 h2) (fun hh=>by have:=h.list.lt h2;omega)⟩,?_,?_⟩
 ·exact ((E1.pure (F:=KF k sg m sl)).trans (hE.mono (fun b _ hb=>.inr (.inl hb)))).trans (E3.mono (fun b _ hb=>.inl hb))
 ·rintro b (hb | hb | hb | hb)
  ·exact .inl (.inl hb)
  ·exact (hs1 b hb).imp_left (fun h=>.inr (.inl h))
  ·exact .inl (.inr (.inr (.inl hb)))
  ·exact .inl (.inr (.inr (.inr hb)))
theorem yA (k p:Addr) (t:Int) (w0:World) {L:Sp.Pool} {G:List Int} {S:List Sp.Way} {F FP:NP} (h:zD w0 k p G S F) (hP:jN w0 p L FP) (hW:Sp.Wf L) (hd:∀b,F b→¬ FP b) (hk:Sp.KnowOk L G S) :
  Calls prog 23 #[.pointer (some k),.int .i64 t] w0 (fun e w'=>∃r:Int,e=.returned (.int .i64 r)∧(r=(if Sp.inP L t=true then 0 else 51)∧∃S' F',zD w' k p (Sp.vN L G t) S' F'∧Sp.KnowOk L (Sp.vN L G t) S'∧Ext F w0 w'∧∀b,F' b→F b∨w0.heap.size≤b)):=by
 suffices key:∀K:Int→WP,(∀S' F' w',zD w' k p (Sp.vN L G t) S' F'→Sp.KnowOk L (Sp.vN L G t) S'→Ext F w0 w'→(∀b,F' b→F b∨w0.heap.size≤b)→K (if Sp.inP L t=true then 0 else 51) w')→m_M1 (some k) t w0 K from
  w_M1 _ _ w0 _ (key _ (fun S' F' w' a b c d=>⟨rfl,S',F',a,b,c,d⟩))
 intro K hK
 unfold m_M1
 obtain ⟨sg,m,sl,k0,hF⟩:=h
 refine Br.f rfl ⟨k,rfl,_,k0.box.cell0,?_⟩
 refine (uB p t w0 hP hW.ok).mono ?_
 rintro _ w1 ⟨nk,nf,nt,nu,nx,na,nb,ok,rfl,⟨_,rfl⟩,E1⟩
 refine ⟨_,_,_,_,_,_,_,_,rfl,E1.keptP,fun hc=>?_,fun hc=>?_⟩
 ·have hin:Sp.inP L t=false:=by simpa using hc
  intro H1 w3 hs3
  have E3:Pure w0 w3:=E1.hst hs3
  have hg:Sp.vN L G t=G:=by unfold Sp.vN;rw [if_neg (by simp [hin])]
  have:=hK S F w3 (by rw [hg];exact ⟨sg,m,sl,k0.pure E3,hF⟩) (by rw [hg];exact hk) E3.pure (fun b hb=>.inl hb)
  simpa [hin] using this
 have hin:Sp.inP L t=true:=by simpa using hc
 have hg:Sp.vN L G t=Sp.jBA G t:=by unfold Sp.vN;rw [if_pos hin]
 rw [hg] at hK
 simp only [hin,if_true] at hK
 refine ⟨k,rfl,?_⟩
 intro H1 w3 hs3
 have E3:Pure w0 w3:=E1.hst hs3
 have k3:=k0.pure E3
 have nh:∀b,b<w0.heap.size→¬ H1 b:=fun b hb hh=>by have:=hs3.old b hh;omega
 have hGn:G.length≤65536:=by have:=Sp.kR hk.gnd (fun t ht=>hk.inp t (hk.giv t ht));have:=hW.ok.few;omega
 have fin:∀(w:World) (F':NP),zD w k p (Sp.jBA G t) S F'→Ext F w0 w→(∀b,F' b→F b∨w0.heap.size≤b)→Hst w0 H1 w H1 w→(∀b,F' b→¬ H1 b)→Calls prog 59 #[.pointer (some k),.int .i64 t,.agg #[.int .i64 0,.int .i64 0]] w (fun e w8=>e=.returned (.tuple #[])∧Kept H1 w w8∧K 0 w8):=by
  intro w F' hw hE hf hs hh;have hGs:∀x∈G,x∈Sp.jBA G t:=fun x hx=>Sp.lA.2 (.inl hx);have hPw:jN w p L FP:=hP.ext hE (fun b hb hfb=>hd b hfb hb);refine (jAW k p t 0 0 w hw hPw hW (fun b hb hp=>?_) (hk.toWaysOk.mono hGs) hk.closed hin (.inl ⟨rfl,rfl,Sp.lA.2 (.inr rfl)⟩)).mono ?_
  ·rcases hf b hb with h1 | h1
   ·exact hd b h1 hp
   ·have:=hP.lt hp;omega
  ·rintro _ w8 ⟨rfl,S',F2,K2,⟨q1,q2,q3,q4⟩,X2,f2⟩;have z:=hE.size;refine ⟨rfl,X2.kept (fun b hb hx=>hh b hx hb),hK S' F2 w8 K2 ⟨q1,q2,fun x hx=>?_,Sp.jFK hk.gnd⟩ (hE.trans' X2 (fun i hi hx=>(hf i hx).elim id (fun h=>by omega))) (fun b hb=>?_)⟩
   ·rcases Sp.lA.1 hx with hx | rfl
    ·exact q4 x (hk.giv x hx)
    ·exact q3
   ·rcases f2 b hb with h1 | h1
    ·exact hf b h1
    ·right;omega
 refine ⟨_,k3.box.cell rfl,?_⟩
 refine (yY sg G t w3 k3.giv.lst (by omega)).mono ?_
 rintro _ w3 ⟨r,rfl,rfl,rfl⟩
 refine ⟨_,rfl,Kept.refl _,fun hc2=>?_,fun hc2=>?_⟩
 ·have hnG:t ∉ G:=by simpa using hc2
  have hadd:Sp.jBA G t=G++[t]:=if_neg hnG
  refine ⟨k,rfl,_,k3.box.cell rfl,?_⟩
  intro q w5 h5
  obtain ⟨s1,w6,hr6,X6,cw6,k6,E6,f6⟩:=k3.appG h5 (by omega)
  have hs5:Hst w0 H1 w5 H1 w5:=hs3.here.again (Ext.new h5:Pure w3 w5).keptP
  have sgn:∀b,sg.blk b→¬ H1 b:=fun b hb=>nh b (k0.lt (.inr (.inl hb)))
  have kk:Kept H1 w5 w6:=X6.kept (fun b hb hx=>sgn b hx hb)
  refine ⟨s1,w6,hr6,kk,k,rfl,cw6,by rw [jR];exact nh _ k0.box.lt,?_⟩
  rintro _ rfl
  have z3:=E3.size
  have z5:w3.heap.size≤w5.heap.size:=(Ext.new h5:Pure w3 w5).size
  refine fin _ (KF k s1 m sl) (by rw [hadd];exact ⟨s1,m,sl,k6,fun b=>Iff.rfl⟩) ((E3.pure (F:=F)).trans (E6.mono (fun b _ hb=>(hF b).2 hb))) (fun b hb=>(f6 b hb).imp (hF b).2 (fun h=>by omega)) ((hs5.again kk).again (Kept.setCell (by rw [jR];exact nh _ k0.box.lt))) (fun b hb hh=>?_)
  rcases f6 b hb with h1 | h1
  ·exact nh b (k0.lt h1) hh
  ·have:=hs3.lt b hh;omega
 ·have hG:t∈G:=by simpa using hc2
  have hadd:Sp.jBA G t=G:=if_pos hG
  exact fin w3 F (by rw [hadd];exact ⟨sg,m,sl,k3,hF⟩) E3.pure (fun b hb=>.inl hb) hs3.here (fun b hb=>nh b (k0.lt ((hF b).1 hb)))
theorem jAX (k p:Addr) (t:Int) (w0:World) {L:Sp.Pool} {G:List Int} {S:List Sp.Way} {F FP:NP} (h:zD w0 k p G S F) (hP:jN w0 p L FP) (hW:Sp.Wf L) :
  Calls prog 93 #[.pointer (some k),.int .i64 t] w0 (fun e w'=>∃r1:Int,∃r2:Int,∃r3:Bool,∃r4:Bool,e=.returned (.tuple #[.int .i64 r1,.int .i64 r2,.bool r3,.bool r4])∧((r1,r2,r3,r4)=Sp.qN L S t∧Pure w0 w')):=by
 refine w_V _ _ w0 (fun r1 r2 r3 r4 w'=>(r1,r2,r3,r4)=Sp.qN L S t∧Pure w0 w') ?_
 unfold m_V
 obtain ⟨sg,m,sl,k0,hF⟩:=h
 refine ⟨k,rfl,_,k0.box.cell0,?_⟩
 refine (uB p t w0 hP hW.ok).mono ?_
 rintro _ w1 ⟨nk,nf,nt,nu,nx,na,nb,ok,rfl,⟨hn,rfl⟩,E1⟩
 refine ⟨_,_,_,_,_,_,_,_,rfl,E1.keptP,fun hc=>?_,fun hc=>?_⟩
 ·intro H1 w3 hs3
  have hin:Sp.inP L t=false:=by simpa using hc
  exact ⟨by unfold Sp.qN;rw [if_pos hin],E1.hst hs3⟩
 have hin:Sp.inP L t=true:=by simpa using hc
 have hi:¬ Sp.inP L t=false:=by simp [hin]
 rintro y1 rfl
 have hy:(cond ((nk:Int) == 1) ((nk:Int) == 1) (cond ((nk:Int) == 2) ((nk:Int) == 2) ((nk:Int) == 3)))=Sp.qH nk:=by
  unfold Sp.qH;cases (nk == 1) <;> cases (nk == 2) <;> simp
 rw [hy]
 have hk1:(Sp.jD L t).kind=nk:=by rw [← hn]
 have hfr:(Sp.jD L t).frm=nf:=by rw [← hn]
 have hto:(Sp.jD L t).to=nt:=by rw [← hn]
 have ha:(Sp.jD L t).a=na:=by rw [← hn]
 have hb:(Sp.jD L t).b=nb:=by rw [← hn]
 refine ⟨fun h1=>?_,fun h1=>⟨fun h4=>?_,fun h4=>⟨fun h5=>?_,fun h5=>⟨fun h6=>?_,fun h6=>?_⟩⟩⟩⟩
 ·intro H2 w7 hs7
  exact ⟨by unfold Sp.qN;rw [if_neg hi,hk1,if_pos h1],E1.hst hs7⟩
 ·intro H2 w7 hs7
  have h4':nk=4:=by simpa using h4
  exact ⟨by unfold Sp.qN;rw [if_neg hi,hk1,if_neg (by simp [h1]),if_pos h4',ha,hb],E1.hst hs7⟩
 ·intro H2 w7 hs7
  have h4':¬ nk=4:=by simpa using h4
  have h5':nk=5:=by simpa using h5
  exact ⟨by unfold Sp.qN;rw [if_neg hi,hk1,if_neg (by simp [h1]),if_neg h4',if_pos h5',ha],E1.hst hs7⟩
 ·intro H2 w7 hs7
  have h4':¬ nk=4:=by simpa using h4
  have h5':¬ nk=5:=by simpa using h5
  have h6':nk=6:=by simpa using h6
  exact ⟨by unfold Sp.qN;rw [if_neg hi,hk1,if_neg (by simp [h1]),if_neg h4',if_neg h5',if_pos h6'],E1.hst hs7⟩
 ·have h4':¬ nk=4:=by simpa using h4
  have h5':¬ nk=5:=by simpa using h5
  have h6':¬ nk=6:=by simpa using h6
  intro H3 w9 hs9
  have E9:Pure w0 w9:=E1.hst hs9
  unfold m_V_j1
  have k9:=k0.pure E9
  have hwho:(cond ((nk:Int) == 9) nt nf)=Sp.kI (Sp.jD L t):=by
   unfold Sp.kI;rw [hk1,hfr,hto];by_cases h9:nk=9
   ·subst h9;simp
   ·rw [if_neg h9,show (nk == 9)=false from by simpa using h9];rfl
  rw [hwho]
  have hm:Sp.qN L S t=(na,(Sp.kF L (Sp.kI (Sp.jD L t))).1,false,(Sp.kF L (Sp.kI (Sp.jD L t))).2 && decide ((Sp.kF L (Sp.kI (Sp.jD L t))).1∈Sp.jG S)):=by
   unfold Sp.qN;rw [if_neg hi,hk1,if_neg (by simp [h1]),if_neg h4',if_neg h5',if_neg h6',ha]
  refine ⟨k,rfl,_,k9.box.cell0,?_⟩
  refine (c_Has p (Sp.vA (Sp.kI (Sp.jD L t))) w9 (hP.pure E9) hW.ok).mono ?_
  rintro _ w10 ⟨r2,r3,rfl,hr,E10⟩
  refine ⟨r2,r3,rfl,E10.keptP,?_⟩
  have Ed:Pure w10 w10.drew:=Ext.drew w10
  refine ⟨fun _=>True,trivial,?_⟩
  rintro _ rfl
  have E11:=(E9.trans E10).trans Ed
  have hke:Sp.kF L (Sp.kI (Sp.jD L t))=(r2,r3):=by
   unfold Sp.kF;cases hf:Sp.find L (Sp.vA (Sp.kI (Sp.jD L t))) with
   | none=>rw [hf] at hr;simp only at hr;rw [hr.1,hr.2]
   | some i=>rw [hf] at hr;simp only at hr;rw [hr.1,hr.2]
  rw [hm,hke]
  refine ⟨fun h=>?_,fun h=>?_⟩
  ·subst h
   refine (qE k p r2 w10.drew ⟨sg,m,sl,k0.pure E11,hF⟩).mono ?_
   rintro _ w12 ⟨r4,rfl,rfl,E12⟩
   exact ⟨_,rfl,trivial,E12.keptP,by simp,E11.trans E12⟩
  ·subst h
   exact ⟨by simp,E11⟩
end Go.Proofs
end
