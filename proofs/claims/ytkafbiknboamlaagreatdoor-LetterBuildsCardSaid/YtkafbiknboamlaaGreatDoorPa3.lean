import Derived.Test.YtkafbiknboamlaaGreatDoorProg
import Derived.KernelRfl
import Derived.Test.YtkafbiknboamlaaGreatDoorPa2
import Derived.IntWalk
section
open Go Go.SE
open Go.IntKind renaming i64 → q6
namespace Go.Proofs
open Tryz
set_option maxRecDepth 100000
set_option maxHeartbeats 4000000
attribute [local irreducible] wpL wpX opE wpE Calls
def m_R2  (w:World) (K:(Option Addr)→WP):Prop :=∀p1 w1,New w (.map #[] 0) p1 w1→∀p2 w2,New w1 (.cells #[Sl.nil.v,(.map (some p1.block))] 96) p2 w2→K (some p2) w2
theorem w_R2  (w:World) (K:(Option Addr)→WP) (h:m_R2  w K) :
  Calls prog 11 #[] w (fun e w'=>∃r1,e=.returned (vp r1)∧K r1 w'):=by
 refine cw (args:=[]) func11 ntmps11 (eg (q0 (vp none) (ln (eg (yX (O:=(.map #[] 0)) (fun p=>.map (some p.block)) (zJ rfl) (by kernel_rfl) ?_)))))
 intro p1 w1 hn2
 have h:=h p1 w1 hn2
 refine q (nw1 h xb fun p2 w2 h=>q (ln (er (rs1 results11 ⟨(some p2),rfl,h⟩))))
def m_E2 (p1:Option Addr) (bA bB:Int) (bC bD:Int) (bE:ByteArray) (bF:Sl) (w:World) (K:Int→Int→WP):Prop :=∀p2 w1,New w (.cells #[(vi bA),(vi bB),(vi bC),(vu bD),(vs bE),bF.v] 28) p2 w1→Br (Option.isNone p1) (K 0 0 w1) (∀p3 w2,New w1 (.cells #[(vi 0)] 3) p3 w2→zT w2 p3∧∀w3,w3=w2.setCell p3 (vi 0)→∃aA aB aC aD aE bG,Row w3 p2 (Ad aA aB aC aD aE bG)∧Calls prog 54 #[(.agg #[(vi aA),(vi aB),(vi aC),(vu aD),(vs aE),bG.v]),(vi 0),(vp (some p3))] w3 (fun e w4=>∃r1,e=.returned (vi r1)∧Br (r1 != 0) (K 0 r1 w4) (∃a1,p1=some a1∧∃v1:Sl,w4.cell? a1=some v1.v∧∃aO aP aQ aR aS bR,Row w4 p2 (Ad aO aP aQ aR aS bR)∧Calls prog 55 #[(vp p1),(.agg #[(vi aO),(vi aP),(vi aQ),(vu aR),(vs aS),bR.v])] w4 (fun e w5=>∃r2 r3,e=.returned (.tuple #[(vi r2),(vi r3)])∧Br (r3 != 0) (Calls prog 56 #[(vp p1),(vi (v1.len:Int))] w5 (fun e w6=>e=.returned (.tuple #[])∧K 0 r3 w6)) (K r2 0 w5)))))
theorem w_E2 (p1 bA bB bC bD bE bF w K) (h:m_E2 p1 bA bB bC bD bE bF w K):
  Calls prog 13 #[(vp p1),(.agg #[(vi bA),(vi bB),(vi bC),(vu bD),(vs bE),bF.v])] w (fun e w'=>∃r4 r5,e=.returned (.tuple #[(vi r4),(vi r5)])∧K r4 r5 w'):=by
 refine cw (args:=[(vp p1),(Aa bA bB bC bD bE bF)]) func13 ntmps13 (eg (sn (O:=(.cells #[(vi bA),(vi bB),(vi bC),(vu bD),(vs bE),bF.v] 28)) xb ?_))
 intro p2 w1 hn3
 have h:=h p2 w1 hn3
 refine qb (ln (zB (eg (q (q2 (vb (Option.isNone p1)) (uF (by kernel_rfl) rfl underlying29) (ln (cbr h ?_ ?_)))))))<;>intro h
 refine eg (qb (ln (er (vA (xC (.inl rfl) results13 (v:=(vi 0)) (by kernel_rfl) (v':=(vi 0)) (by kernel_rfl) ⟨0,0,rfl,h⟩)))))
 refine zD (zN (eg (nw1 h (zI (zeroValue3 _) rfl) fun p3 w2 h=>st1 (sizeOf3 _) h fun w3 h=>ln (zB (eg ?_)))))
 obtain ⟨aA,aB,aC,aD,aE,bG,hv3,h⟩:=h
 refine qa (isAgg28 _) (sizeOf28 _) hv3 (sc call54 (h.mono fun e w4 ⟨r1,k,h⟩=>⟨_,k,?_⟩))
 refine q (ln (eg (qb (ln (cbr h ?_ ?_)))))<;>intro h
 refine eg (qc (ln (er (vA (xC (.inl rfl) results13 (v:=(vi 0)) (by kernel_rfl) (v':=(vi r1)) (by kernel_rfl) ⟨0,r1,rfl,h⟩)))))
 refine zD (zN (eg (q (qm h fun a1 h=>q (ql (isAgg94 _) h fun v1 h=>qb (ln (eg (q ?_))))))))
 obtain ⟨aO,aP,aQ,aR,aS,bR,hv1,h⟩:=h
 refine qa (isAgg28 _) (sizeOf28 _) hv1 (sc call55 (h.mono fun e w5 ⟨r2,r3,k,h⟩=>⟨_,k,?_⟩))
 refine q (qd (ln (zB (eg (qb (ln (cbr h ?_ ?_)))))))<;>intro h
 refine eg (qb (sc call56 (h.mono fun e w6 ⟨k,h⟩=>⟨_,k,?_⟩)))
 refine ln (eg (qc (ln (er (vA (xC (.inl rfl) results13 (v:=(vi 0)) (by kernel_rfl) (v':=(vi r3)) (by kernel_rfl) ⟨0,r3,rfl,h⟩))))))
 refine zD (zN (eg (qc (ln (er (xC (.inl rfl) results13 (v:=(vi r2)) (by kernel_rfl) (v':=(vi 0)) (by kernel_rfl) ⟨r2,0,rfl,h⟩))))))
def m_S2 (p1:Option Addr) (w:World) (K:Int→WP):Prop :=Br (Option.isNone p1) (K 0 w) (∃a1,p1=some a1∧∃v1:Sl,w.cell? a1=some v1.v∧K (v1.len:Int) w)
theorem w_S2 (p1 w K) (h:m_S2 p1 w K):
  Calls prog 22 #[(vp p1)] w (fun e w'=>∃r1,e=.returned (vi r1)∧K r1 w'):=by
 refine cw (args:=[(vp p1)]) func22 ntmps22 (eg (q0 (vi 0) (ln (zB (eg (q0 (vp p1) (q2 (vb (Option.isNone p1)) (uF (by kernel_rfl) rfl underlying29) (zC ?_))))))))
 refine zN (cbr h ?_ ?_)<;>intro h
 refine eg (q (ln (er (vA (rs1 results22 ⟨0,rfl,h⟩)))))
 refine zD (zN (eg (q (qm h fun a1 h=>q (ql (isAgg94 _) h fun v1 h=>qb (ln (er (rs1 results22 ⟨(v1.len:Int),rfl,h⟩))))))))
def m_J1_l1 (p1:Option Addr) (p2 p4:Addr) (r2:Sl) (x1:Int) (wl1:World) (Kc1:Int→WP) (K:Int→Int→Int→Int→ByteArray→Sl→WP):Prop :=Br (decide (x1<(r2.len:Int))) (∃a1:Addr,At r2 x1 1 a1∧∃v6,wl1.cell? a1=some (vi v6)∧∃C1:WP,C1 wl1.drew∧∀w9,w9=wl1.drew→∃v7:Sl,(∀w',C1 w'→w'.cell? (p4.add 5)=some v7.v)∧Calls prog 38 #[(vp p1),(vi v6)] w9 (fun e w10=>∃cM cN cO cP cQ cR,e=.returned (Aa cM cN cO cP cQ cR)∧C1 w10∧∀p5 w11,New w10 (.cells #[(vi cM),(vi cN),(vi cO),(vu cP),(vs cQ),cR.v] 28) p5 w11→C1 w11∧∃s1:Sl,∃w12:World,(Builtin.append_ #[22,22] 22 #[v7.v,(Sl.mk (some p5) 1 1).v]).run prog w11=.ok s1.v w12∧C1 w12∧zT w12 (p4.add 5)∧∀w13,w13=w12.setCell (p4.add 5) s1.v→Kc1 (q6.wrap (x1+1)) w13)) (∃aA aB aC aD aE bG,Row wl1 p4 (Ad aA aB aC aD aE bG)∧(∀j,j<6→zT wl1 (p2.add j))∧∀w14,w14=storeRow wl1 p2 (Ad aA aB aC aD aE bG)→∃bZ cA cB cC cD cI,Row w14 p2 (Ad bZ cA cB cC cD cI)∧K bZ cA cB cC cD cI w14)
def m_J1 (p1:Option Addr) (t1:Int) (w:World) (K:Int→Int→Int→Int→ByteArray→Sl→WP):Prop :=∀p2 w1,New w (.cells #[(vi 0),(vi 0),(vi 0),(vu 0),ve,Sl.nil.v] 28) p2 w1→Calls prog 61 #[(vp p1),(vi t1)] w1 (fun e w2=>∃aT aU aV aW aX aY aZ r1,e=.returned (.tuple #[(Ae aT aU aV aW aX aY aZ),(vb r1)])∧∀p3 w3,New w2 (.cells #[(vi 0),(vi 0),(vi 0),(vu 0),ve,(vi 0),(vi 0)] 103) p3 w3→(∀j,j<7→zT w3 (p3.add j))∧∀w4,w4=storeRow w3 p3 (Ac aT aU aV aW aX aY aZ)→Br (!r1) ((∀j,j<6→zT w4 (p2.add j))∧∀w5,w5=storeRow w4 p2 [(vi 0),(vi 0),(vi 0),(vu 0),ve,Sl.nil.v]→∃bH bI bJ bK bL cJ,Row w5 p2 (Ad bH bI bJ bK bL cJ)∧K bH bI bJ bK bL cJ w5) (∃v1,w4.cell? p3=some (vi v1)∧∃v2,w4.cell? (p3.add 1)=some (vi v2)∧∃v3,w4.cell? (p3.add 2)=some (vi v3)∧∃v4,w4.cell? (p3.add 3)=some (vu v4)∧∃v5,w4.cell? (p3.add 4)=some (vs v5)∧∀p4 w6,New w4 (.cells #[(vi 0),(vi 0),(vi 0),(vu 0),ve,Sl.nil.v] 28) p4 w6→(∀j,j<6→zT w6 (p4.add j))∧∀w7,w7=storeRow w6 p4 [(vi v1),(vi v2),(vi v3),(vu v4),(vs v5),Sl.nil.v]→Calls prog 84 #[(vp p1),(vi t1)] w7 (fun e w8=>∃r2:Sl,e=.returned r2.v∧∃(I1:Int→WP) (mu1:Int→World→Nat),I1 0 w8∧∀(x1:Int) (wl1:World),I1 x1 wl1→m_J1_l1 p1 p2 p4 r2 x1 wl1 (fun y'0 w'=>I1 y'0 w'∧mu1 y'0 w'<mu1 x1 wl1) K)))
theorem w_J1 (p1 t1 w K) (h:m_J1 p1 t1 w K):
  Calls prog 38 #[(vp p1),(vi t1)] w (fun e w'=>∃cV cW cX cY cZ dA,e=.returned (Aa cV cW cX cY cZ dA)∧K cV cW cX cY cZ dA w'):=by
 refine cw (args:=[(vp p1),(vi t1)]) func38 ntmps38 (eg (sn (O:=(.cells #[(vi 0),(vi 0),(vi 0),(vu 0),ve,Sl.nil.v] 28)) (zI (zeroValue28 _) rfl) ?_))
 intro p2 w1 hn9
 have h:=h p2 w1 hn9
 refine ln (eg (qb (sc call61 (h.mono fun e w2 ⟨aT,aU,aV,aW,aX,aY,aZ,r1,k,h⟩=>⟨_,k,?_⟩))))
 refine qc (nw1 h (zI (zeroValue103 _) rfl) fun p3 w3 h=>sro (sizeOf103 _) h fun w4 h=>q (ln (zB (eg (qb (ln (cbr h ?_ ?_)))))))<;>intro h
 refine eg (q (sro (sizeOf28 _) h fun w5 h=>ln (er (vA ?_))))
 obtain ⟨bH,bI,bJ,bK,bL,cJ,hv1,h⟩:=h
 refine gg1 results38 (rva (isAgg28 _) (sizeOf28 _) hv1) ⟨bH,bI,bJ,bK,bL,cJ,rfl,h⟩
 refine zD (zN (eg (q (ql (isAgg3 _) h fun v1 h=>q (ql (isAgg3 _) h fun v2 h=>q (ql (isAgg3 _) h fun v3 h=>q (ql (isAgg26 _) h fun v4 h=>q (ql (isAgg9 _) h fun v5 h=>q (sn (O:=(.cells #[(vi 0),(vi 0),(vi 0),(vu 0),ve,Sl.nil.v] 28)) (zI (zeroValue28 _) rfl) ?_)))))))))
 intro p4 w6 hn7
 have h:=h p4 w6 hn7
 refine sro (sizeOf28 _) h fun w7 h=>ln (zB (eg (qb (sc call84 (h.mono fun e w8 ⟨r2,k,h⟩=>⟨_,k,?_⟩)))))
 refine qb (ln (zL ?_))
 obtain ⟨I1,mu1,h0,hr⟩:=h
 refine vU (σ:=Int×World) (fun s ρ w=>w=s.2∧Has ρ [(0,(vp p1)),(4,(vp (some p2))),(7,(vp (some p4))),(32,r2.v),(33,(vi (r2.len:Int))),(34,(vi s.1))]∧I1 s.1 s.2) (fun s=>mu1 s.1 s.2) (0,w8) ⟨rfl,hm,h0⟩ ?_
 rintro ⟨x1,wl1⟩ ρ w ⟨hw,hH,hI⟩
 dsimp only at hw hH;subst w
 have h:=hr x1 wl1 hI
 refine zQ hH (eg (q (ln (zB (cbr h ?_ ?_)))))<;>intro h
 refine zD (zN (zB (zL (eg (qi (runUnderlying137 _) (sizeOf23 _) h fun a1 h=>ql (isAgg23 _) h fun v6 h=>q (ln ?_))))))
 obtain ⟨C1,hC,h⟩:=h
 refine dr1 C1 [4,5,6,8] [8] hC h fun w9 h=>qx 0 (vp (some (p4.add 5))) Kp0 (qg 1 ?_)
 obtain ⟨v7,hv3,h⟩:=h
 refine sy Kp1 (fun _ k=>xl (isAgg22 _) (hv3 _ k)) (qx 2 (vp p1) Kp2 (qx 3 (vi v6) Kp3 (lg 4 (slc Kp4 call38 (h.mono ?_)))))
 rintro e w10 ⟨cM,cN,cO,cP,cQ,cR,rfl,hC,h⟩
 refine ⟨_,rfl,.inr hC,?_⟩
 refine lg 5 (qL (O:=(.cells #[(vi cM),(vi cN),(vi cO),(vu cP),(vs cQ),cR.v] 28)) (fun p=>(Sl.mk (some p) 1 1).v) Kp5 (zJ rfl) (by kernel_rfl) (vD (vs:=#[(0,(Aa cM cN cO cP cQ cR))]) (by kernel_rfl) (by kernel_rfl)) ?_)
 intro p5 w11 hn5
 have h:=h p5 w11 hn5
 refine ⟨.inr h.1,?_⟩
 have h:=h.2
 refine lg 6 ?_
 obtain ⟨s1,w12,hv2,hC,h⟩:=h
 refine sl (v:=s1.v) Kp6 (zJ rfl) (by kernel_rfl) (vC (args:=#[v7.v,(Sl.mk (some p5) 1 1).v]) (by kernel_rfl) (fun _=>rfl) hv2) (.inr hC) (qx 7 (vp (some (p4.add 5))) Kp7 (lg 8 ?_))
 obtain ⟨hp4,h⟩:=h
 refine jQE Kp8 (xs (v:=s1.v) (sizeOf22 _) hp4) ?_
 intro w13 hn4
 have h:=h w13 hn4
 refine ⟨.inl (by kernel_rfl),?_⟩
 refine wn (xE (zN (rg (qb (ln ⟨((q6.wrap (x1+1)),w13),⟨rfl,hm,h.1⟩,h.2⟩)))))
 refine vQ (xG (xG (xA (zN (eg ?_)))))
 obtain ⟨aA,aB,aC,aD,aE,bG,hv7,h⟩:=h
 refine qa (isAgg28 _) (sizeOf28 _) hv7 (sro (sizeOf28 _) h fun w14 h=>ln (er ?_))
 obtain ⟨bZ,cA,cB,cC,cD,cI,hv6,h⟩:=h
 refine gg1 results38 (rva (isAgg28 _) (sizeOf28 _) hv6) ⟨bZ,cA,cB,cC,cD,cI,rfl,h⟩
def m_L_l4 (inside1:Int) (seen1:Option Addr) (p1:Addr) (e3 i1:Int) (wl1:World) (Kc4:Int→Int→WP) (K:Int→WP):Prop :=∃v2:Sl,wl1.cell? (p1.add 5)=some v2.v∧Br (decide (i1<(v2.len:Int))) (Br (e3 == 0) (∃v3:Sl,wl1.cell? (p1.add 5)=some v3.v∧∃a3:Addr,At v3 i1 6 a3∧∃bM bN bO bP bQ bR,Row wl1 a3 (Ad bM bN bO bP bQ bR)∧Calls prog 54 #[(.agg #[(vi bM),(vi bN),(vi bO),(vu bP),(vs bQ),bR.v]),(vi (q6.wrap (inside1+1))),(vp seen1)] wl1 (fun e w9=>∃r2,e=.returned (vi r2)∧Kc4 r2 (q6.wrap (i1+1)) w9)) (K e3 wl1)) (K e3 wl1)
def m_L_j3 (inside1:Int) (seen1:Option Addr) (p1:Addr) (e2:Int) (w:World) (K:Int→WP):Prop :=∃(I1:Int→Int→WP) (mu1:Int→Int→World→Nat),I1 e2 0 w∧∀(e3 i1:Int) (wl1:World),I1 e3 i1 wl1→m_L_l4 inside1 seen1 p1 e3 i1 wl1 (fun y'0 y'1 w'=>I1 y'0 y'1 w'∧mu1 y'0 y'1 w'<mu1 e3 i1 wl1) K
def m_L_j2 (inside1:Int) (seen1:Option Addr) (p1 p2 p3:Addr) (e1:Int) (w:World) (K:Int→WP):Prop :=Br (e1 == 0) (∃vfrom1 vto1 vnum1 vtext1 vkids1,Row w p3 (Ag vfrom1 vto1 vnum1 vtext1 vkids1)∧∃bS bT bU bV bW bX bY,Row w p2 (Ac bS bT bU bV bW bX bY)∧Calls prog 109 #[(.agg #[(vb vfrom1),(vb vto1),(vb vnum1),(vb vtext1),(vi vkids1)]),(.agg #[(vi bS),(vi bT),(vi bU),(vu bV),(vs bW),(vi bX),(vi bY)])] w (fun e w10=>∃r3,e=.returned (vi r3)∧m_L_j3 inside1 seen1 p1 r3 w10 K)) (m_L_j3 inside1 seen1 p1 e1 w K)
def m_L_j1 (inside1:Int) (seen1:Option Addr) (p1:Addr) (w:World) (K:Int→WP):Prop :=∃a1,seen1=some a1∧∃v1,w.cell? a1=some (vi v1)∧∃a2,seen1=some a2∧zT w a2∧∀w2,w2=w.setCell a2 (vi (q6.wrap (v1+1)))→∃aA aB aC aD aE bG,Row w2 p1 (Ad aA aB aC aD aE bG)∧Calls prog 107 #[(.agg #[(vi aA),(vi aB),(vi aC),(vu aD),(vs aE),bG.v])] w2 (fun e w3=>∃aT aU aV aW aX aY aZ,e=.returned (Ae aT aU aV aW aX aY aZ)∧∀p2 w4,New w3 (.cells #[(vi 0),(vi 0),(vi 0),(vu 0),ve,(vi 0),(vi 0)] 103) p2 w4→(∀j,j<7→zT w4 (p2.add j))∧∀w5,w5=storeRow w4 p2 (Ac aT aU aV aW aX aY aZ)→∃aO aP aQ aR aS aF aG,Row w5 p2 (Ac aO aP aQ aR aS aF aG)∧Calls prog 108 #[(.agg #[(vi aO),(vi aP),(vi aQ),(vu aR),(vs aS),(vi aF),(vi aG)])] w5 (fun e w6=>∃rfrom1 rto1 rnum1 rtext1 rkids1 r1,e=.returned (.tuple #[(Aj rfrom1 rto1 rnum1 rtext1 rkids1),(vi r1)])∧∀p3 w7,New w6 (.cells #[(vb false),(vb false),(vb false),(vb false),(vi 0)] 170) p3 w7→(∀j,j<5→zT w7 (p3.add j))∧∀w8,w8=storeRow w7 p3 (Ag rfrom1 rto1 rnum1 rtext1 rkids1)→Br (r1 == 0) (∃v4:Sl,w8.cell? (p1.add 5)=some v4.v∧∃v5,w8.cell? (p3.add 4)=some (vi v5)∧Br (((v4.len:Int):Int) != v5) (m_L_j2 inside1 seen1 p1 p2 p3 53 w8 K) (m_L_j2 inside1 seen1 p1 p2 p3 r1 w8 K)) (m_L_j2 inside1 seen1 p1 p2 p3 r1 w8 K)))
def m_L (bA bB:Int) (bC bD:Int) (bE:ByteArray) (bF:Sl) (inside1:Int) (seen1:Option Addr) (w:World) (K:Int→WP):Prop :=∀p1 w1,New w (.cells #[(vi bA),(vi bB),(vi bC),(vu bD),(vs bE),bF.v] 28) p1 w1→∃a4,seen1=some a4∧∃v6,w1.cell? a4=some (vi v6)∧Br (decide (v6≥4096)) (K 52 w1) (Br (decide (inside1≥64)) (K 52 w1) (m_L_j1 inside1 seen1 p1 w1 K))
theorem w_L (bA bB bC bD bE bF inside1 seen1 w K) (h:m_L bA bB bC bD bE bF inside1 seen1 w K):
  Calls prog 54 #[(.agg #[(vi bA),(vi bB),(vi bC),(vu bD),(vs bE),bF.v]),(vi inside1),(vp seen1)] w (fun e w'=>∃r4,e=.returned (vi r4)∧K r4 w'):=by
 refine cw (args:=[(Aa bA bB bC bD bE bF),(vi inside1),(vp seen1)]) func54 ntmps54 (eg (sn (O:=(.cells #[(vi bA),(vi bB),(vi bC),(vu bD),(vs bE),bF.v] 28)) xb ?_))
 intro p1 w1 hn6
 have h:=h p1 w1 hn6
 refine q (ln (qE (fun ρ w=>Has ρ [(1,(vi inside1)),(2,(vp seen1)),(3,(vp (some p1)))]∧m_L_j1 inside1 seen1 p1 w K) ?_ ?_))
 rintro ρ w ⟨hH,h⟩
 refine zQ hH (eg (q (qm h fun a1 h=>ql (isAgg3 _) h fun v1 h=>q (qm h fun a2 h=>st1 (sizeOf3 _) h fun w2 h=>ln (eg ?_)))))
 obtain ⟨aA,aB,aC,aD,aE,bG,hv10,h⟩:=h
 refine qa (isAgg28 _) (sizeOf28 _) hv10 (sc call107 (h.mono fun e w3 ⟨aT,aU,aV,aW,aX,aY,aZ,k,h⟩=>⟨_,k,?_⟩))
 refine nw1 h (zI (zeroValue103 _) rfl) fun p2 w4 h=>sro (sizeOf103 _) h fun w5 h=>ln (eg ?_)
 obtain ⟨aO,aP,aQ,aR,aS,aF,aG,hv9,h⟩:=h
 refine qa (isAgg103 _) (sizeOf103 _) hv9 (sc call108 (h.mono fun e w6 ⟨rfrom1,rto1,rnum1,rtext1,rkids1,r1,k,h⟩=>⟨_,k,?_⟩))
 refine qc (nw1 h (zI (zeroValue170 _) rfl) fun p3 w7 h=>sro (sizeOf170 _) h fun w8 h=>q (ln (qE (fun ρ w=>∃e1,Has ρ [(1,(vi inside1)),(2,(vp seen1)),(3,(vp (some p1))),(7,(vp (some p2))),(8,(vp (some p3))),(9,(vi e1))]∧m_L_j2 inside1 seen1 p1 p2 p3 e1 w K) ?_ ?_)))
 rintro ρ w ⟨e1,hH,h⟩
 refine zQ hH (qE (fun ρ w=>∃e2,Has ρ [(1,(vi inside1)),(2,(vp seen1)),(3,(vp (some p1))),(9,(vi e2))]∧m_L_j3 inside1 seen1 p1 e2 w K) ?_ ?_)
 rintro ρ w ⟨e2,hH,h⟩
 refine zQ hH (zB (eg (q (ln (zL ?_)))))
 obtain ⟨I1,mu1,h0,hr⟩:=h
 refine vU (σ:=Int×Int×World) (fun s ρ w=>w=s.2.2∧Has ρ [(1,(vi inside1)),(2,(vp seen1)),(3,(vp (some p1))),(9,(vi s.1)),(10,(vi s.2.1))]∧I1 s.1 s.2.1 s.2.2) (fun s=>mu1 s.1 s.2.1 s.2.2) (e2,0,w) ⟨rfl,hm,h0⟩ ?_
 rintro ⟨e3,i1,wl1⟩ ρ w ⟨hw,hH,hI⟩
 dsimp only at hw hH;subst w
 have h:=hr e3 i1 wl1 hI
 refine zQ hH (zB (eg (qb (ql (isAgg22 _) h fun v2 h=>qc ?_))))
 obtain ⟨hg1,h⟩|⟨hg1,h⟩:=h.br
 refine qk 51 hg1 (qk 51 hg1 (q2 (vb (e3 == 0)) (xT hg1) (ln (cbr h ?_ ?_))))<;>intro h
 refine zD (zN (zB (zL (rg (q (ql (isAgg22 _) h fun v3 h=>q (qi (runUnderlying22 _) (sizeOf28 _) h fun a3 h=>?_)))))))
 obtain ⟨bM,bN,bO,bP,bQ,bR,hv1,h⟩:=h
 refine qa (isAgg28 _) (sizeOf28 _) hv1 (qc (sc call54 (h.mono fun e w9 ⟨r2,k,h⟩=>⟨_,k,?_⟩)))
 refine q (zC (xE (zN (rg (qc (ln ⟨(r2,(q6.wrap (i1+1)),w9),⟨rfl,hm,h.1⟩,h.2⟩))))))
 refine vQ (xG (xG (xA (zN (eg (q0 (vi e3) (q0 (vi e3) (ln (er (rs1 results54 ⟨e3,rfl,h⟩))))))))))
 refine sj2 51 hg1 (q2 (vb false) (xF hg1) (ln (uV (by kernel_rfl) (vQ (xG (xG (xA (zN (zB (rg (qb (ln (er (rs1 results54 ⟨e3,rfl,h⟩))))))))))))))
 refine eg (qb (ln (cbr h ?_ ?_)))<;>intro h
 refine rg ?_
 obtain ⟨vfrom1,vto1,vnum1,vtext1,vkids1,hv6,h⟩:=h
 refine qa (isAgg170 _) (sizeOf170 _) hv6 ?_
 obtain ⟨bS,bT,bU,bV,bW,bX,bY,hv5,h⟩:=h
 refine qa (isAgg103 _) (sizeOf103 _) hv5 (sc call109 (h.mono fun e w10 ⟨r3,k,h⟩=>⟨_,k,?_⟩))
 refine q (ln ⟨r3,hm,h⟩)
 refine zD (zN ⟨e1,hm,h⟩)
 refine eg (qc ?_)
 obtain ⟨hg2,h⟩|⟨hg2,h⟩:=h.br
 refine qk 33 hg2 ?_
 obtain ⟨v4,hv8,h⟩:=h
 refine q4 33 hg2 (xl (isAgg22 _) hv8) (qk 33 hg2 (qk 33 hg2 ?_))
 obtain ⟨v5,hv7,h⟩:=h
 refine q4 33 hg2 (xl (isAgg3 _) hv7) (qk 33 hg2 (q2 (vb (((v4.len:Int):Int) != v5)) (xT hg2) (ln (cbr h ?_ ?_))))<;>intro h
 refine rg (q (ln ⟨53,hm,h⟩))
 refine zD (zN ⟨r1,hm,h⟩)
 refine sj 33 hg2 (sj5 33 hg2 (q2 (vb false) (xF hg2) (ln (uV (by kernel_rfl) (zD (zN ⟨r1,hm,h⟩))))))
 refine eg (q (qm h fun a4 h=>ql (isAgg3 _) h fun v6 h=>qb ?_))
 obtain ⟨hg3,h⟩|⟨hg3,h⟩:=h.br
 refine sj2 15 hg3 (q2 (vb true) (xT hg3) (ln (yI (by kernel_rfl) (eg (q0 (vi 52) (ln (er (vA (rs1 results54 ⟨52,rfl,h⟩)))))))))
 refine qk 15 hg3 (qk 15 hg3 (q2 (vb (decide (inside1≥64))) (xF hg3) (ln (cbr h ?_ ?_))))<;>intro h
 refine eg (q (ln (er (vA (rs1 results54 ⟨52,rfl,h⟩)))))
 refine zD (zN ⟨hm,h⟩)
def m_K1_l1 (p1:Option Addr) (p3 p4:Addr) (v1:Sl) (x1:Int) (wl1:World) (Kc1:Int→WP) (K:Int→Int→WP):Prop :=Br (decide (x1<(v1.len:Int))) (∃a1:Addr,At v1 x1 6 a1∧∃aO aP aQ aR aS bR,Row wl1 a1 (Ad aO aP aQ aR aS bR)∧∀p5 w6,New wl1 (.cells #[(vi 0),(vi 0),(vi 0),(vu 0),ve,Sl.nil.v] 28) p5 w6→(∀j,j<6→zT w6 (p5.add j))∧∀w7,w7=storeRow w6 p5 (Ad aO aP aQ aR aS bR)→∃bM bN bO bP bQ cS,Row w7 p5 (Ad bM bN bO bP bQ cS)∧Calls prog 55 #[(vp p1),(.agg #[(vi bM),(vi bN),(vi bO),(vu bP),(vs bQ),cS.v])] w7 (fun e w8=>∃r1 r2,e=.returned (.tuple #[(vi r1),(vi r2)])∧Br (r2 != 0) (K 0 r2 w8) (∃a2:Addr,At (Sl.mk (some p4) 2 2) x1 1 a2∧∃v2,w8.cell? a2=some (vp v2)∧∃a3,v2=some a3∧zT w8 a3∧∀w9,w9=w8.setCell a3 (vi r1)→Kc1 (q6.wrap (x1+1)) w9))) (∃bS bT bU bV bW aF aG,Row wl1 p3 (Ac bS bT bU bV bW aF aG)∧Calls prog 97 #[(vp p1),(.agg #[(vi bS),(vi bT),(vi bU),(vu bV),(vs bW),(vi aF),(vi aG)])] wl1 (fun e w10=>∃r3 r4,e=.returned (.tuple #[(vi r3),(vi r4)])∧K r3 r4 w10))
def m_K1 (p1:Option Addr) (bA bB:Int) (bC bD:Int) (bE:ByteArray) (bF:Sl) (w:World) (K:Int→Int→WP):Prop :=∀p2 w1,New w (.cells #[(vi bA),(vi bB),(vi bC),(vu bD),(vs bE),bF.v] 28) p2 w1→∃aA aB aC aD aE bG,Row w1 p2 (Ad aA aB aC aD aE bG)∧Calls prog 107 #[(.agg #[(vi aA),(vi aB),(vi aC),(vu aD),(vs aE),bG.v])] w1 (fun e w2=>∃aT aU aV aW aX aY aZ,e=.returned (Ae aT aU aV aW aX aY aZ)∧∀p3 w3,New w2 (.cells #[(vi 0),(vi 0),(vi 0),(vu 0),ve,(vi 0),(vi 0)] 103) p3 w3→(∀j,j<7→zT w3 (p3.add j))∧∀w4,w4=storeRow w3 p3 (Ac aT aU aV aW aX aY aZ)→∀p4 w5,New w4 (.cells #[(vp (some (p3.add 5))),(vp (some (p3.add 6)))] 174) p4 w5→∃v1:Sl,w5.cell? (p2.add 5)=some v1.v∧∃(I1:Int→WP) (mu1:Int→World→Nat),I1 0 w5∧∀(x1:Int) (wl1:World),I1 x1 wl1→m_K1_l1 p1 p3 p4 v1 x1 wl1 (fun y'0 w'=>I1 y'0 w'∧mu1 y'0 w'<mu1 x1 wl1) K)
theorem w_K1 (p1 bA bB bC bD bE bF w K) (h:m_K1 p1 bA bB bC bD bE bF w K):
  Calls prog 55 #[(vp p1),(.agg #[(vi bA),(vi bB),(vi bC),(vu bD),(vs bE),bF.v])] w (fun e w'=>∃r5 r6,e=.returned (.tuple #[(vi r5),(vi r6)])∧K r5 r6 w'):=by
 refine cw (args:=[(vp p1),(Aa bA bB bC bD bE bF)]) func55 ntmps55 (eg (sn (O:=(.cells #[(vi bA),(vi bB),(vi bC),(vu bD),(vs bE),bF.v] 28)) xb ?_))
 intro p2 w1 hn7
 have h:=h p2 w1 hn7
 refine qb (ln (eg ?_))
 obtain ⟨aA,aB,aC,aD,aE,bG,hv8,h⟩:=h
 refine qa (isAgg28 _) (sizeOf28 _) hv8 (sc call107 (h.mono fun e w2 ⟨aT,aU,aV,aW,aX,aY,aZ,k,h⟩=>⟨_,k,?_⟩))
 refine nw1 h (zI (zeroValue103 _) rfl) fun p3 w3 h=>sro (sizeOf103 _) h fun w4 h=>ln (eg (qb (nw4 (fun p=>(Sl.mk (some p) 2 2).v) h fun p4 w5 h=>q (ln (zB (eg (q (ql (isAgg22 _) h fun v1 h=>qb (ln (zL ?_))))))))))
 obtain ⟨I1,mu1,h0,hr⟩:=h
 refine vU (σ:=Int×World) (fun s ρ w=>w=s.2∧Has ρ [(0,(vp p1)),(6,(vp (some p3))),(7,(Sl.mk (some p4) 2 2).v),(18,v1.v),(19,(vi (v1.len:Int))),(20,(vi s.1))]∧I1 s.1 s.2) (fun s=>mu1 s.1 s.2) (0,w5) ⟨rfl,hm,h0⟩ ?_
 rintro ⟨x1,wl1⟩ ρ w ⟨hw,hH,hI⟩
 dsimp only at hw hH;subst w
 have h:=hr x1 wl1 hI
 refine zQ hH (eg (q (ln (zB (cbr h ?_ ?_)))))<;>intro h
 refine zD (zN (zB (zL (eg (q (qi (runUnderlying22 _) (sizeOf28 _) h fun a1 h=>?_))))))
 obtain ⟨aO,aP,aQ,aR,aS,bR,hv4,h⟩:=h
 refine qa (isAgg28 _) (sizeOf28 _) hv4 (nw1 h (zI (zeroValue28 _) rfl) fun p5 w6 h=>q (sro (sizeOf28 _) h fun w7 h=>ln (eg (q ?_))))
 obtain ⟨bM,bN,bO,bP,bQ,cS,hv3,h⟩:=h
 refine qa (isAgg28 _) (sizeOf28 _) hv3 (sc call55 (h.mono fun e w8 ⟨r1,r2,k,h⟩=>⟨_,k,?_⟩))
 refine q (qd (ln (zB (eg (qb (ln (cbr h ?_ ?_)))))))<;>intro h
 refine eg (qc (ln (er (vA (yC (vA (vA (yC (vA (xC (.inl rfl) results55 (v:=(vi 0)) (by kernel_rfl) (v':=(vi r2)) (by kernel_rfl) ⟨0,r2,rfl,h⟩))))))))))
 refine zD (zN (rg (qb (qi (runUnderlying175 _) (sizeOf174 _) h fun a2 h=>ql (isAgg174 _) h fun v2 h=>q (qm h fun a3 h=>st1 (sizeOf23 _) h fun w9 h=>zC (xE (zN (rg (qb (ln ⟨((q6.wrap (x1+1)),w9),⟨rfl,hm,h.1⟩,h.2⟩))))))))))
 refine vQ (xG (xG (xA (zN (eg (q0 (vp p1) ?_))))))
 obtain ⟨bS,bT,bU,bV,bW,aF,aG,hv6,h⟩:=h
 refine qa (isAgg103 _) (sizeOf103 _) hv6 (sc call97 (h.mono fun e w10 ⟨r3,r4,k,h⟩=>⟨_,k,?_⟩))
 refine qd (ln (er (xC (.inl rfl) results55 (v:=(vi r3)) (by kernel_rfl) (v':=(vi r4)) (by kernel_rfl) ⟨r3,r4,rfl,h⟩)))
def m_L1_l1 (p1:Option Addr) (n1:Int) (s1:Sl) (x1:Int) (wl1:World) (Kc1:Int→WP) (K:WP):Prop :=Br (decide (x1<(s1.len:Int))) (∃a2:Addr,At s1 x1 9 a2∧∃vnodeKind1 vnodeFrom1 vnodeTo1 vnodeNum1 vnodeText1 vnodeA1 vnodeB1 vsize1 vdepth1,Row wl1 a2 [(vi vnodeKind1),(vi vnodeFrom1),(vi vnodeTo1),(vu vnodeNum1),(vs vnodeText1),(vi vnodeA1),(vi vnodeB1),(vi vsize1),(vi vdepth1)]∧∀p2 w1,New wl1 (.cells #[(vi 0),(vi 0),(vi 0),(vu 0),ve,(vi 0),(vi 0),(vi 0),(vi 0)] 177) p2 w1→(∀j,j<9→zT w1 (p2.add j))∧∀w2,w2=storeRow w1 p2 [(vi vnodeKind1),(vi vnodeFrom1),(vi vnodeTo1),(vu vnodeNum1),(vs vnodeText1),(vi vnodeA1),(vi vnodeB1),(vi vsize1),(vi vdepth1)]→∃C1:WP,C1 w2.drew∧∀w3,w3=w2.drew→∃a3,p1=some a3∧∃v2:Option Nat,(∀w',C1 w'→w'.cell? (a3.add 1)=some (.map v2))∧∃aA aB aC aD aE aF aG,(∀w',C1 w'→Row w' p2 (Ac aA aB aC aD aE aF aG))∧∃w4:World,(Builtin.delete_ #[93,103] 0 #[(.map v2),(Ae aA aB aC aD aE aF aG)]).run prog w3=.ok (.tuple #[]) w4∧Kc1 (q6.wrap (x1+1)) w4) (∃a4,p1=some a4∧∃v3:Sl,wl1.cell? a4=some v3.v∧∃s2:Sl,(Instr.sliceAt 94 v3.v none (some (vi n1)) none).run prog wl1=.ok s2.v wl1∧∃a5,p1=some a5∧zT wl1 a5∧∀w5,w5=wl1.setCell a5 s2.v→K w5)
def m_L1 (p1:Option Addr) (n1:Int) (w:World) (K:WP):Prop :=∃a1,p1=some a1∧∃v1:Sl,w.cell? a1=some v1.v∧∃s1:Sl,(Instr.sliceAt 94 v1.v (some (vi n1)) none none).run prog w=.ok s1.v w∧∃(I1:Int→WP) (mu1:Int→World→Nat),I1 0 w∧∀(x1:Int) (wl1:World),I1 x1 wl1→m_L1_l1 p1 n1 s1 x1 wl1 (fun y'0 w'=>I1 y'0 w'∧mu1 y'0 w'<mu1 x1 wl1) K
theorem w_L1 (p1 n1 w K) (h:m_L1 p1 n1 w K):
  Calls prog 56 #[(vp p1),(vi n1)] w (fun e w'=>e=.returned (.tuple #[])∧K  w'):=by
 refine cw (args:=[(vp p1),(vi n1)]) func56 ntmps56 (zB (eg (q0 (vp p1) ?_)))
 refine qm h fun a1 h=>q (ql (isAgg94 _) h fun v1 h=>q ?_)
 obtain ⟨s1,hv8,h⟩:=h
 refine q2 s1.v (qU (by kernel_rfl) (by kernel_rfl) (by kernel_rfl) (by kernel_rfl) hv8) (qb (ln (zL ?_)))
 obtain ⟨I1,mu1,h0,hr⟩:=h
 refine vU (σ:=Int×World) (fun s ρ w=>w=s.2∧Has ρ [(0,(vp p1)),(1,(vi n1)),(11,s1.v),(12,(vi (s1.len:Int))),(13,(vi s.1))]∧I1 s.1 s.2) (fun s=>mu1 s.1 s.2) (0,w) ⟨rfl,hm,h0⟩ ?_
 rintro ⟨x1,wl1⟩ ρ w ⟨hw,hH,hI⟩
 dsimp only at hw hH;subst w
 have h:=hr x1 wl1 hI
 refine zQ hH (eg (q (ln (zB (cbr h ?_ ?_)))))<;>intro h
 refine zD (zN (zB (zL (eg (qi (runUnderlying94 _) (sizeOf177 _) h fun a2 h=>?_)))))
 obtain ⟨vnodeKind1,vnodeFrom1,vnodeTo1,vnodeNum1,vnodeText1,vnodeA1,vnodeB1,vsize1,vdepth1,hv4,h⟩:=h
 refine qa (isAgg177 _) (sizeOf177 _) hv4 (nw1 h (zI (zeroValue177 _) rfl) fun p2 w1 h=>sro (sizeOf177 _) h fun w2 h=>ln ?_)
 obtain ⟨C1,hC,h⟩:=h
 refine dr1 C1 [6] [6] hC h fun w3 h=>qx 0 (vp p1) Kp0 (qg 1 ?_)
 obtain ⟨a3,hp3,h⟩:=h
 refine sy Kp1 (fun _ _=>xn hp3) (qx 2 (vp (some (a3.add 1))) Kp2 (qg 3 ?_))
 obtain ⟨v2,hv3,h⟩:=h
 refine sy Kp3 (fun _ k=>xl (isAgg93 _) (hv3 _ k)) (qx 4 (vp (some p2)) Kp4 (qg 5 ?_))
 obtain ⟨aA,aB,aC,aD,aE,aF,aG,hv2,h⟩:=h
 refine sy (v:=(Ae aA aB aC aD aE aF aG)) Kp5 (fun w' hw'=>(xa p2 (Ac aA aB aC aD aE aF aG) (isAgg103 _) (sizeOf103 _) (hv2 w' hw'))) (lg 6 ?_)
 obtain ⟨w4,hv1,h⟩:=h
 refine sl (v:=(.tuple #[])) Kp6 (zJ rfl) (by kernel_rfl) (vC (args:=#[(.map v2),(Ae aA aB aC aD aE aF aG)]) (by kernel_rfl) (fun _=>rfl) hv1) (.inl (by kernel_rfl)) (wn (xE (zN (rg (q0 (vi (q6.wrap (x1+1))) (q0 (vi (q6.wrap (x1+1))) (ln ⟨((q6.wrap (x1+1)),w4),⟨rfl,hm,h.1⟩,h.2⟩)))))))
 refine vQ (xG (xG (xA (zN (rg (q0 (vp p1) (q0 (vp p1) (qm h fun a4 h=>q (ql (isAgg94 _) h fun v3 h=>q ?_)))))))))
 obtain ⟨s2,hv6,h⟩:=h
 refine q2 s2.v (qU (by kernel_rfl) (by kernel_rfl) (by kernel_rfl) (by kernel_rfl) hv6) (qm h fun a5 h=>q (st1 (sizeOf94 _) h fun w5 h=>zC (jFH (.inr rfl) results56 ⟨rfl,h⟩)))
def m_A2 (p1:Option Addr) (t1:Int) (w:World) (K:Int→Int→Int→Int→ByteArray→Int→Int→Bool→WP):Prop :=∀p2 w1,New w (.cells #[(vi 0),(vi 0),(vi 0),(vu 0),ve,(vi 0),(vi 0)] 103) p2 w1→Calls prog 115 #[(vp p1),(vi t1)] w1 (fun e w2=>∃r1,e=.returned (vb r1)∧Br (!r1) ((∀j,j<7→zT w2 (p2.add j))∧∀w3,w3=storeRow w2 p2 (Ai 0 0 0 0 0 0)→∃bH bI bJ bK bL cE cF,Row w3 p2 (Ac bH bI bJ bK bL cE cF)∧K bH bI bJ bK bL cE cF false w3) (∃a1,p1=some a1∧∃v1:Sl,w2.cell? a1=some v1.v∧∃a2:Addr,At v1 (q6.wrap (t1 - 1)) 9 a2∧∃aA aB aC aD aE aF aG,Row w2 a2 (Ac aA aB aC aD aE aF aG)∧(∀j,j<7→zT w2 (p2.add j))∧∀w4,w4=storeRow w2 p2 (Ac aA aB aC aD aE aF aG)→∃bZ cA cB cC cD cK cL,Row w4 p2 (Ac bZ cA cB cC cD cK cL)∧K bZ cA cB cC cD cK cL true w4))
theorem w_A2 (p1 t1 w K) (h:m_A2 p1 t1 w K):
  Calls prog 61 #[(vp p1),(vi t1)] w (fun e w'=>∃aT aU aV aW aX aY aZ r2,e=.returned (.tuple #[(Ae aT aU aV aW aX aY aZ),(vb r2)])∧K aT aU aV aW aX aY aZ r2 w'):=by
 refine cw (args:=[(vp p1),(vi t1)]) func61 ntmps61 (eg (sn (O:=(.cells #[(vi 0),(vi 0),(vi 0),(vu 0),ve,(vi 0),(vi 0)] 103)) (zI (zeroValue103 _) rfl) ?_))
 intro p2 w1 hn3
 have h:=h p2 w1 hn3
 refine q (ln (zB (eg (qb (sc call115 (h.mono fun e w2 ⟨r1,k,h⟩=>⟨_,k,?_⟩))))))
 refine q (ln (cbr h ?_ ?_))<;>intro h
 refine eg (q (sro (sizeOf103 _) h fun w3 h=>q (ln (er (vA ?_)))))
 obtain ⟨bH,bI,bJ,bK,bL,cE,cF,hv1,h⟩:=h
 refine gg2 results61 (rva (isAgg103 _) (sizeOf103 _) hv1) (rvU (vb false)) ⟨bH,bI,bJ,bK,bL,cE,cF,false,rfl,h⟩
 refine zD (zN (eg (q (qm h fun a1 h=>q (ql (isAgg94 _) h fun v1 h=>qb (qi (runUnderlying94 _) (sizeOf177 _) h fun a2 h=>q ?_))))))
 obtain ⟨aA,aB,aC,aD,aE,aF,aG,hv3,h⟩:=h
 refine qa (isAgg103 _) (sizeOf103 _) hv3 (sro (sizeOf103 _) h fun w4 h=>q (ln (er ?_)))
 obtain ⟨bZ,cA,cB,cC,cD,cK,cL,hv2,h⟩:=h
 refine gg2 results61 (rva (isAgg103 _) (sizeOf103 _) hv2) (rvU (vb true)) ⟨bZ,cA,cB,cC,cD,cK,cL,true,rfl,h⟩
def m_T2 (p1:Option Addr) (t1:Int) (w:World) (K:Int→WP):Prop :=Calls prog 115 #[(vp p1),(vi t1)] w (fun e w1=>∃r1,e=.returned (vb r1)∧Br (!r1) (K 0 w1) (∃a1,p1=some a1∧∃v1:Sl,w1.cell? a1=some v1.v∧∃a2:Addr,At v1 (q6.wrap (t1 - 1)) 9 a2∧∃v2,w1.cell? (a2.add 7)=some (vi v2)∧K v2 w1))
theorem w_T2 (p1 t1 w K) (h:m_T2 p1 t1 w K):
  Calls prog 67 #[(vp p1),(vi t1)] w (fun e w'=>∃r2,e=.returned (vi r2)∧K r2 w'):=by
 refine cw (args:=[(vp p1),(vi t1)]) func67 ntmps67 (eg (q0 (vi 0) (ln (zB (eg (q0 (vp p1) (q0 (vi t1) ?_)))))))
 refine sc call115 (h.mono fun e w1 ⟨r1,k,h⟩=>⟨_,k,?_⟩)
 refine q (ln (cbr h ?_ ?_))<;>intro h
 refine eg (q (ln (er (vA (rs1 results67 ⟨0,rfl,h⟩)))))
 refine zD (zN (eg (q (qm h fun a1 h=>q (ql (isAgg94 _) h fun v1 h=>qb (qi (runUnderlying94 _) (sizeOf177 _) h fun a2 h=>q (ql (isAgg3 _) h fun v2 h=>q (ln (er (rs1 results67 ⟨v2,rfl,h⟩))))))))))
def m_U2 (p1:Option Addr) (t1:Int) (w:World) (K:Sl→WP):Prop :=Calls prog 61 #[(vp p1),(vi t1)] w (fun e w1=>∃aT aU aV aW aX aY aZ r1,e=.returned (.tuple #[(Ae aT aU aV aW aX aY aZ),(vb r1)])∧∀p2 w2,New w1 (.cells #[(vi 0),(vi 0),(vi 0),(vu 0),ve,(vi 0),(vi 0)] 103) p2 w2→(∀j,j<7→zT w2 (p2.add j))∧∀w3,w3=storeRow w2 p2 (Ac aT aU aV aW aX aY aZ)→∃v1,w3.cell? p2=some (vi v1)∧Calls prog 136 #[(vi v1)] w3 (fun e w4=>∃rfrom1 rto1 rnum1 rtext1 rkids1 r2,e=.returned (.tuple #[(Aj rfrom1 rto1 rnum1 rtext1 rkids1),(vb r2)])∧∀p3 w5,New w4 (.cells #[(vb false),(vb false),(vb false),(vb false),(vi 0)] 170) p3 w5→(∀j,j<5→zT w5 (p3.add j))∧∀w6,w6=storeRow w5 p3 (Ag rfrom1 rto1 rnum1 rtext1 rkids1)→∃v2,w6.cell? (p2.add 5)=some (vi v2)∧∃v3,w6.cell? (p2.add 6)=some (vi v3)∧∀p4 w7,New w6 (.cells #[(vi v2),(vi v3)] 23) p4 w7→∃v4,w7.cell? (p3.add 4)=some (vi v4)∧∃s1:Sl,(Instr.sliceAt 137 (Sl.mk (some p4) 2 2).v none (some (vi v4)) none).run prog w7=.ok s1.v w7∧K s1 w7))
theorem w_U2 (p1 t1 w K) (h:m_U2 p1 t1 w K):
  Calls prog 84 #[(vp p1),(vi t1)] w (fun e w'=>∃r3:Sl,e=.returned r3.v∧K r3 w'):=by
 refine cw (args:=[(vp p1),(vi t1)]) func84 ntmps84 (eg (q0 Sl.nil.v (ln (eg (q0 (vp p1) (q0 (vi t1) ?_))))))
 refine sc call61 (h.mono fun e w1 ⟨aT,aU,aV,aW,aX,aY,aZ,r1,k,h⟩=>⟨_,k,?_⟩)
 refine qc (nw1 h (zI (zeroValue103 _) rfl) fun p2 w2 h=>sro (sizeOf103 _) h fun w3 h=>q (ln (eg (q (ql (isAgg3 _) h fun v1 h=>sc call136 (h.mono fun e w4 ⟨rfrom1,rto1,rnum1,rtext1,rkids1,r2,k,h⟩=>⟨_,k,?_⟩))))))
 refine qc (nw1 h (zI (zeroValue170 _) rfl) fun p3 w5 h=>sro (sizeOf170 _) h fun w6 h=>q (ln (eg (q (ql (isAgg23 _) h fun v2 h=>q (ql (isAgg23 _) h fun v3 h=>yX (O:=(.cells #[(vi v2),(vi v3)] 23)) (fun p=>(Sl.mk (some p) 2 2).v) (zJ rfl) (vD (vs:=#[(0,(vi v2)),(1,(vi v3))]) (by kernel_rfl) (by kernel_rfl)) ?_))))))
 intro p4 w7 hn3
 have h:=h p4 w7 hn3
 refine q (ql (isAgg3 _) h fun v4 h=>?_)
 obtain ⟨s1,hv1,h⟩:=h
 refine q2 s1.v (qU (by kernel_rfl) (by kernel_rfl) (by kernel_rfl) (by kernel_rfl) hv1) (q (ln (er (rs1 results84 ⟨s1,rfl,h⟩))))
def m_F2 (p1:Option Addr) (aH aI:Int) (aJ aK:Int) (aL:ByteArray) (aM aN:Int) (w:World) (K:Int→Int→WP):Prop :=∀p2 w1,New w (.cells #[(vi aH),(vi aI),(vi aJ),(vu aK),(vs aL),(vi aM),(vi aN)] 103) p2 w1→Br (Option.isNone p1) (K 0 0 w1) (∃aA aB aC aD aE aF aG,Row w1 p2 (Ac aA aB aC aD aE aF aG)∧Calls prog 137 #[(vp p1),(.agg #[(vi aA),(vi aB),(vi aC),(vu aD),(vs aE),(vi aF),(vi aG)])] w1 (fun e w2=>∃r1 r2 r3,e=.returned (.tuple #[(vi r1),(vi r2),(vi r3)])∧Br (r3 != 0) (K 0 r3 w2) (∀w3,w3=w2.drew→∃a1,p1=some a1∧∃v1:Option Nat,w3.cell? (a1.add 1)=some (.map v1)∧∃aO aP aQ aR aS bX bY,Row w3 p2 (Ac aO aP aQ aR aS bX bY)∧∃v2 ok1,(Instr.lookup 93 (.map v1) (.agg #[(vi aO),(vi aP),(vi aQ),(vu aR),(vs aS),(vi bX),(vi bY)]) true).run prog w3=.ok (.tuple #[(vi v2),(vb ok1)]) w3∧Br ok1 (K v2 0 w3) (∃a2,p1=some a2∧∃v3:Sl,w3.cell? a2=some v3.v∧Br (decide ((v3.len:Int)≥65536)) (K 0 6 w3) (∃C1:WP,C1 w3.drew∧∀w4,w4=w3.drew→∃a3,p1=some a3∧∃v4:Sl,(∀w',C1 w'→w'.cell? a3=some v4.v)∧∃bM bN bO bP bQ cG cH,(∀w',C1 w'→Row w' p2 (Ac bM bN bO bP bQ cG cH))∧∀p3 w5,New w4 (.cells #[(vi bM),(vi bN),(vi bO),(vu bP),(vs bQ),(vi cG),(vi cH),(vi r1),(vi r2)] 177) p3 w5→C1 w5∧∃s1:Sl,∃w6:World,(Builtin.append_ #[94,94] 94 #[v4.v,(Sl.mk (some p3) 1 1).v]).run prog w5=.ok s1.v w6∧C1 w6∧∃a4,p1=some a4∧zT w6 a4∧∀w7,w7=w6.setCell a4 s1.v→∃a5,p1=some a5∧∃v5:Sl,w7.cell? a5=some v5.v∧∃C2:WP,C2 w7.drew∧∀w8,w8=w7.drew→∃a6,p1=some a6∧∃v6:Option Nat,(∀w',C2 w'→w'.cell? (a6.add 1)=some (.map v6))∧∃bS bT bU bV bW cT cU,(∀w',C2 w'→Row w' p2 (Ac bS bT bU bV bW cT cU))∧∃w9:World,(Instr.mapUpdate 93 (.map v6) (.agg #[(vi bS),(vi bT),(vi bU),(vu bV),(vs bW),(vi cT),(vi cU)]) (vi (v5.len:Int))).run prog w8=.ok () w9∧K (v5.len:Int) 0 w9)))))
theorem w_F2 (p1 aH aI aJ aK aL aM aN w K) (h:m_F2 p1 aH aI aJ aK aL aM aN w K):
  Calls prog 97 #[(vp p1),(.agg #[(vi aH),(vi aI),(vi aJ),(vu aK),(vs aL),(vi aM),(vi aN)])] w (fun e w'=>∃r4 r5,e=.returned (.tuple #[(vi r4),(vi r5)])∧K r4 r5 w'):=by
 refine cw (args:=[(vp p1),(Ae aH aI aJ aK aL aM aN)]) func97 ntmps97 (eg (sn (O:=(.cells #[(vi aH),(vi aI),(vi aJ),(vu aK),(vs aL),(vi aM),(vi aN)] 103)) xb ?_))
 intro p2 w1 hn3
 have h:=h p2 w1 hn3
 refine qb (ln (zB (eg (q (q2 (vb (Option.isNone p1)) (uF (by kernel_rfl) rfl underlying29) (ln (cbr h ?_ ?_)))))))<;>intro h
 refine eg (qb (ln (er (vA (xC (.inl rfl) results97 (v:=(vi 0)) (by kernel_rfl) (v':=(vi 0)) (by kernel_rfl) ⟨0,0,rfl,h⟩)))))
 refine zD (zN (eg (q ?_)))
 obtain ⟨aA,aB,aC,aD,aE,aF,aG,hv12,h⟩:=h
 refine qa (isAgg103 _) (sizeOf103 _) hv12 (sc call137 (h.mono fun e w2 ⟨r1,r2,r3,k,h⟩=>⟨_,k,?_⟩))
 refine qc (qd (ln (zB (eg (qb (ln (cbr h ?_ ?_)))))))<;>intro h
 refine eg (qc (ln (er (vA (xC (.inl rfl) results97 (v:=(vi 0)) (by kernel_rfl) (v':=(vi r3)) (by kernel_rfl) ⟨0,r3,rfl,h⟩)))))
 refine zD (zN (zB (zB (qC (by kernel_rfl) (by kernel_rfl) (by kernel_rfl) (by kernel_rfl) ?_))))
 intro w3 hw3
 have h:=h w3 hw3
 refine qq 0 (vp p1) Kp0 (qg 1 ?_)
 obtain ⟨a1,hp1,h⟩:=h
 refine sxQ Kp1 (zJ rfl) rfl (xn hp1) (qq 2 (vp (some (a1.add 1))) Kp2 (qg 3 ?_))
 obtain ⟨v1,hv11,h⟩:=h
 refine sxQ Kp3 (zJ rfl) rfl (xl (isAgg93 _) hv11) (qg 4 ?_)
 obtain ⟨aO,aP,aQ,aR,aS,bX,bY,hv10,h⟩:=h
 refine sxQ (v:=(Ae aO aP aQ aR aS bX bY)) Kp4 (zJ rfl) rfl (xa p2 (Ac aO aP aQ aR aS bX bY) (isAgg103 _) (sizeOf103 _) hv10) (qg 5 ?_)
 obtain ⟨v2,ok1,hv9,h⟩:=h
 refine sxQ (v:=(.tuple #[(vi v2),(vb ok1)])) Kp5 (zJ rfl) rfl (yU (by kernel_rfl) (by kernel_rfl) hv9) (qq 6 (.tuple #[(vi v2),(vb ok1)]) Kp6 (qq 7 (vi v2) Kp7 (qq 8 (vb ok1) Kp8 (qq 9 (vi v2) Kp9 (qq 10 (vb ok1) (zG (S8 (zA (zA zF)))) (wn (zN (eg (q (zC (zN (cbr h ?_ ?_))))))))))))<;>intro h
 refine eg (qc (ln (er (vA (xC (.inl rfl) results97 (v:=(vi v2)) (by kernel_rfl) (v':=(vi 0)) (by kernel_rfl) ⟨v2,0,rfl,h⟩)))))
 refine zD (zN (zB (eg (q (qm h fun a2 h=>q (ql (isAgg94 _) h fun v3 h=>qb (ln (cbr h ?_ ?_))))))))<;>intro h
 refine eg (qb (ln (er (vA (xC (.inl rfl) results97 (v:=(vi 0)) (by kernel_rfl) (v':=(vi 6)) (by kernel_rfl) ⟨0,6,rfl,h⟩)))))
 refine zD (zN (zB ?_))
 obtain ⟨C1,hC,h⟩:=h
 refine dr1 C1 [9,10,13] [13] hC h fun w4 h=>qx 0 (vp p1) Kp0 (qx 1 (vp p1) Kp1 (qg 2 ?_))
 obtain ⟨a3,hp3,h⟩:=h
 refine sy Kp2 (fun _ _=>xn hp3) (qx 3 (vp (some a3)) Kp3 (qg 4 ?_))
 obtain ⟨v4,hv7,h⟩:=h
 refine sy Kp4 (fun _ k=>xl (isAgg94 _) (hv7 _ k)) (qg 5 ?_)
 obtain ⟨bM,bN,bO,bP,bQ,cG,cH,hv6,h⟩:=h
 refine sy (v:=(Ae bM bN bO bP bQ cG cH)) Kp5 (fun w' hw'=>(xa p2 (Ac bM bN bO bP bQ cG cH) (isAgg103 _) (sizeOf103 _) (hv6 w' hw'))) (qx 6 (vi r1) Kp6 (qx 7 (vi r2) Kp7 (qx 8 (.agg #[(vi bM),(vi bN),(vi bO),(vu bP),(vs bQ),(vi cG),(vi cH),(vi r1),(vi r2)]) Kp8 (lg 9 (qL (O:=(.cells #[(vi bM),(vi bN),(vi bO),(vu bP),(vs bQ),(vi cG),(vi cH),(vi r1),(vi r2)] 177)) (fun p=>(Sl.mk (some p) 1 1).v) Kp9 (zJ rfl) (by kernel_rfl) (vD (vs:=#[(0,(.agg #[(vi bM),(vi bN),(vi bO),(vu bP),(vs bQ),(vi cG),(vi cH),(vi r1),(vi r2)]))]) (by kernel_rfl) (by kernel_rfl)) ?_)))))
 intro p3 w5 hn2
 have h:=h p3 w5 hn2
 refine ⟨.inr h.1,?_⟩
 have h:=h.2
 refine lg 10 ?_
 obtain ⟨s1,w6,hv5,hC,h⟩:=h
 refine sl (v:=s1.v) (zG (S8 (zA (zA zF)))) (zJ rfl) (by kernel_rfl) (vC (args:=#[v4.v,(Sl.mk (some p3) 1 1).v]) (by kernel_rfl) (fun _=>rfl) hv5) (.inr hC) (qg 11 ?_)
 obtain ⟨a4,hp4,h⟩:=h
 refine sy (zG (S8 (zA (zA (zA zF))))) (fun _ _=>xn hp4) (qx 12 (vp (some a4)) (zG (S8 (S4 zF))) (lg 13 ?_))
 obtain ⟨hp5,h⟩:=h
 refine jQE (zG (S8 (S4 (zA zF)))) (xs (v:=s1.v) (sizeOf94 _) hp5) ?_
 intro w7 hn1
 have h:=h w7 hn1
 refine ⟨.inl (by kernel_rfl),?_⟩
 refine wn (zN (eg (q (qm h fun a5 h=>q (ql (isAgg94 _) h fun v5 h=>qb (ln (zB ?_)))))))
 obtain ⟨C2,hC,h⟩:=h
 refine dr1 C2 [6] [6] hC h fun w8 h=>qx 0 (vp p1) Kp0 (qg 1 ?_)
 obtain ⟨a6,hp7,h⟩:=h
 refine sy Kp1 (fun _ _=>xn hp7) (qx 2 (vp (some (a6.add 1))) Kp2 (qg 3 ?_))
 obtain ⟨v6,hv3,h⟩:=h
 refine sy Kp3 (fun _ k=>xl (isAgg93 _) (hv3 _ k)) (qg 4 ?_)
 obtain ⟨bS,bT,bU,bV,bW,cT,cU,hv2,h⟩:=h
 refine sy (v:=(Ae bS bT bU bV bW cT cU)) Kp4 (fun w' hw'=>(xa p2 (Ac bS bT bU bV bW cT cU) (isAgg103 _) (sizeOf103 _) (hv2 w' hw'))) (qx 5 (vi (v5.len:Int)) Kp5 (lg 6 ?_))
 obtain ⟨w9,hv1,h⟩:=h
 refine jOA Kp6 (zJ rfl) (by kernel_rfl) (tD (by kernel_rfl) (by kernel_rfl) (by kernel_rfl) hv1) (.inl (by kernel_rfl)) (wn (zN (eg (q0 (vi (v5.len:Int)) (q0 (vi (v5.len:Int)) (q0 (vi 0) (ln (er (xC (.inl rfl) results97 (v:=(vi (v5.len:Int))) (by kernel_rfl) (v':=(vi 0)) (by kernel_rfl) ⟨(v5.len:Int),0,rfl,h⟩)))))))))
def m_V2 (bA bB:Int) (bC bD:Int) (bE:ByteArray) (bF:Sl) (w:World) (K:Int→Int→Int→Int→ByteArray→Int→Int→WP):Prop :=∀p1 w1,New w (.cells #[(vi bA),(vi bB),(vi bC),(vu bD),(vs bE),bF.v] 28) p1 w1→∀p2 w2,New w1 (.cells #[(vi 0),(vi 0),(vi 0),(vu 0),ve,(vi 0),(vi 0)] 103) p2 w2→∃v1,w2.cell? p1=some (vi v1)∧∃v2,w2.cell? (p1.add 1)=some (vi v2)∧∃v3,w2.cell? (p1.add 2)=some (vi v3)∧∃v4,w2.cell? (p1.add 3)=some (vu v4)∧∃v5,w2.cell? (p1.add 4)=some (vs v5)∧(∀j,j<7→zT w2 (p2.add j))∧∀w3,w3=storeRow w2 p2 (Ac v1 v2 v3 v4 v5 0 0)→∃bH bI bJ bK bL cE cF,Row w3 p2 (Ac bH bI bJ bK bL cE cF)∧K bH bI bJ bK bL cE cF w3
theorem w_V2 (bA bB bC bD bE bF w K) (h:m_V2 bA bB bC bD bE bF w K):
  Calls prog 107 #[(.agg #[(vi bA),(vi bB),(vi bC),(vu bD),(vs bE),bF.v])] w (fun e w'=>∃aT aU aV aW aX aY aZ,e=.returned (Ae aT aU aV aW aX aY aZ)∧K aT aU aV aW aX aY aZ w'):=by
 refine cw (args:=[(Aa bA bB bC bD bE bF)]) func107 ntmps107 (eg (sn (O:=(.cells #[(vi bA),(vi bB),(vi bC),(vu bD),(vs bE),bF.v] 28)) xb ?_))
 intro p1 w1 hn3
 have h:=h p1 w1 hn3
 refine nw1 h (zI (zeroValue103 _) rfl) fun p2 w2 h=>ln (eg (q (ql (isAgg3 _) h fun v1 h=>q (ql (isAgg3 _) h fun v2 h=>q (ql (isAgg3 _) h fun v3 h=>q (ql (isAgg26 _) h fun v4 h=>q (ql (isAgg9 _) h fun v5 h=>q (sro (sizeOf103 _) h fun w3 h=>ln (er ?_)))))))))
 obtain ⟨bH,bI,bJ,bK,bL,cE,cF,hv1,h⟩:=h
 refine gg1 results107 (rva (isAgg103 _) (sizeOf103 _) hv1) ⟨bH,bI,bJ,bK,bL,cE,cF,rfl,h⟩
def m_E_j3 (p1 p2 p3:Addr) (x3:Bool) (w:World) (K:Bool→Bool→Bool→Bool→Int→Int→WP):Prop :=Br x3 (∃vfrom1 vto1 vnum1 vtext1 vkids1,Row w p3 (Ag vfrom1 vto1 vnum1 vtext1 vkids1)∧(∀j,j<5→zT w (p2.add j))∧∀w6,w6=storeRow w p2 (Ag vfrom1 vto1 vnum1 vtext1 vkids1)→∃qfrom1 qto1 qnum1 qtext1 qkids1,Row w6 p2 (Ag qfrom1 qto1 qnum1 qtext1 qkids1)∧K qfrom1 qto1 qnum1 qtext1 qkids1 53 w6) (∃v2,w.cell? (p3.add 3)=some (vb v2)∧Br (!v2) (∃v3,w.cell? (p1.add 4)=some (vs v3)∧Br (!(decide (v3=⟨#[]⟩))) (∃vfrom2 vto2 vnum2 vtext2 vkids2,Row w p3 (Ag vfrom2 vto2 vnum2 vtext2 vkids2)∧(∀j,j<5→zT w (p2.add j))∧∀w7,w7=storeRow w p2 (Ag vfrom2 vto2 vnum2 vtext2 vkids2)→∃qfrom2 qto2 qnum2 qtext2 qkids2,Row w7 p2 (Ag qfrom2 qto2 qnum2 qtext2 qkids2)∧K qfrom2 qto2 qnum2 qtext2 qkids2 53 w7) (∃vfrom3 vto3 vnum3 vtext3 vkids3,Row w p3 (Ag vfrom3 vto3 vnum3 vtext3 vkids3)∧(∀j,j<5→zT w (p2.add j))∧∀w8,w8=storeRow w p2 (Ag vfrom3 vto3 vnum3 vtext3 vkids3)→∃qfrom3 qto3 qnum3 qtext3 qkids3,Row w8 p2 (Ag qfrom3 qto3 qnum3 qtext3 qkids3)∧K qfrom3 qto3 qnum3 qtext3 qkids3 0 w8)) (∃vfrom4 vto4 vnum4 vtext4 vkids4,Row w p3 (Ag vfrom4 vto4 vnum4 vtext4 vkids4)∧(∀j,j<5→zT w (p2.add j))∧∀w9,w9=storeRow w p2 (Ag vfrom4 vto4 vnum4 vtext4 vkids4)→∃qfrom4 qto4 qnum4 qtext4 qkids4,Row w9 p2 (Ag qfrom4 qto4 qnum4 qtext4 qkids4)∧K qfrom4 qto4 qnum4 qtext4 qkids4 0 w9))
def m_E_j4 (p1 p2 p3:Addr) (x2 x4:Bool) (w:World) (K:Bool→Bool→Bool→Bool→Int→Int→WP):Prop :=Br x2 (m_E_j3 p1 p2 p3 true w K) (m_E_j3 p1 p2 p3 x4 w K)
def m_E_j2 (p1 p2 p3:Addr) (x2:Bool) (w:World) (K:Bool→Bool→Bool→Bool→Int→Int→WP):Prop :=Br x2 (m_E_j3 p1 p2 p3 true w K) (∃v4,w.cell? (p3.add 2)=some (vb v4)∧Br (!v4) (∃v5,w.cell? (p1.add 3)=some (vu v5)∧m_E_j4 p1 p2 p3 x2 (v5 != 0) w K) (m_E_j4 p1 p2 p3 x2 false w K))
def m_E_j5 (p1 p2 p3:Addr) (x1 x5:Bool) (w:World) (K:Bool→Bool→Bool→Bool→Int→Int→WP):Prop :=Br x1 (m_E_j2 p1 p2 p3 true w K) (m_E_j2 p1 p2 p3 x5 w K)
def m_E_j1 (p1 p2 p3:Addr) (x1:Bool) (w:World) (K:Bool→Bool→Bool→Bool→Int→Int→WP):Prop :=Br x1 (m_E_j2 p1 p2 p3 true w K) (∃v6,w.cell? (p3.add 1)=some (vb v6)∧Br (!v6) (∃v7,w.cell? (p1.add 2)=some (vi v7)∧m_E_j5 p1 p2 p3 x1 (v7 != 0) w K) (m_E_j5 p1 p2 p3 x1 false w K))
def m_E_j6 (p1 p2:Addr) (r1:Bool) (p3:Addr) (x6:Bool) (w:World) (K:Bool→Bool→Bool→Bool→Int→Int→WP):Prop :=Br (!r1) (m_E_j1 p1 p2 p3 true w K) (m_E_j1 p1 p2 p3 x6 w K)
def m_E (aH aI:Int) (aJ aK:Int) (aL:ByteArray) (aM aN:Int) (w:World) (K:Bool→Bool→Bool→Bool→Int→Int→WP):Prop :=∀p1 w1,New w (.cells #[(vi aH),(vi aI),(vi aJ),(vu aK),(vs aL),(vi aM),(vi aN)] 103) p1 w1→∀p2 w2,New w1 (.cells #[(vb false),(vb false),(vb false),(vb false),(vi 0)] 170) p2 w2→∃v1,w2.cell? p1=some (vi v1)∧Calls prog 136 #[(vi v1)] w2 (fun e w3=>∃rfrom1 rto1 rnum1 rtext1 rkids1 r1,e=.returned (.tuple #[(Aj rfrom1 rto1 rnum1 rtext1 rkids1),(vb r1)])∧∀p3 w4,New w3 (.cells #[(vb false),(vb false),(vb false),(vb false),(vi 0)] 170) p3 w4→(∀j,j<5→zT w4 (p3.add j))∧∀w5,w5=storeRow w4 p3 (Ag rfrom1 rto1 rnum1 rtext1 rkids1)→Br (!r1) (m_E_j1 p1 p2 p3 true w5 K) (∃v8,w5.cell? p3=some (vb v8)∧Br (!v8) (∃v9,w5.cell? (p1.add 1)=some (vi v9)∧m_E_j6 p1 p2 r1 p3 (v9 != 0) w5 K) (m_E_j6 p1 p2 r1 p3 false w5 K)))
theorem w_E (aH aI aJ aK aL aM aN w K) (h:m_E aH aI aJ aK aL aM aN w K):
  Calls prog 108 #[(.agg #[(vi aH),(vi aI),(vi aJ),(vu aK),(vs aL),(vi aM),(vi aN)])] w (fun e w'=>∃rfrom2 rto2 rnum2 rtext2 rkids2 r2,e=.returned (.tuple #[(Aj rfrom2 rto2 rnum2 rtext2 rkids2),(vi r2)])∧K rfrom2 rto2 rnum2 rtext2 rkids2 r2 w'):=by
 refine cw (args:=[(Ae aH aI aJ aK aL aM aN)]) func108 ntmps108 (eg (sn (O:=(.cells #[(vi aH),(vi aI),(vi aJ),(vu aK),(vs aL),(vi aM),(vi aN)] 103)) xb ?_))
 intro p1 w1 hn8
 have h:=h p1 w1 hn8
 refine nw1 h (zI (zeroValue170 _) rfl) fun p2 w2 h=>q (ln (eg (q (ql (isAgg3 _) h fun v1 h=>sc call136 (h.mono fun e w3 ⟨rfrom1,rto1,rnum1,rtext1,rkids1,r1,k,h⟩=>⟨_,k,?_⟩)))))
 refine qc (nw1 h (zI (zeroValue170 _) rfl) fun p3 w4 h=>sro (sizeOf170 _) h fun w5 h=>q (ln (zB (eg (qc (zK 9 (fun ρ w=>∃x1,Has ρ [(1,(vp (some p1))),(2,(vp (some p2))),(4,(vp (some p3))),(23,(vb x1))]∧m_E_j1 p1 p2 p3 x1 w K) ?_ ?_))))))
 rintro ρ w ⟨x1,hH,h⟩
 refine zP hH (q (zK 9 (fun ρ w=>∃x2,Has ρ [(1,(vp (some p1))),(2,(vp (some p2))),(4,(vp (some p3))),(33,(vb x2))]∧m_E_j2 p1 p2 p3 x2 w K) ?_ ?_))
 rintro ρ w ⟨x2,hH,h⟩
 refine zP hH (q (zK 9 (fun ρ w=>∃x3,Has ρ [(1,(vp (some p1))),(2,(vp (some p2))),(4,(vp (some p3))),(43,(vb x3))]∧m_E_j3 p1 p2 p3 x3 w K) ?_ ?_))
 rintro ρ w ⟨x3,hH,h⟩
 refine zP hH (q ?_)
 obtain ⟨hg1,h⟩|⟨hg1,h⟩:=h.br
 refine sj4 44 hg1 (sm (sm (sm (sj 44 hg1 (q2 (vb true) (xT hg1) (ln (yI (by kernel_rfl) (eg ?_))))))))
 obtain ⟨vfrom1,vto1,vnum1,vtext1,vkids1,hv2,h⟩:=h
 refine qa (isAgg170 _) (sizeOf170 _) hv2 (sro (sizeOf170 _) h fun w6 h=>q (ln (er (vA ?_))))
 obtain ⟨qfrom1,qto1,qnum1,qtext1,qkids1,hv1,h⟩:=h
 refine gg2 results108 (rva (isAgg170 _) (sizeOf170 _) hv1) (rvU (vi 53)) ⟨qfrom1,qto1,qnum1,qtext1,qkids1,53,rfl,h⟩
 refine qk 44 hg1 ?_
 obtain ⟨v2,hv10,h⟩:=h
 refine q4 44 hg1 (xl (isAgg4 _) hv10) (qk 44 hg1 (qk 44 hg1 ?_))
 obtain ⟨hg2,h⟩|⟨hg2,h⟩:=h.br
 refine qk 48 hg2 ?_
 obtain ⟨v3,hv7,h⟩:=h
 refine q4 48 hg2 (xl (isAgg9 _) hv7) (stq (v:=(vb (!(decide (v3=⟨#[]⟩))))) (wy 48 hg2) (uO (by kernel_rfl) (by kernel_rfl)) (stq (v:=(vb (!(decide (v3=⟨#[]⟩))))) (wy 44 hg1) (xT hg2) (q2 (vb (!(decide (v3=⟨#[]⟩)))) (xF hg1) (ln (cbr h ?_ ?_)))))<;>intro h
 refine eg ?_
 obtain ⟨vfrom2,vto2,vnum2,vtext2,vkids2,hv4,h⟩:=h
 refine qa (isAgg170 _) (sizeOf170 _) hv4 (sro (sizeOf170 _) h fun w7 h=>q (ln (er (vA ?_))))
 obtain ⟨qfrom2,qto2,qnum2,qtext2,qkids2,hv3,h⟩:=h
 refine gg2 results108 (rva (isAgg170 _) (sizeOf170 _) hv3) (rvU (vi 53)) ⟨qfrom2,qto2,qnum2,qtext2,qkids2,53,rfl,h⟩
 refine zD (zN (eg ?_))
 obtain ⟨vfrom3,vto3,vnum3,vtext3,vkids3,hv6,h⟩:=h
 refine qa (isAgg170 _) (sizeOf170 _) hv6 (sro (sizeOf170 _) h fun w8 h=>q (ln (er ?_)))
 obtain ⟨qfrom3,qto3,qnum3,qtext3,qkids3,hv5,h⟩:=h
 refine gg2 results108 (rva (isAgg170 _) (sizeOf170 _) hv5) (rvU (vi 0)) ⟨qfrom3,qto3,qnum3,qtext3,qkids3,0,rfl,h⟩
 refine sj3 48 hg2 (stq (v:=(vb false)) (wy 44 hg1) (xF hg2) (q2 (vb false) (xF hg1) (ln (uV (by kernel_rfl) (zD (zN (eg ?_)))))))
 obtain ⟨vfrom4,vto4,vnum4,vtext4,vkids4,hv9,h⟩:=h
 refine qa (isAgg170 _) (sizeOf170 _) hv9 (sro (sizeOf170 _) h fun w9 h=>q (ln (er ?_)))
 obtain ⟨qfrom4,qto4,qnum4,qtext4,qkids4,hv8,h⟩:=h
 refine gg2 results108 (rva (isAgg170 _) (sizeOf170 _) hv8) (rvU (vi 0)) ⟨qfrom4,qto4,qnum4,qtext4,qkids4,0,rfl,h⟩
 obtain ⟨hg3,h⟩|⟨hg3,h⟩:=h.br
 refine sj4 34 hg3 (sm (sm (sm (sj 34 hg3 (q2 (vb true) (xT hg3) (zC ⟨true,hm,h⟩))))))
 refine qk 34 hg3 ?_
 obtain ⟨v4,hv12,h⟩:=h
 refine q4 34 hg3 (xl (isAgg4 _) hv12) (qk 34 hg3 (qk 34 hg3 (zK 4 (fun ρ w=>∃x4,Has ρ [(1,(vp (some p1))),(2,(vp (some p2))),(4,(vp (some p3))),(34,(vb x2)),(42,(vb x4))]∧m_E_j4 p1 p2 p3 x2 x4 w K) ?_ ?_)))
 rintro ρ w ⟨x4,hH,h⟩
 refine zP hH ?_
 obtain ⟨hg4,h⟩|⟨hg4,h⟩:=h.br
 refine q2 (vb true) (xT hg4) (zC ⟨true,hm,h⟩)
 refine q2 (vb x4) (xF hg4) (zC ⟨x4,hm,h⟩)
 obtain ⟨hg5,h⟩|⟨hg5,h⟩:=h.br
 refine qk 38 hg5 ?_
 obtain ⟨v5,hv11,h⟩:=h
 refine q4 38 hg5 (xl (isAgg26 _) hv11) (qk 38 hg5 (stq (v:=(vb (v5 != 0))) (wy 34 hg3) (xT hg5) (zC ⟨(v5 != 0),hm,h⟩)))
 refine sj3 38 hg5 (stq (v:=(vb false)) (wy 34 hg3) (xF hg5) (zC ⟨false,hm,h⟩))
 obtain ⟨hg6,h⟩|⟨hg6,h⟩:=h.br
 refine sj4 24 hg6 (sm (sm (sm (sj 24 hg6 (q2 (vb true) (xT hg6) (zC ⟨true,hm,h⟩))))))
 refine qk 24 hg6 ?_
 obtain ⟨v6,hv14,h⟩:=h
 refine q4 24 hg6 (xl (isAgg4 _) hv14) (qk 24 hg6 (qk 24 hg6 (zK 4 (fun ρ w=>∃x5,Has ρ [(1,(vp (some p1))),(2,(vp (some p2))),(4,(vp (some p3))),(24,(vb x1)),(32,(vb x5))]∧m_E_j5 p1 p2 p3 x1 x5 w K) ?_ ?_)))
 rintro ρ w ⟨x5,hH,h⟩
 refine zP hH ?_
 obtain ⟨hg7,h⟩|⟨hg7,h⟩:=h.br
 refine q2 (vb true) (xT hg7) (zC ⟨true,hm,h⟩)
 refine q2 (vb x5) (xF hg7) (zC ⟨x5,hm,h⟩)
 obtain ⟨hg8,h⟩|⟨hg8,h⟩:=h.br
 refine qk 28 hg8 ?_
 obtain ⟨v7,hv13,h⟩:=h
 refine q4 28 hg8 (xl (isAgg3 _) hv13) (qk 28 hg8 (stq (v:=(vb (v7 != 0))) (wy 24 hg6) (xT hg8) (zC ⟨(v7 != 0),hm,h⟩)))
 refine sj3 28 hg8 (stq (v:=(vb false)) (wy 24 hg6) (xF hg8) (zC ⟨false,hm,h⟩))
 obtain ⟨hg9,h⟩|⟨hg9,h⟩:=h.br
 refine sj4 14 hg9 (sm (sm (sm (sj 14 hg9 (q2 (vb true) (xT hg9) (zC ⟨true,hm,h⟩))))))
 refine qk 14 hg9 ?_
 obtain ⟨v8,hv16,h⟩:=h
 refine q4 14 hg9 (xl (isAgg4 _) hv16) (qk 14 hg9 (qk 14 hg9 (zK 4 (fun ρ w=>∃x6,Has ρ [(1,(vp (some p1))),(2,(vp (some p2))),(4,(vp (some p3))),(14,(vb (!r1))),(22,(vb x6))]∧m_E_j6 p1 p2 r1 p3 x6 w K) ?_ ?_)))
 rintro ρ w ⟨x6,hH,h⟩
 refine zP hH ?_
 obtain ⟨hg10,h⟩|⟨hg10,h⟩:=h.br
 refine q2 (vb true) (xT hg10) (zC ⟨true,hm,h⟩)
 refine q2 (vb x6) (xF hg10) (zC ⟨x6,hm,h⟩)
 obtain ⟨hg11,h⟩|⟨hg11,h⟩:=h.br
 refine qk 18 hg11 ?_
 obtain ⟨v9,hv15,h⟩:=h
 refine q4 18 hg11 (xl (isAgg3 _) hv15) (qk 18 hg11 (stq (v:=(vb (v9 != 0))) (wy 14 hg9) (xT hg11) (zC ⟨(v9 != 0),hm,h⟩)))
 refine sj3 18 hg11 (stq (v:=(vb false)) (wy 14 hg9) (xF hg11) (zC ⟨false,hm,h⟩))
def m_E1_j1 (p1 p2:Addr) (x1:Bool) (w:World) (K:Int→WP):Prop :=Br x1 (K 50 w) (∃v1,w.cell? (p1.add 1)=some (vb v1)∧Br v1 (∃v2,w.cell? (p2.add 2)=some (vi v2)∧Calls prog 152 #[(vi v2)] w (fun e w3=>∃r1,e=.returned (vb r1)∧Br (!r1) (K 50 w3) (∃v3,w3.cell? (p2.add 2)=some (vi v3)∧∃v4,w3.cell? (p2.add 1)=some (vi v4)∧Br (v3 == v4) (K 50 w3) (∃v5,w3.cell? (p2.add 4)=some (vs v5)∧Br (decide ((v5.size:Int)>64)) (K 1 w3) (K 0 w3))))) (∃v6,w.cell? (p2.add 4)=some (vs v6)∧Br (decide ((v6.size:Int)>64)) (K 1 w) (K 0 w)))
def m_E1 (sfrom1 sto1:Bool) (snum1 stext1:Bool) (skids1 aH:Int) (aI aJ aK:Int) (aL:ByteArray) (aM aN:Int) (w:World) (K:Int→WP):Prop :=∀p1 w1,New w (.cells #[(vb sfrom1),(vb sto1),(vb snum1),(vb stext1),(vi skids1)] 170) p1 w1→∀p2 w2,New w1 (.cells #[(vi aH),(vi aI),(vi aJ),(vu aK),(vs aL),(vi aM),(vi aN)] 103) p2 w2→∃v7,w2.cell? p1=some (vb v7)∧Br v7 (∃v8,w2.cell? (p2.add 1)=some (vi v8)∧Calls prog 152 #[(vi v8)] w2 (fun e w4=>∃r2,e=.returned (vb r2)∧m_E1_j1 p1 p2 (!r2) w4 K)) (m_E1_j1 p1 p2 false w2 K)
theorem w_E1 (sfrom1 sto1 snum1 stext1 skids1 aH aI aJ aK aL aM aN w K) (h:m_E1 sfrom1 sto1 snum1 stext1 skids1 aH aI aJ aK aL aM aN w K):
  Calls prog 109 #[(.agg #[(vb sfrom1),(vb sto1),(vb snum1),(vb stext1),(vi skids1)]),(.agg #[(vi aH),(vi aI),(vi aJ),(vu aK),(vs aL),(vi aM),(vi aN)])] w (fun e w'=>∃r3,e=.returned (vi r3)∧K r3 w'):=by
 refine cw (args:=[(Aj sfrom1 sto1 snum1 stext1 skids1),(Ae aH aI aJ aK aL aM aN)]) func109 ntmps109 (eg (sn (O:=(.cells #[(vb sfrom1),(vb sto1),(vb snum1),(vb stext1),(vi skids1)] 170)) xb ?_))
 intro p1 w1 hn2
 have h:=h p1 w1 hn2
 refine nw1 h xb fun p2 w2 h=>q (ln (zB (zL (zB (qE (fun ρ w=>∃x1,Has ρ [(2,(vp (some p1))),(3,(vp (some p2))),(5,(vb x1))]∧m_E1_j1 p1 p2 x1 w K) ?_ ?_)))))
 rintro ρ w ⟨x1,hH,h⟩
 refine zQ hH (cbr' h (fun hc1 h=>?_) (fun hc1 h=>?_))
 refine zD (zN (tZ (t:=x1) (by kernel_rfl) hc1 (eg (q0 (vi 50) (ln (er (yC (vA (rs1 results109 ⟨50,rfl,h⟩)))))))))
 refine rg (q (ql (isAgg4 _) h fun v1 h=>q ?_))
 obtain ⟨hg1,h⟩|⟨hg1,h⟩:=h.br
 refine qk 16 hg1 ?_
 obtain ⟨v2,hv4,h⟩:=h
 refine q4 16 hg1 (xl (isAgg3 _) hv4) (qG (wy 16 hg1) (xc call152) (h.mono ?_))
 rintro e w3 ⟨r1,rfl,h⟩
 refine ⟨_,rfl,?_⟩
 refine qk 16 hg1 (qk 16 hg1 ?_)
 obtain ⟨hg2,h⟩|⟨hg2,h⟩:=h.br
 refine sj5 21 hg2 (stq (v:=(vb true)) (wy 16 hg1) (xT hg2) (q2 (vb true) (xT hg1) (q (ln (yI (by kernel_rfl) (zB (rg (q (ln (er (yC (vA (rs1 results109 ⟨50,rfl,h⟩)))))))))))))
 refine qk 21 hg2 ?_
 obtain ⟨v3,hv3,h⟩:=h
 refine q4 21 hg2 (xl (isAgg3 _) hv3) (qk 21 hg2 ?_)
 obtain ⟨v4,hv2,h⟩:=h
 refine q4 21 hg2 (xl (isAgg3 _) hv2) (qk 21 hg2 (stq (v:=(vb (v3 == v4))) (wy 16 hg1) (xF hg2) (q2 (vb (v3 == v4)) (xT hg1) (q (ln (cbr h ?_ ?_))))))<;>intro h
 refine eg (q (ln (er (yC (vA (rs1 results109 ⟨50,rfl,h⟩))))))
 refine eg (q (ql (isAgg9 _) h fun v5 h=>qc (ln (cbr h ?_ ?_))))<;>intro h
 refine eg (q (ln (er (yC (vA (rs1 results109 ⟨1,rfl,h⟩))))))
 refine zD (xE (zN (eg (q (ln (er (rs1 results109 ⟨0,rfl,h⟩)))))))
 refine sj5 16 hg1 (sm (sm (sm (sm (sm (sj 16 hg1 (q2 (vb false) (xF hg1) (q (ln (uV (by kernel_rfl) (eg (q0 (vp (some (p2.add 4))) (ql (isAgg9 _) h fun v6 h=>qc (ln (cbr h ?_ ?_)))))))))))))))<;>intro h
 refine eg (q (ln (er (yC (vA (rs1 results109 ⟨1,rfl,h⟩))))))
 refine zD (xE (zN (eg (q (ln (er (rs1 results109 ⟨0,rfl,h⟩)))))))
 refine rg (q (ql (isAgg4 _) h fun v7 h=>q ?_))
 obtain ⟨hg3,h⟩|⟨hg3,h⟩:=h.br
 refine qk 8 hg3 ?_
 obtain ⟨v8,hv7,h⟩:=h
 refine q4 8 hg3 (xl (isAgg3 _) hv7) (qG (wy 8 hg3) (xc call152) (h.mono ?_))
 rintro e w4 ⟨r2,rfl,h⟩
 refine ⟨_,rfl,?_⟩
 refine qk 8 hg3 (q2 (vb (!r2)) (xT hg3) (q (ln ⟨(!r2),hm,h⟩)))
 refine sj4 8 hg3 (q2 (vb false) (xF hg3) (q (ln ⟨false,hm,h⟩)))
def m_W_j1 (p1:Option Addr) (t1:Int) (x1:Bool) (w:World) (K:Bool→WP):Prop :=Br x1 (∃a1,p1=some a1∧∃v1:Sl,w.cell? a1=some v1.v∧K (decide (t1≤(v1.len:Int))) w) (K false w)
def m_W (p1:Option Addr) (t1:Int) (w:World) (K:Bool→WP):Prop :=Br (!(Option.isNone p1)) (m_W_j1 p1 t1 (decide (t1≥1)) w K) (m_W_j1 p1 t1 false w K)
theorem w_W (p1 t1 w K) (h:m_W p1 t1 w K):
  Calls prog 115 #[(vp p1),(vi t1)] w (fun e w'=>∃r1,e=.returned (vb r1)∧K r1 w'):=by
 refine cw (args:=[(vp p1),(vi t1)]) func115 ntmps115 (eg (q0 (vb false) (ln (eg (q0 (vp p1) (q2 (vb (!(Option.isNone p1))) (jQF (by kernel_rfl) rfl underlying29) (q0 (vb (!(Option.isNone p1))) ?_)))))))
 refine zK 3 (fun ρ w=>∃x1,Has ρ [(0,(vp p1)),(1,(vi t1)),(10,(vb x1))]∧m_W_j1 p1 t1 x1 w K) ?_ ?_
 rintro ρ w ⟨x1,hH,h⟩
 refine zP hH (q ?_)
 obtain ⟨hg1,h⟩|⟨hg1,h⟩:=h.br
 refine qk 11 hg1 (qk 11 hg1 ?_)
 obtain ⟨a1,hp1,h⟩:=h
 refine q4 11 hg1 (xn hp1) (qk 11 hg1 ?_)
 obtain ⟨v1,hv1,h⟩:=h
 refine q4 11 hg1 (xl (isAgg94 _) hv1) (qk 11 hg1 (qk 11 hg1 (q2 (vb (decide (t1≤(v1.len:Int)))) (xT hg1) (q (ln (er (rs1 results115 ⟨(decide (t1≤(v1.len:Int))),rfl,h⟩)))))))
 refine sj2 11 hg1 (sj5 11 hg1 (q2 (vb false) (xF hg1) (q (ln (er (rs1 results115 ⟨false,rfl,h⟩))))))
 obtain ⟨hg2,h⟩|⟨hg2,h⟩:=h.br
 refine qk 7 hg2 (qk 7 hg2 (q2 (vb (decide (t1≥1))) (xT hg2) (zC ⟨(decide (t1≥1)),hm,h⟩)))
 refine sj2 7 hg2 (q2 (vb false) (xF hg2) (zC ⟨false,hm,h⟩))
def m_W2 (kind1:Int) (w:World) (K:Bool→Bool→Bool→Bool→Int→Bool→WP):Prop :=∀p1 w1,New w (.cells #[(vb false),(vb false),(vb false),(vb false),(vi 0)] 170) p1 w1→Br (decide (kind1<1)) ((∀j,j<5→zT w1 (p1.add j))∧∀w2,w2=storeRow w1 p1 (Ag false false false false 0)→∃qfrom1 qto1 qnum1 qtext1 qkids1,Row w2 p1 (Ag qfrom1 qto1 qnum1 qtext1 qkids1)∧K qfrom1 qto1 qnum1 qtext1 qkids1 false w2) (Br (decide (kind1>9)) ((∀j,j<5→zT w1 (p1.add j))∧∀w3,w3=storeRow w1 p1 (Ag false false false false 0)→∃qfrom2 qto2 qnum2 qtext2 qkids2,Row w3 p1 (Ag qfrom2 qto2 qnum2 qtext2 qkids2)∧K qfrom2 qto2 qnum2 qtext2 qkids2 false w3) (Calls prog 180 #[] w1 (fun e w4=>∃r1:Array Value,e=.returned (.agg r1)∧∃efrom1 eto1 enum1 etext1 ekids1,(Instr.index 249 (.agg r1) (vi kind1)).run prog w4=.ok (.agg #[(vb efrom1),(vb eto1),(vb enum1),(vb etext1),(vi ekids1)]) w4∧(∀j,j<5→zT w4 (p1.add j))∧∀w5,w5=storeRow w4 p1 (Ag efrom1 eto1 enum1 etext1 ekids1)→∃qfrom3 qto3 qnum3 qtext3 qkids3,Row w5 p1 (Ag qfrom3 qto3 qnum3 qtext3 qkids3)∧K qfrom3 qto3 qnum3 qtext3 qkids3 true w5)))
theorem w_W2 (kind1 w K) (h:m_W2 kind1 w K):
  Calls prog 136 #[(vi kind1)] w (fun e w'=>∃rfrom1 rto1 rnum1 rtext1 rkids1 r2,e=.returned (.tuple #[(Aj rfrom1 rto1 rnum1 rtext1 rkids1),(vb r2)])∧K rfrom1 rto1 rnum1 rtext1 rkids1 r2 w'):=by
 refine cw (args:=[(vi kind1)]) func136 ntmps136 (eg (sn (O:=(.cells #[(vb false),(vb false),(vb false),(vb false),(vi 0)] 170)) (zI (zeroValue170 _) rfl) ?_))
 intro p1 w1 hn4
 have h:=h p1 w1 hn4
 refine q (ln (zB (eg (qc ?_))))
 obtain ⟨hg1,h⟩|⟨hg1,h⟩:=h.br
 refine sj2 6 hg1 (q2 (vb true) (xT hg1) (ln (yI (by kernel_rfl) (eg (q0 (Aj false false false false 0) (sro (sizeOf170 _) h fun w2 h=>q (ln (er (vA ?_)))))))))
 obtain ⟨qfrom1,qto1,qnum1,qtext1,qkids1,hv1,h⟩:=h
 refine gg2 results136 (rva (isAgg170 _) (sizeOf170 _) hv1) (rvU (vb false)) ⟨qfrom1,qto1,qnum1,qtext1,qkids1,false,rfl,h⟩
 refine qk 6 hg1 (qk 6 hg1 (q2 (vb (decide (kind1>9))) (xF hg1) (ln (cbr h ?_ ?_))))<;>intro h
 refine eg (q (sro (sizeOf170 _) h fun w3 h=>q (ln (er (vA ?_)))))
 obtain ⟨qfrom2,qto2,qnum2,qtext2,qkids2,hv2,h⟩:=h
 refine gg2 results136 (rva (isAgg170 _) (sizeOf170 _) hv2) (rvU (vb false)) ⟨qfrom2,qto2,qnum2,qtext2,qkids2,false,rfl,h⟩
 refine zD (zN (eg (sc call180 (h.mono fun e w4 ⟨r1,k,h⟩=>⟨_,k,?_⟩))))
 refine q ?_
 obtain ⟨efrom1,eto1,enum1,etext1,ekids1,hv4,h⟩:=h
 refine q2 (Aj efrom1 eto1 enum1 etext1 ekids1) (jAP (by kernel_rfl) (by kernel_rfl) hv4) (sro (sizeOf170 _) h fun w5 h=>q (ln (er ?_)))
 obtain ⟨qfrom3,qto3,qnum3,qtext3,qkids3,hv3,h⟩:=h
 refine gg2 results136 (rva (isAgg170 _) (sizeOf170 _) hv3) (rvU (vb true)) ⟨qfrom3,qto3,qnum3,qtext3,qkids3,true,rfl,h⟩
def m_F_l3 (p1:Option Addr) (s1:Sl) (size1 depth1 x1:Int) (wl1:World) (Kc3:Int→Int→Int→WP) (K:Int→Int→Int→WP):Prop :=Br (decide (x1<(s1.len:Int))) (∃a1:Addr,At s1 x1 1 a1∧∃v4,wl1.cell? a1=some (vi v4)∧Calls prog 115 #[(vp p1),(vi v4)] wl1 (fun e w6=>∃r2,e=.returned (vb r2)∧Br (!r2) (K 0 0 51 w6) (Calls prog 67 #[(vp p1),(vi v4)] w6 (fun e w7=>∃r3,e=.returned (vi r3)∧Calls prog 181 #[(vp p1),(vi v4)] w7 (fun e w8=>∃r4,e=.returned (vi r4)∧∃z1,(Builtin.max_ #[3,3] 3 #[(vi depth1),(vi r4)]).run prog w8=.ok (vi z1) w8∧Kc3 (q6.wrap (size1+r3)) z1 (q6.wrap (x1+1)) w8))))) (Br (decide (size1>4096)) (K 0 0 52 wl1) (Br (decide ((q6.wrap (depth1+1))>64)) (K 0 0 52 wl1) (K size1 (q6.wrap (depth1+1)) 0 wl1)))
def m_F_j2 (p1:Option Addr) (p2 p3:Addr) (e2:Int) (w:World) (K:Int→Int→Int→WP):Prop :=Br (e2 != 0) (K 0 0 e2 w) (∃v1,w.cell? (p2.add 5)=some (vi v1)∧∃v2,w.cell? (p2.add 6)=some (vi v2)∧∀p4 w5,New w (.cells #[(vi v1),(vi v2)] 23) p4 w5→∃v3,w5.cell? (p3.add 4)=some (vi v3)∧∃s1:Sl,(Instr.sliceAt 137 (Sl.mk (some p4) 2 2).v none (some (vi v3)) none).run prog w5=.ok s1.v w5∧∃(I1:Int→Int→Int→WP) (mu1:Int→Int→Int→World→Nat),I1 1 0 0 w5∧∀(size1 depth1 x1:Int) (wl1:World),I1 size1 depth1 x1 wl1→m_F_l3 p1 s1 size1 depth1 x1 wl1 (fun y'0 y'1 y'2 w'=>I1 y'0 y'1 y'2 w'∧mu1 y'0 y'1 y'2 w'<mu1 size1 depth1 x1 wl1) K)
def m_F_j1 (p1:Option Addr) (p2 p3:Addr) (e1:Int) (w:World) (K:Int→Int→Int→WP):Prop :=Br (e1 == 0) (∃vfrom1 vto1 vnum1 vtext1 vkids1,Row w p3 (Ag vfrom1 vto1 vnum1 vtext1 vkids1)∧∃aO aP aQ aR aS bX bY,Row w p2 (Ac aO aP aQ aR aS bX bY)∧Calls prog 109 #[(.agg #[(vb vfrom1),(vb vto1),(vb vnum1),(vb vtext1),(vi vkids1)]),(.agg #[(vi aO),(vi aP),(vi aQ),(vu aR),(vs aS),(vi bX),(vi bY)])] w (fun e w9=>∃r5,e=.returned (vi r5)∧m_F_j2 p1 p2 p3 r5 w9 K)) (m_F_j2 p1 p2 p3 e1 w K)
def m_F_j5 (p1:Option Addr) (p2:Addr) (r1:Int) (p3:Addr) (x2 x3:Bool) (w:World) (K:Int→Int→Int→WP):Prop :=Br (r1 == 0) (Br x2 (m_F_j1 p1 p2 p3 53 w K) (Br x3 (m_F_j1 p1 p2 p3 53 w K) (m_F_j1 p1 p2 p3 r1 w K))) (m_F_j1 p1 p2 p3 r1 w K)
def m_F_j4 (p1:Option Addr) (p2:Addr) (r1:Int) (p3:Addr) (x2:Bool) (w:World) (K:Int→Int→Int→WP):Prop :=Br (r1 == 0) (Br x2 (m_F_j1 p1 p2 p3 53 w K) (∃v6,w.cell? (p3.add 4)=some (vi v6)∧Br (decide (v6<2)) (∃v7,w.cell? (p2.add 6)=some (vi v7)∧m_F_j5 p1 p2 r1 p3 x2 (v7 != 0) w K) (m_F_j5 p1 p2 r1 p3 x2 false w K))) (m_F_j1 p1 p2 p3 r1 w K)
def m_F (p1:Option Addr) (aH aI:Int) (aJ aK:Int) (aL:ByteArray) (aM aN:Int) (w:World) (K:Int→Int→Int→WP):Prop :=∀p2 w1,New w (.cells #[(vi aH),(vi aI),(vi aJ),(vu aK),(vs aL),(vi aM),(vi aN)] 103) p2 w1→∃aA aB aC aD aE aF aG,Row w1 p2 (Ac aA aB aC aD aE aF aG)∧Calls prog 108 #[(.agg #[(vi aA),(vi aB),(vi aC),(vu aD),(vs aE),(vi aF),(vi aG)])] w1 (fun e w2=>∃rfrom1 rto1 rnum1 rtext1 rkids1 r1,e=.returned (.tuple #[(Aj rfrom1 rto1 rnum1 rtext1 rkids1),(vi r1)])∧∀p3 w3,New w2 (.cells #[(vb false),(vb false),(vb false),(vb false),(vi 0)] 170) p3 w3→(∀j,j<5→zT w3 (p3.add j))∧∀w4,w4=storeRow w3 p3 (Ag rfrom1 rto1 rnum1 rtext1 rkids1)→Br (r1 == 0) (∃v5,w4.cell? (p3.add 4)=some (vi v5)∧Br (decide (v5<1)) (∃v8,w4.cell? (p2.add 5)=some (vi v8)∧m_F_j4 p1 p2 r1 p3 (v8 != 0) w4 K) (m_F_j4 p1 p2 r1 p3 false w4 K)) (m_F_j1 p1 p2 p3 r1 w4 K))
theorem w_F (p1 aH aI aJ aK aL aM aN w K) (h:m_F p1 aH aI aJ aK aL aM aN w K):
  Calls prog 137 #[(vp p1),(.agg #[(vi aH),(vi aI),(vi aJ),(vu aK),(vs aL),(vi aM),(vi aN)])] w (fun e w'=>∃r6 r7 r8,e=.returned (.tuple #[(vi r6),(vi r7),(vi r8)])∧K r6 r7 r8 w'):=by
 refine cw (args:=[(vp p1),(Ae aH aI aJ aK aL aM aN)]) func137 ntmps137 (eg (sn (O:=(.cells #[(vi aH),(vi aI),(vi aJ),(vu aK),(vs aL),(vi aM),(vi aN)] 103)) xb ?_))
 intro p2 w1 hn4
 have h:=h p2 w1 hn4
 refine qc (ln (eg ?_))
 obtain ⟨aA,aB,aC,aD,aE,aF,aG,hv14,h⟩:=h
 refine qa (isAgg103 _) (sizeOf103 _) hv14 (sc call108 (h.mono fun e w2 ⟨rfrom1,rto1,rnum1,rtext1,rkids1,r1,k,h⟩=>⟨_,k,?_⟩))
 refine qc (nw1 h (zI (zeroValue170 _) rfl) fun p3 w3 h=>sro (sizeOf170 _) h fun w4 h=>q (ln (qE (fun ρ w=>∃e1,Has ρ [(0,(vp p1)),(3,(vp (some p2))),(7,(vp (some p3))),(8,(vi e1))]∧m_F_j1 p1 p2 p3 e1 w K) ?_ ?_)))
 rintro ρ w ⟨e1,hH,h⟩
 refine zQ hH (qE (fun ρ w=>∃e2,Has ρ [(0,(vp p1)),(3,(vp (some p2))),(7,(vp (some p3))),(8,(vi e2))]∧m_F_j2 p1 p2 p3 e2 w K) ?_ ?_)
 rintro ρ w ⟨e2,hH,h⟩
 refine zQ hH (zB (eg (qb (ln (cbr h ?_ ?_)))))<;>intro h
 refine eg (qd (ln (er (vA (jMH (.inl rfl) results137 (v:=(vi 0)) (by kernel_rfl) (v':=(vi 0)) (by kernel_rfl) (v'':=(vi e2)) (by kernel_rfl) ⟨0,0,e2,rfl,h⟩)))))
 refine zD (zN (eg (qb (ln (zB (eg (q (ql (isAgg23 _) h fun v1 h=>q (ql (isAgg23 _) h fun v2 h=>yX (O:=(.cells #[(vi v1),(vi v2)] 23)) (fun p=>(Sl.mk (some p) 2 2).v) (zJ rfl) (vD (vs:=#[(0,(vi v1)),(1,(vi v2))]) (by kernel_rfl) (by kernel_rfl)) ?_)))))))))
 intro p4 w5 hn2
 have h:=h p4 w5 hn2
 refine q (ql (isAgg3 _) h fun v3 h=>?_)
 obtain ⟨s1,hv4,h⟩:=h
 refine q2 s1.v (qU (by kernel_rfl) (by kernel_rfl) (by kernel_rfl) (by kernel_rfl) hv4) (qb (ln (zL ?_)))
 obtain ⟨I1,mu1,h0,hr⟩:=h
 refine vU (σ:=Int×Int×Int×World) (fun s ρ w=>w=s.2.2.2∧Has ρ [(0,(vp p1)),(9,(vi s.1)),(10,(vi s.2.1)),(55,s1.v),(56,(vi (s1.len:Int))),(57,(vi s.2.2.1))]∧I1 s.1 s.2.1 s.2.2.1 s.2.2.2) (fun s=>mu1 s.1 s.2.1 s.2.2.1 s.2.2.2) (1,0,0,w5) ⟨rfl,hm,h0⟩ ?_
 rintro ⟨size1,depth1,x1,wl1⟩ ρ w ⟨hw,hH,hI⟩
 dsimp only at hw hH;subst w
 have h:=hr size1 depth1 x1 wl1 hI
 refine zQ hH (eg (q (ln (zB (cbr h ?_ ?_)))))<;>intro h
 refine zD (zN (zB (zL (eg (qi (runUnderlying137 _) (sizeOf23 _) h fun a1 h=>ql (isAgg23 _) h fun v4 h=>q (ln (zB (eg (qb (sc call115 (h.mono fun e w6 ⟨r2,k,h⟩=>⟨_,k,?_⟩)))))))))))
 refine q (ln (cbr h ?_ ?_))<;>intro h
 refine eg (qc (ln (er (vA (yC (vA (vA (yC (vA (jMH (.inl rfl) results137 (v:=(vi 0)) (by kernel_rfl) (v':=(vi 0)) (by kernel_rfl) (v'':=(vi 51)) (by kernel_rfl) ⟨0,0,51,rfl,h⟩))))))))))
 refine zD (zN (eg (qc (sc call67 (h.mono fun e w7 ⟨r3,k,h⟩=>⟨_,k,?_⟩)))))
 refine qb (ln (rg (qc (sc call181 (h.mono fun e w8 ⟨r4,k,h⟩=>⟨_,k,?_⟩)))))
 obtain ⟨z1,hv1,h⟩:=h
 refine q2 (vi z1) (vC (args:=#[(vi depth1),(vi r4)]) (by kernel_rfl) (fun _=>rfl) hv1) (q (zC (xE (zN (rg (qb (ln ⟨((q6.wrap (size1+r3)),z1,(q6.wrap (x1+1)),w8),⟨rfl,hm,h.1⟩,h.2⟩)))))))
 refine vQ (xG (xG (xA (zN (eg (q0 (vi depth1) (q0 (vi (q6.wrap (depth1+1))) (q0 (vi (q6.wrap (depth1+1))) (ln (zB (eg (qc ?_))))))))))))
 obtain ⟨hg1,h⟩|⟨hg1,h⟩:=h.br
 refine sj2 80 hg1 (q2 (vb true) (xT hg1) (ln (yI (by kernel_rfl) (eg (q0 (vi 0) (q0 (vi 0) (q0 (vi 52) (zC (zN (er (vA (jMH (.inl rfl) results137 (v:=(vi 0)) (by kernel_rfl) (v':=(vi 0)) (by kernel_rfl) (v'':=(vi 52)) (by kernel_rfl) ⟨0,0,52,rfl,h⟩))))))))))))
 refine qk 80 hg1 (qk 80 hg1 (q2 (vb (decide ((q6.wrap (depth1+1))>64))) (xF hg1) (ln (cbr h ?_ ?_))))<;>intro h
 refine eg (qc (ln (er (vA (jMH (.inl rfl) results137 (v:=(vi 0)) (by kernel_rfl) (v':=(vi 0)) (by kernel_rfl) (v'':=(vi 52)) (by kernel_rfl) ⟨0,0,52,rfl,h⟩)))))
 refine zD (zN (eg (q (qd (ln (er (jMH (.inl rfl) results137 (v:=(vi size1)) (by kernel_rfl) (v':=(vi (q6.wrap (depth1+1)))) (by kernel_rfl) (v'':=(vi 0)) (by kernel_rfl) ⟨size1,(q6.wrap (depth1+1)),0,rfl,h⟩)))))))
 refine eg (qb (ln (cbr h ?_ ?_)))<;>intro h
 refine rg ?_
 obtain ⟨vfrom1,vto1,vnum1,vtext1,vkids1,hv9,h⟩:=h
 refine qa (isAgg170 _) (sizeOf170 _) hv9 ?_
 obtain ⟨aO,aP,aQ,aR,aS,bX,bY,hv8,h⟩:=h
 refine qa (isAgg103 _) (sizeOf103 _) hv8 (sc call109 (h.mono fun e w9 ⟨r5,k,h⟩=>⟨_,k,?_⟩))
 refine q (ln ⟨r5,hm,h⟩)
 refine zD (zN ⟨e1,hm,h⟩)
 refine eg (qc ?_)
 obtain ⟨hg2,h⟩|⟨hg2,h⟩:=h.br
 refine qk 20 hg2 ?_
 obtain ⟨v5,hv13,h⟩:=h
 refine q4 20 hg2 (xl (isAgg3 _) hv13) (qk 20 hg2 (qk 20 hg2 (zK 4 (fun ρ w=>∃x2,Has ρ [(0,(vp p1)),(3,(vp (some p2))),(7,(vp (some p3))),(8,(vi r1)),(20,(vb (r1 == 0))),(28,(vb x2))]∧m_F_j4 p1 p2 r1 p3 x2 w K) ?_ ?_)))
 rintro ρ w ⟨x2,hH,h⟩
 refine zP hH ?_
 obtain ⟨hg3,h⟩|⟨hg3,h⟩:=h.br
 refine qk 20 hg3 ?_
 obtain ⟨hg4,h⟩|⟨hg4,h⟩:=h.br
 refine sj4 29 hg4 (sm (sm (sm (sj 29 hg4 (stq (v:=(vb true)) (wy 20 hg3) (xT hg4) (q2 (vb true) (xT hg3) (ln (yI (by kernel_rfl) (rg (q0 (vi 53) (ln ⟨53,hm,h⟩)))))))))))
 refine qk 29 hg4 ?_
 obtain ⟨v6,hv11,h⟩:=h
 refine q4 29 hg4 (xl (isAgg3 _) hv11) (qk 29 hg4 (qk 29 hg4 (zK 4 (fun ρ w=>∃x3,Has ρ [(0,(vp p1)),(3,(vp (some p2))),(7,(vp (some p3))),(8,(vi r1)),(20,(vb (r1 == 0))),(29,(vb x2)),(37,(vb x3))]∧m_F_j5 p1 p2 r1 p3 x2 x3 w K) ?_ ?_)))
 rintro ρ w ⟨x3,hH,h⟩
 refine zP hH ?_
 obtain ⟨hg5,h⟩|⟨hg5,h⟩:=h.br
 obtain ⟨hg6,h⟩|⟨hg6,h⟩:=h.br
 refine stq (v:=(vb true)) (wy 20 hg5) (xT hg6) (q2 (vb true) (xT hg5) (ln (yI (by kernel_rfl) (rg (q0 (vi 53) (ln ⟨53,hm,h⟩))))))
 refine stq (v:=(vb x3)) (wy 20 hg5) (xF hg6) (q2 (vb x3) (xT hg5) (ln (cbr h ?_ ?_)))<;>intro h
 refine rg (q (ln ⟨53,hm,h⟩))
 refine zD (zN ⟨r1,hm,h⟩)
 refine sj 20 hg5 (q2 (vb false) (xF hg5) (ln (uV (by kernel_rfl) (zD (zN ⟨r1,hm,h⟩)))))
 obtain ⟨hg7,h⟩|⟨hg7,h⟩:=h.br
 refine qk 33 hg7 ?_
 obtain ⟨v7,hv10,h⟩:=h
 refine q4 33 hg7 (xl (isAgg23 _) hv10) (qk 33 hg7 (stq (v:=(vb (v7 != 0))) (wy 29 hg4) (xT hg7) (zC ⟨(v7 != 0),hm,h⟩)))
 refine sj3 33 hg7 (stq (v:=(vb false)) (wy 29 hg4) (xF hg7) (zC ⟨false,hm,h⟩))
 refine sj 20 hg3 (sm (sm (sm (sm (sm (sm (sm (sm (sj 20 hg3 (q2 (vb false) (xF hg3) (zC (zN (uV (by kernel_rfl) (zD (zN ⟨r1,hm,h⟩)))))))))))))))
 obtain ⟨hg8,h⟩|⟨hg8,h⟩:=h.br
 refine qk 24 hg8 ?_
 obtain ⟨v8,hv12,h⟩:=h
 refine q4 24 hg8 (xl (isAgg23 _) hv12) (qk 24 hg8 (stq (v:=(vb (v8 != 0))) (wy 20 hg2) (xT hg8) (zC ⟨(v8 != 0),hm,h⟩)))
 refine sj3 24 hg8 (stq (v:=(vb false)) (wy 20 hg2) (xF hg8) (zC ⟨false,hm,h⟩))
 refine sj4 20 hg2 (sm (sm (sm (sj2 20 hg2 (sm (sm (sm (sm (sm (sm (sm (sm (sj 20 hg2 (q2 (vb false) (xF hg2) (ln (uV (by kernel_rfl) (zD (zN ⟨r1,hm,h⟩))))))))))))))))))
def m_X2 (p1:Option Addr) (t1:Int) (w:World) (K:Value→WP):Prop :=∀p2 w1,New w (.cells #[(vp p1)] 29) p2 w1→∀p3 w2,New w1 (.cells #[(vi t1)] 23) p3 w2→K (.func (.func 198) #[] #[(vp (some p2)),(vp (some p3))]) w2
theorem w_X2 (p1 t1 w K) (h:m_X2 p1 t1 w K):
  Calls prog 139 #[(vp p1),(vi t1)] w (fun e w'=>∃r1:Value,e=.returned r1∧K r1 w'):=by
 refine cw (args:=[(vp p1),(vi t1)]) func139 ntmps139 (eg (sn (O:=(.cells #[(vp p1)] 29)) xb ?_))
 intro p2 w1 hn2
 have h:=h p2 w1 hn2
 refine nw1 h xb fun p3 w2 h=>q (ln (eg (qb (ln (er (rs1 results139 ⟨(.func (.func 198) #[] #[(vp (some p2)),(vp (some p3))]),rfl,h⟩))))))
def m_Y2 (n1:Int) (w:World) (K:Bool→WP):Prop :=Br (decide (n1≥0)) (K (decide (n1<16)) w) (K false w)
theorem w_Y2 (n1 w K) (h:m_Y2 n1 w K):
  Calls prog 152 #[(vi n1)] w (fun e w'=>∃r1,e=.returned (vb r1)∧K r1 w'):=by
 refine cw (args:=[(vi n1)]) func152 ntmps152 (eg (q0 (vb false) (ln (eg (q0 (vi n1) (q0 (vb (decide (n1≥0))) (q0 (vb (decide (n1≥0))) ?_)))))))
 obtain ⟨hg1,h⟩|⟨hg1,h⟩:=h.br
 refine qk 5 hg1 (qk 5 hg1 (q2 (vb (decide (n1<16))) (xT hg1) (q (ln (er (rs1 results152 ⟨(decide (n1<16)),rfl,h⟩))))))
 refine sj2 5 hg1 (q2 (vb false) (xF hg1) (q (ln (er (rs1 results152 ⟨false,rfl,h⟩)))))
def m_Z2  (w:World) (K:(Array Value)→WP):Prop :=∀p1 w1,New w (.cells #[(vb false),(vb false),(vb false),(vb false),(vi 0),(vb false),(vb false),(vb false),(vb false),(vi 0),(vb false),(vb false),(vb false),(vb false),(vi 0),(vb false),(vb false),(vb false),(vb false),(vi 0),(vb false),(vb false),(vb false),(vb false),(vi 0),(vb false),(vb false),(vb false),(vb false),(vi 0),(vb false),(vb false),(vb false),(vb false),(vi 0),(vb false),(vb false),(vb false),(vb false),(vi 0),(vb false),(vb false),(vb false),(vb false),(vi 0),(vb false),(vb false),(vb false),(vb false),(vi 0)] 249) p1 w1→(∀j,j<50→zT w1 (p1.add j))∧∀w2,w2=storeRow w1 p1 (Ak false false false false 0 true false false false 0 false false true false 0 false false false true 0 false false false false 2 false false false false 1 true false false false 0 true false false false 1 true true false false 1 true true false false 1)→∃q1:Array Value,(q1.size=50∧Row w2 p1 q1.toList)∧K q1 w2
theorem w_Z2  (w:World) (K:(Array Value)→WP) (h:m_Z2  w K) :
  Calls prog 180 #[] w (fun e w'=>∃r1:Array Value,e=.returned (.agg r1)∧K r1 w'):=by
 refine cw (args:=[]) func180 ntmps180 (eg (sn (O:=(.cells #[(vb false),(vb false),(vb false),(vb false),(vi 0),(vb false),(vb false),(vb false),(vb false),(vi 0),(vb false),(vb false),(vb false),(vb false),(vi 0),(vb false),(vb false),(vb false),(vb false),(vi 0),(vb false),(vb false),(vb false),(vb false),(vi 0),(vb false),(vb false),(vb false),(vb false),(vi 0),(vb false),(vb false),(vb false),(vb false),(vi 0),(vb false),(vb false),(vb false),(vb false),(vi 0),(vb false),(vb false),(vb false),(vb false),(vi 0),(vb false),(vb false),(vb false),(vb false),(vi 0)] 249)) (zI (zeroValue249 _) rfl) ?_))
 intro p1 w1 hn2
 have h:=h p1 w1 hn2
 refine ln (eg (qd (qd (qb (sro (sizeOf249 _) h fun w2 h=>ln (er ?_))))))
 obtain ⟨q1,hv1,h⟩:=h
 refine gg1 results180 (RV.cellAr (A:=p1) (vs:=q1) (by kernel_rfl) (isAgg249 _) (sizeOf249 _) hv1) ⟨q1,rfl,h⟩
def m_A3 (p1:Option Addr) (t1:Int) (w:World) (K:Int→WP):Prop :=Calls prog 115 #[(vp p1),(vi t1)] w (fun e w1=>∃r1,e=.returned (vb r1)∧Br (!r1) (K 0 w1) (∃a1,p1=some a1∧∃v1:Sl,w1.cell? a1=some v1.v∧∃a2:Addr,At v1 (q6.wrap (t1 - 1)) 9 a2∧∃v2,w1.cell? (a2.add 8)=some (vi v2)∧K v2 w1))
theorem w_A3 (p1 t1 w K) (h:m_A3 p1 t1 w K):
  Calls prog 181 #[(vp p1),(vi t1)] w (fun e w'=>∃r2,e=.returned (vi r2)∧K r2 w'):=by
 refine cw (args:=[(vp p1),(vi t1)]) func181 ntmps181 (eg (q0 (vi 0) (ln (zB (eg (q0 (vp p1) (q0 (vi t1) ?_)))))))
 refine sc call115 (h.mono fun e w1 ⟨r1,k,h⟩=>⟨_,k,?_⟩)
 refine q (ln (cbr h ?_ ?_))<;>intro h
 refine eg (q (ln (er (vA (rs1 results181 ⟨0,rfl,h⟩)))))
 refine zD (zN (eg (q (qm h fun a1 h=>q (ql (isAgg94 _) h fun v1 h=>qb (qi (runUnderlying94 _) (sizeOf177 _) h fun a2 h=>q (ql (isAgg3 _) h fun v2 h=>q (ln (er (rs1 results181 ⟨v2,rfl,h⟩))))))))))
def m_B3 (p1:Option Addr) (t1:Int) (w:World) (K:Sl→WP):Prop :=∀p2 w1,New w (.cells #[(vp p1)] 29) p2 w1→∀p3 w2,New w1 (.cells #[Sl.nil.v] 137) p3 w2→∀p4 w3,New w2 (.map #[] 0) p4 w3→∀p5 w4,New w3 (.cells #[(.map none)] 205) p5 w4→zT w4 p5∧∀w5,w5=w4.setCell p5 (.map (some p4.block))→∀p6 w6,New w5 (.cells #[(.nilFunc:Value)] 267) p6 w6→zT w6 p6∧∀w7,w7=w6.setCell p6 (.func (.func 231) #[] #[(vp (some p5)),(vp (some p2)),(vp (some p6)),(vp (some p3))])→∃v1,w7.cell? p2=some (vp v1)∧Calls prog 115 #[(vp v1),(vi t1)] w7 (fun e w8=>∃r1,e=.returned (vb r1)∧Br r1 (∃v2:Value,w8.cell? p6=some v2∧∃(f1:FuncId) (fs1 cs1:Array Value),v2=.func (.func f1) fs1 cs1∧(∀args w,(callFunc f1 args).run prog w=.ok (.enter f1 args) w)∧Calls prog f1 (fs1++#[(vi t1)]++cs1) w8 (fun e w9=>e=.returned (.tuple #[])∧∃v3:Sl,w9.cell? p3=some v3.v∧K v3 w9)) (∃v4:Sl,w8.cell? p3=some v4.v∧K v4 w8))
theorem w_B3 (p1 t1 w K) (h:m_B3 p1 t1 w K):
  Calls prog 199 #[(vp p1),(vi t1)] w (fun e w'=>∃r2:Sl,e=.returned r2.v∧K r2 w'):=by
 refine cw (args:=[(vp p1),(vi t1)]) func199 ntmps199 (eg (sn (O:=(.cells #[(vp p1)] 29)) xb ?_))
 intro p2 w1 hn7
 have h:=h p2 w1 hn7
 refine q (ln (eg (nw1 h (zI (zeroValue137 _) rfl) fun p3 w2 h=>ln (eg (nw4 (fun p=>.map (some p.block)) h fun p4 w3 h=>nw1 h (zI (zeroValue205 _) rfl) fun p5 w4 h=>st1 (sizeOf205 _) h fun w5 h=>ln (eg (nw1 h (zI (zeroValue267 _) rfl) fun p6 w6 h=>ln (eg (q (st1 (sizeOf267 _) h fun w7 h=>ln (zB (eg (ql (isAgg29 _) h fun v1 h=>q (sc call115 (h.mono fun e w8 ⟨r1,k,h⟩=>⟨_,k,?_⟩)))))))))))))))
 refine ln (cbr h ?_ ?_)<;>intro h
 refine rg (ql (isAgg267 _) h fun v2 h=>q ?_)
 obtain ⟨f1,fs1,cs1,hp3,h⟩:=h
 obtain ⟨hf1,h⟩:=h
 refine qG (zJ rfl) (jDA (fs:=fs1) (caps:=cs1) (args:=#[(vi t1)]) (by kernel_rfl) hp3 hf1 (by kernel_rfl) rfl) (h.mono ?_)
 rintro e w9 ⟨rfl,h⟩
 refine ⟨_,rfl,?_⟩
 refine ln (eg (ql (isAgg137 _) h fun v3 h=>q (ln (er (rs1 results199 ⟨v3,rfl,h⟩)))))
 refine zD (zN (eg (ql (isAgg137 _) h fun v4 h=>q (ln (er (rs1 results199 ⟨v4,rfl,h⟩))))))
def m_C3 (p1:Option Addr) (aH aI:Int) (aJ aK:Int) (aL:ByteArray) (aM aN:Int) (w:World) (K:Int→Bool→WP):Prop :=∀p2 w1,New w (.cells #[(vi aH),(vi aI),(vi aJ),(vu aK),(vs aL),(vi aM),(vi aN)] 103) p2 w1→Br (Option.isNone p1) (K 0 false w1) (∀w2,w2=w1.drew→∃a1,p1=some a1∧∃v1:Option Nat,w2.cell? (a1.add 1)=some (.map v1)∧∃aA aB aC aD aE aF aG,Row w2 p2 (Ac aA aB aC aD aE aF aG)∧∃v2 ok1,(Instr.lookup 93 (.map v1) (.agg #[(vi aA),(vi aB),(vi aC),(vu aD),(vs aE),(vi aF),(vi aG)]) true).run prog w2=.ok (.tuple #[(vi v2),(vb ok1)]) w2∧K v2 ok1 w2)
theorem w_C3 (p1 aH aI aJ aK aL aM aN w K) (h:m_C3 p1 aH aI aJ aK aL aM aN w K):
  Calls prog 216 #[(vp p1),(.agg #[(vi aH),(vi aI),(vi aJ),(vu aK),(vs aL),(vi aM),(vi aN)])] w (fun e w'=>∃r1 r2,e=.returned (.tuple #[(vi r1),(vb r2)])∧K r1 r2 w'):=by
 refine cw (args:=[(vp p1),(Ae aH aI aJ aK aL aM aN)]) func216 ntmps216 (eg (sn (O:=(.cells #[(vi aH),(vi aI),(vi aJ),(vu aK),(vs aL),(vi aM),(vi aN)] 103)) xb ?_))
 intro p2 w1 hn1
 have h:=h p2 w1 hn1
 refine qb (ln (zB (eg (q (q2 (vb (Option.isNone p1)) (uF (by kernel_rfl) rfl underlying29) (ln (cbr h ?_ ?_)))))))<;>intro h
 refine eg (qb (ln (er (vA (xC (.inl rfl) results216 (v:=(vi 0)) (by kernel_rfl) (v':=(vb false)) (by kernel_rfl) ⟨0,false,rfl,h⟩)))))
 refine zD (zN (zB (qC (by kernel_rfl) (by kernel_rfl) (by kernel_rfl) (by kernel_rfl) ?_)))
 intro w2 hw2
 have h:=h w2 hw2
 refine qq 0 (vp p1) Kp0 (qg 1 ?_)
 obtain ⟨a1,hp1,h⟩:=h
 refine sxQ Kp1 (zJ rfl) rfl (xn hp1) (qq 2 (vp (some (a1.add 1))) Kp2 (qg 3 ?_))
 obtain ⟨v1,hv3,h⟩:=h
 refine sxQ Kp3 (zJ rfl) rfl (xl (isAgg93 _) hv3) (qg 4 ?_)
 obtain ⟨aA,aB,aC,aD,aE,aF,aG,hv2,h⟩:=h
 refine sxQ (v:=(Ae aA aB aC aD aE aF aG)) Kp4 (zJ rfl) rfl (xa p2 (Ac aA aB aC aD aE aF aG) (isAgg103 _) (sizeOf103 _) hv2) (qg 5 ?_)
 obtain ⟨v2,ok1,hv1,h⟩:=h
 refine sxQ (v:=(.tuple #[(vi v2),(vb ok1)])) Kp5 (zJ rfl) rfl (yU (by kernel_rfl) (by kernel_rfl) hv1) (qq 6 (.tuple #[(vi v2),(vb ok1)]) Kp6 (qq 7 (vi v2) Kp7 (qq 8 (vb ok1) Kp8 (qq 9 (vi v2) Kp9 (qq 10 (vb ok1) (zG (S8 (zA (zA zF)))) (wn (zN (eg (qb (qb (ln (er (xC (.inl rfl) results216 (v:=(vi v2)) (by kernel_rfl) (v':=(vb ok1)) (by kernel_rfl) ⟨v2,ok1,rfl,h⟩)))))))))))))
def m_M1_l1 (t1:Int) (cap3 cap4:Addr) (r1:Sl) (x1:Int) (wl1:World) (Kc1:Int→WP) (K:WP):Prop :=Br (decide (x1<(r1.len:Int))) (∃a1:Addr,At r1 x1 1 a1∧∃v6,wl1.cell? a1=some (vi v6)∧∃v7:Value,wl1.cell? cap3=some v7∧∃(f1:FuncId) (fs1 cs1:Array Value),v7=.func (.func f1) fs1 cs1∧(∀args w,(callFunc f1 args).run prog w=.ok (.enter f1 args) w)∧Calls prog f1 (fs1++#[(vi v6)]++cs1) wl1 (fun e w3=>e=.returned (.tuple #[])∧Kc1 (q6.wrap (x1+1)) w3)) (∃v8:Sl,wl1.cell? cap4=some v8.v∧∀p1 w4,New wl1 (.cells #[(vi t1)] 23) p1 w4→∃s1:Sl,∃w5:World,(Builtin.append_ #[137,137] 137 #[v8.v,(Sl.mk (some p1) 1 1).v]).run prog w4=.ok s1.v w5∧zT w5 cap4∧∀w6,w6=w5.setCell cap4 s1.v→K w6)
def m_M1 (t1:Int) (cap1 cap2:Addr) (cap3 cap4:Addr) (w:World) (K:WP):Prop :=∃v1:Option Nat,w.cell? cap1=some (.map v1)∧∃v2,(Instr.lookup 205 (.map v1) (vi t1) false).run prog w=.ok (vi v2) w∧Br (decide (v2>0)) (K w) (∃v3:Option Nat,w.cell? cap1=some (.map v3)∧∃v4,(Instr.lookup 205 (.map v3) (vi t1) false).run prog w=.ok (vi v4) w∧∃w1:World,(Instr.mapUpdate 205 (.map v3) (vi t1) (vi (q6.wrap (v4+1)))).run prog w=.ok () w1∧∃v5,w1.cell? cap2=some (vp v5)∧Calls prog 84 #[(vp v5),(vi t1)] w1 (fun e w2=>∃r1:Sl,e=.returned r1.v∧∃(I1:Int→WP) (mu1:Int→World→Nat),I1 0 w2∧∀(x1:Int) (wl1:World),I1 x1 wl1→m_M1_l1 t1 cap3 cap4 r1 x1 wl1 (fun y'0 w'=>I1 y'0 w'∧mu1 y'0 w'<mu1 x1 wl1) K))
theorem w_M1 (t1 cap1 cap2 cap3 cap4 w K) (h:m_M1 t1 cap1 cap2 cap3 cap4 w K):
  Calls prog 231 #[(vi t1),(vp (some cap1)),(vp (some cap2)),(vp (some cap3)),(vp (some cap4))] w (fun e w'=>e=.returned (.tuple #[])∧K  w'):=by
 refine cw (args:=[(vi t1),(vp (some cap1)),(vp (some cap2)),(vp (some cap3)),(vp (some cap4))]) func231 ntmps231 (zB (eg ?_))
 refine ql (isAgg205 _) h fun v1 h=>q ?_
 obtain ⟨v2,hv10,h⟩:=h
 refine q2 (vi v2) (yU (by kernel_rfl) (by kernel_rfl) hv10) (q (ln (cbr h ?_ ?_)))<;>intro h
 refine er (vA (jFH (.inl rfl) results231 ⟨rfl,h⟩))
 refine zD (zN (eg (ql (isAgg205 _) h fun v3 h=>q ?_)))
 obtain ⟨v4,hv8,h⟩:=h
 refine q2 (vi v4) (yU (by kernel_rfl) (by kernel_rfl) hv8) (q ?_)
 obtain ⟨w1,hv7,h⟩:=h
 refine qV (zJ rfl) (tD (by kernel_rfl) (by kernel_rfl) (by kernel_rfl) hv7) (ln (zB (eg (ql (isAgg29 _) h fun v5 h=>q (sc call84 (h.mono fun e w2 ⟨r1,k,h⟩=>⟨_,k,?_⟩))))))
 refine qb (ln (zL ?_))
 obtain ⟨I1,mu1,h0,hr⟩:=h
 refine vU (σ:=Int×World) (fun s ρ w=>w=s.2∧Has ρ [(0,(vi t1)),(3,(vp (some cap3))),(4,(vp (some cap4))),(18,r1.v),(19,(vi (r1.len:Int))),(20,(vi s.1))]∧I1 s.1 s.2) (fun s=>mu1 s.1 s.2) (0,w2) ⟨rfl,hm,h0⟩ ?_
 rintro ⟨x1,wl1⟩ ρ w ⟨hw,hH,hI⟩
 dsimp only at hw hH;subst w
 have h:=hr x1 wl1 hI
 refine zQ hH (eg (q (ln (zB (cbr h ?_ ?_)))))<;>intro h
 refine zD (zN (zB (zL (eg (qi (runUnderlying137 _) (sizeOf23 _) h fun a1 h=>ql (isAgg23 _) h fun v6 h=>q (ln (rg (ql (isAgg267 _) h fun v7 h=>q ?_))))))))
 obtain ⟨f1,fs1,cs1,hp1,h⟩:=h
 obtain ⟨hf1,h⟩:=h
 refine qG (zJ rfl) (jDA (fs:=fs1) (caps:=cs1) (args:=#[(vi v6)]) (by kernel_rfl) hp1 hf1 (by kernel_rfl) rfl) (h.mono ?_)
 rintro e w3 ⟨rfl,h⟩
 refine ⟨_,rfl,?_⟩
 refine zC (xE (zN (rg (qb (ln ⟨((q6.wrap (x1+1)),w3),⟨rfl,hm,h.1⟩,h.2⟩)))))
 refine vQ (xG (xG (xA (zN (rg (ql (isAgg137 _) h fun v8 h=>q (yX (O:=(.cells #[(vi t1)] 23)) (fun p=>(Sl.mk (some p) 1 1).v) (zJ rfl) (vD (vs:=#[(0,(vi t1))]) (by kernel_rfl) (by kernel_rfl)) ?_)))))))
 intro p1 w4 hn2
 have h:=h p1 w4 hn2
 obtain ⟨s1,w5,hv4,h⟩:=h
 refine st (v:=s1.v) (zJ rfl) (vC (args:=#[v8.v,(Sl.mk (some p1) 1 1).v]) (by kernel_rfl) (fun _=>rfl) hv4) (st1 (sizeOf137 _) h fun w6 h=>zC (jFH (.inr rfl) results231 ⟨rfl,h⟩))
end Go.Proofs
end
section
namespace Go.Sp
structure Node where
 kind:Int
 frm:Int
 to:Int
 num:Int
 text:ByteArray
 a:Int
 b:Int
deriving DecidableEq
structure Shape where
 frm:Bool
 to:Bool
 num:Bool
 text:Bool
 kids:Int
deriving DecidableEq
def noShape:Shape:=⟨false,false,false,false,0⟩
def shapeOf (k:Int):Shape :=
 if k=1 then ⟨true,false,false,false,0⟩ else if k=2 then ⟨false,false,true,false,0⟩ else if k=3 then ⟨false,false,false,true,0⟩
 else if k=4 then ⟨false,false,false,false,2⟩ else if k=5 then ⟨false,false,false,false,1⟩ else if k=6 then ⟨true,false,false,false,0⟩
 else if k=7 then ⟨true,false,false,false,1⟩ else if k=8 then ⟨true,true,false,false,1⟩ else if k=9 then ⟨true,true,false,false,1⟩ else noShape
def isKind (k:Int):Bool:=decide (1≤k) && decide (k≤9)
def tQ (n:Int):Bool:=decide (0≤n) && decide (n<16)
def vG (n:Node):Int :=
 let s:=shapeOf n.kind
 if !isKind n.kind || (!s.frm && n.frm != 0) || (!s.to && n.to != 0) || (!s.num && n.num != 0) || (!s.text && !decide (n.text=⟨#[]⟩)) then 53 else 0
def zZ (s:Shape) (n:Node):Int :=
 if (s.frm && !tQ n.frm) || (s.to && (!tQ n.to || n.to == n.frm)) then 50 else if n.text.size>64 then 1 else 0
end Go.Sp
end
section
open Go Go.SE
namespace Go.Proofs
open Tryz
attribute [local irreducible] Calls
theorem jLP (n:Int) (w:World):Calls prog 152 #[.int .i64 n] w (fun e w'=>∃r,e=.returned (.bool r)∧(r=Sp.tQ n∧w'=w)):=by
 refine w_Y2 n w (fun r w'=>r=Sp.tQ n∧w'=w) ?_;unfold m_Y2;refine ⟨fun h=>⟨?_,rfl⟩,fun h=>⟨?_,rfl⟩⟩
 ·have:0≤n:=by simpa using h
  simp [Sp.tQ,this]
 ·have:¬ 0≤n:=by simpa using h
  simp [Sp.tQ,this]
theorem jLQ (s1 s2 s3 s4:Bool) (s5 k f t u:Int) (x:ByteArray) (a b:Int) (w:World) :
  Calls prog 109 #[.agg #[.bool s1,.bool s2,.bool s3,.bool s4,.int .i64 s5],.agg #[.int .i64 k,.int .i64 f,.int .i64 t,.int .u64 u,.string x,.int .i64 a,.int .i64 b]] w
   (fun e w'=>∃r,e=.returned (.int .i64 r)∧(r=Sp.zZ ⟨s1,s2,s3,s4,s5⟩ ⟨k,f,t,u,x,a,b⟩∧Pure w w')):=by
 refine w_E1 _ _ _ _ _ _ _ _ _ _ _ _ w (fun r w'=>r=Sp.zZ ⟨s1,s2,s3,s4,s5⟩ ⟨k,f,t,u,x,a,b⟩∧Pure w w') ?_
 unfold m_E1
 intro p1 w1 h1 p2 w2 h2
 have b1:=(Box.of_new h1).pure (Ext.new h2)
 have b2:=Box.of_new h2
 have E:Pure w w2:=(Ext.new h1).trans (Ext.new h2)
 have J:∀c:Bool,c=(s1 && !Sp.tQ f)→m_E1_j1 p1 p2 c w2 (fun r w'=>r=Sp.zZ ⟨s1,s2,s3,s4,s5⟩ ⟨k,f,t,u,x,a,b⟩∧Pure w w'):=by
  intro c hc;unfold m_E1_j1;refine ⟨fun h=>⟨?_,E⟩,fun h=>⟨_,b1.cell rfl,fun h'=>⟨_,b2.cell rfl,?_⟩,fun h'=>⟨_,b2.cell rfl,fun h3=>⟨?_,E⟩,fun h3=>⟨?_,E⟩⟩⟩⟩
  ·rw [hc] at h;simp [Sp.zZ,h]
  ·refine (jLP _ _).mono ?_;rintro _ _ ⟨r,rfl,rfl,rfl⟩;rw [hc] at h;refine ⟨_,rfl,fun h2=>⟨?_,E⟩,fun h2=>⟨_,b2.cell rfl,_,b2.cell rfl,fun h3=>⟨?_,E⟩,fun h3=>⟨_,b2.cell rfl,fun h4=>⟨?_,E⟩,fun h4=>⟨?_,E⟩⟩⟩⟩
   ·simp [Sp.zZ,h',h2]
   ·simp [Sp.zZ,h',h3]
   ·simp only [Sp.zZ,h,h',h3];simp at h2 h4;simp [h2];omega
   ·simp only [Sp.zZ,h,h',h3];simp at h2 h4;simp [h2];omega
  ·rw [hc] at h;simp only [Sp.zZ,h,h'];simp at h3;simp;omega
  ·rw [hc] at h;simp only [Sp.zZ,h,h'];simp at h3;simp;omega
 refine ⟨_,b1.cell0,fun h=>⟨_,b2.cell rfl,?_⟩,fun h=>J _ (by simp [h])⟩
 refine (jLP _ _).mono ?_
 rintro _ _ ⟨r,rfl,rfl,rfl⟩
 exact ⟨_,rfl,J _ (by simp [h])⟩
def jJQ:Array Value:=#[.bool false,.bool false,.bool false,.bool false,.int .i64 0,.bool true,.bool false,.bool false,.bool false,.int .i64 0,.bool false,.bool false,.bool true,.bool false,.int .i64 0,.bool false,.bool false,.bool false,.bool true,.int .i64 0,.bool false,.bool false,.bool false,.bool false,.int .i64 2,.bool false,.bool false,.bool false,.bool false,.int .i64 1,.bool true,.bool false,.bool false,.bool false,.int .i64 0,.bool true,.bool false,.bool false,.bool false,.int .i64 1,.bool true,.bool true,.bool false,.bool false,.int .i64 1,.bool true,.bool true,.bool false,.bool false,.int .i64 1]
theorem jRZ (w:World):Calls prog 180 #[] w (fun e w'=>∃r,e=.returned (.agg r)∧(r=jJQ∧Pure w w')):=by
 refine w_Z2 w (fun r w'=>r=jJQ∧Pure w w') ?_;unfold m_Z2;intro p1 w1 h1;have E1:Pure w w1:=Ext.new h1;have hp:=New.own (Ext.refl w) h1;have b1:=Box.of_newA h1;clear h1;refine bx 50 b1 (by kernel_rfl) (by kernel_rfl) (fun w' b E=>?_);refine ⟨jJQ,⟨by kernel_rfl,b.row_eq (by kernel_rfl)⟩,rfl,E1.own hp E⟩
theorem jIP (k:Int) (w:World):Calls prog 136 #[.int .i64 k] w (fun e w'=>∃r1:Bool,∃r2:Bool,∃r3:Bool,∃r4:Bool,∃r5:Int,∃r:Bool,e=.returned (.tuple #[.agg #[.bool r1,.bool r2,.bool r3,.bool r4,.int .i64 r5],.bool r])∧(((⟨r1,r2,r3,r4,r5⟩:Sp.Shape)=Sp.shapeOf k∧r=Sp.isKind k)∧Pure w w')):=by
 refine w_W2 k w (fun r1 r2 r3 r4 r5 r w'=>((⟨r1,r2,r3,r4,r5⟩:Sp.Shape)=Sp.shapeOf k∧r=Sp.isKind k)∧Pure w w') ?_;unfold m_W2;intro p1 w1 h1;have E1:Pure w w1:=Ext.new h1;have b1:=Box.of_new h1;have hp:=New.own (Ext.refl w) h1;refine ⟨fun h=>bx 5 b1 rfl rfl (fun w' b E=>⟨_,_,_,_,_,b.row,⟨?_,?_⟩,E1.own hp E⟩),fun h=>⟨fun h2=>bx 5 b1 rfl rfl (fun w' b E=>⟨_,_,_,_,_,b.row,⟨?_,?_⟩,E1.own hp E⟩),fun h2=>?_⟩⟩
 ·have:k<1:=by simpa using h
  simp only [Sp.shapeOf,Sp.noShape];repeat rw [if_neg (by omega)]
 ·have:k<1:=by simpa using h
  simp [Sp.isKind];omega
 ·have:9<k:=by simpa using h2
  simp only [Sp.shapeOf,Sp.noShape];repeat rw [if_neg (by omega)]
 ·have:9<k:=by simpa using h2
  simp [Sp.isKind];omega
 ·have h3:¬ k<1:=by simpa using h
  have h4:¬ 9<k:=by simpa using h2
  refine (jRZ _).mono ?_;rintro _ w4 ⟨_,rfl,rfl,E4⟩;refine ⟨_,rfl,?_⟩;have b4:=b1.pure E4;have E5:Pure w w4:=E1.trans E4;have hk:k=1∨k=2∨k=3∨k=4∨k=5∨k=6∨k=7∨k=8∨k=9:=by omega
  rcases hk with rfl | rfl | rfl | rfl | rfl | rfl | rfl | rfl | rfl
  ·exact ⟨true,false,false,false,0,by kernel_rfl,bx 5 b4 rfl rfl (fun w' b E=>⟨_,_,_,_,_,b.row,⟨by decide,by decide⟩,E5.own hp E⟩)⟩
  ·exact ⟨false,false,true,false,0,by kernel_rfl,bx 5 b4 rfl rfl (fun w' b E=>⟨_,_,_,_,_,b.row,⟨by decide,by decide⟩,E5.own hp E⟩)⟩
  ·exact ⟨false,false,false,true,0,by kernel_rfl,bx 5 b4 rfl rfl (fun w' b E=>⟨_,_,_,_,_,b.row,⟨by decide,by decide⟩,E5.own hp E⟩)⟩
  ·exact ⟨false,false,false,false,2,by kernel_rfl,bx 5 b4 rfl rfl (fun w' b E=>⟨_,_,_,_,_,b.row,⟨by decide,by decide⟩,E5.own hp E⟩)⟩
  ·exact ⟨false,false,false,false,1,by kernel_rfl,bx 5 b4 rfl rfl (fun w' b E=>⟨_,_,_,_,_,b.row,⟨by decide,by decide⟩,E5.own hp E⟩)⟩
  ·exact ⟨true,false,false,false,0,by kernel_rfl,bx 5 b4 rfl rfl (fun w' b E=>⟨_,_,_,_,_,b.row,⟨by decide,by decide⟩,E5.own hp E⟩)⟩
  ·exact ⟨true,false,false,false,1,by kernel_rfl,bx 5 b4 rfl rfl (fun w' b E=>⟨_,_,_,_,_,b.row,⟨by decide,by decide⟩,E5.own hp E⟩)⟩
  ·exact ⟨true,true,false,false,1,by kernel_rfl,bx 5 b4 rfl rfl (fun w' b E=>⟨_,_,_,_,_,b.row,⟨by decide,by decide⟩,E5.own hp E⟩)⟩
  ·exact ⟨true,true,false,false,1,by kernel_rfl,bx 5 b4 rfl rfl (fun w' b E=>⟨_,_,_,_,_,b.row,⟨by decide,by decide⟩,E5.own hp E⟩)⟩
theorem jPR (k f t u:Int) (x:ByteArray) (a b:Int) (w:World) :
  Calls prog 108 #[.agg #[.int .i64 k,.int .i64 f,.int .i64 t,.int .u64 u,.string x,.int .i64 a,.int .i64 b]] w
   (fun e w'=>∃r1:Bool,∃r2:Bool,∃r3:Bool,∃r4:Bool,∃r5:Int,∃r:Int,e=.returned (.tuple #[.agg #[.bool r1,.bool r2,.bool r3,.bool r4,.int .i64 r5],.int .i64 r])∧(((⟨r1,r2,r3,r4,r5⟩:Sp.Shape)=Sp.shapeOf k∧r=Sp.vG ⟨k,f,t,u,x,a,b⟩)∧Pure w w')):=by
 suffices key:∀K:Bool→Bool→Bool→Bool→Int→Int→WP,(∀r1 r2 r3 r4 r5 r w',((⟨r1,r2,r3,r4,r5⟩:Sp.Shape)=Sp.shapeOf k∧r=Sp.vG ⟨k,f,t,u,x,a,b⟩)∧Pure w w'→K r1 r2 r3 r4 r5 r w')→m_E k f t u x a b w K from
  w_E _ _ _ _ _ _ _ w _ (key _ (fun _ _ _ _ _ _ _ h=>h))
 intro K hK
 unfold m_E
 intro p1 w1 h1 p2 w2 h2
 have a1:=(Box.of_new h1).pure (Ext.new h2)
 have a2:=Box.of_new h2
 have E2:Pure w w2:=(Ext.new h1).trans (Ext.new h2)
 have o2:=New.own (Ext.new h1:Pure w w1) h2
 have n12:p1.block≠p2.block:=New.ne h2 (Box.of_new h1).blk
 refine ⟨_,a1.cell0,?_⟩
 refine (jIP _ _).mono ?_
 rintro _ w3 ⟨s1,s2,s3,s4,s5,ok,rfl,⟨hs,hok⟩,E3⟩
 refine ⟨_,_,_,_,_,_,rfl,?_⟩
 intro p3 w4 h3
 have E4:Pure w w4:=(E2.trans E3).trans (Ext.new h3)
 have o3:=New.own (E2.trans E3) h3
 have n13:p1.block≠p3.block:=New.ne h3 (a1.pure E3).blk
 have n23:p2.block≠p3.block:=New.ne h3 (a2.pure E3).blk
 refine bx 5 (Box.of_new h3) rfl rfl (fun w5 b3 E=>?_)
 have b1:=((a1.pure E3).pure (Ext.new h3)).ext E n13
 have b2:=((a2.pure E3).pure (Ext.new h3)).ext E n23
 have E5:=E4.own o3 E
 clear E E4 E3 E2 a1 a2 h1 h2 h3
 have fin : ∀ v : Int, v = Sp.vG ⟨k, f, t, u, x, a, b⟩ → (∀ j, j < 5 → zT w5 (p2.add j)) ∧ ∀ w', w' = storeRow w5 p2 [.bool s1, .bool s2, .bool s3, .bool s4, .int .i64 s5] →
   ∃q1:Bool,∃q2:Bool,∃q3:Bool,∃q4:Bool,∃q5:Int,Row w' p2 [.bool q1,.bool q2,.bool q3,.bool q4,.int .i64 q5]∧K q1 q2 q3 q4 q5 v w':=fun v hv =>
  bx 5 b2 rfl rfl (fun w' b E=>⟨_,_,_,_,_,b.row,hK _ _ _ _ _ _ _ ⟨⟨hs,hv⟩,E5.own o2 E⟩⟩)
 obtain ⟨e1,e2,e3,e4,e5⟩:s1=(Sp.shapeOf k).frm∧s2=(Sp.shapeOf k).to∧s3=(Sp.shapeOf k).num∧s4=(Sp.shapeOf k).text∧s5=(Sp.shapeOf k).kids:=by rw [← hs];simp
 have J3:∀c:Bool,c=(!ok || (!s1 && f != 0) || (!s2 && t != 0) || (!s3 && u != 0))→m_E_j3 p1 p2 p3 c w5 K:=by
  intro c hc;unfold m_E_j3;refine ⟨fun h=>⟨_,_,_,_,_,b3.row,fin _ ?_⟩,fun h=>⟨_,b3.cell rfl,fun h4=>⟨_,b1.cell rfl,fun h5=>⟨_,_,_,_,_,b3.row,fin _ ?_⟩,fun h5=>⟨_,_,_,_,_,b3.row,fin _ ?_⟩⟩,fun h4=>⟨_,_,_,_,_,b3.row,fin _ ?_⟩⟩⟩
  ·rw [h] at hc;simp only [Sp.vG,← e1,← e2,← e3,← e4,← hok,← hc];simp
  ·rw [h] at hc;simp only [Sp.vG,← e1,← e2,← e3,← e4,← hok,← hc];simp at h4 h5;simp [h4,h5]
  ·rw [h] at hc;simp only [Sp.vG,← e1,← e2,← e3,← e4,← hok,← hc];simp at h4 h5;simp [h4,h5]
  ·rw [h] at hc;simp only [Sp.vG,← e1,← e2,← e3,← e4,← hok,← hc];simp at h4;simp [h4]
 have J2:∀c:Bool,c=(!ok || (!s1 && f != 0) || (!s2 && t != 0))→m_E_j2 p1 p2 p3 c w5 K:=by
  intro c hc;have J4:∀d:Bool,d=(!s3 && u != 0)→m_E_j4 p1 p2 p3 c d w5 K:=fun d hd=>⟨fun h=>J3 _ (by rw [← hc,h];rfl),fun h=>J3 _ (by rw [← hc,h];simpa using hd)⟩;exact ⟨fun h=>J3 _ (by rw [← hc,h];rfl),fun h=>⟨_,b3.cell rfl,fun h4=>⟨_,b1.cell rfl,J4 _ (by rw [h4];rfl)⟩,fun h4=>J4 _ (by rw [h4];rfl)⟩⟩
 have J1:∀c:Bool,c=(!ok || (!s1 && f != 0))→m_E_j1 p1 p2 p3 c w5 K:=by
  intro c hc;have J5:∀d:Bool,d=(!s2 && t != 0)→m_E_j5 p1 p2 p3 c d w5 K:=fun d hd=>⟨fun h=>J2 _ (by rw [← hc,h];rfl),fun h=>J2 _ (by rw [← hc,h];simpa using hd)⟩;exact ⟨fun h=>J2 _ (by rw [← hc,h];rfl),fun h=>⟨_,b3.cell rfl,fun h4=>⟨_,b1.cell rfl,J5 _ (by rw [h4];rfl)⟩,fun h4=>J5 _ (by rw [h4];rfl)⟩⟩
 have J6:∀d:Bool,d=(!s1 && f != 0)→m_E_j6 p1 p2 ok p3 d w5 K:=fun d hd=>⟨fun h=>J1 _ (by rw [h];rfl),fun h=>J1 _ (by rw [h];simpa using hd)⟩
 exact ⟨fun h=>J1 _ (by rw [h];rfl),fun h=>⟨_,b3.cell0,fun h4=>⟨_,b1.cell rfl,J6 _ (by rw [h4];rfl)⟩,fun h4=>J6 _ (by rw [h4];rfl)⟩⟩
end Go.Proofs
end
section
namespace Go.Sp
structure Ent where
 node:Node
 size:Int
 depth:Int
deriving DecidableEq
abbrev Pool:=List Ent
def inP (L:Pool) (t:Int):Bool:=decide (1≤t) && decide (t≤L.length)
def get (L:Pool) (t:Int):Option Ent:=if inP L t then L[(t - 1).toNat]? else none
def sizeOf (L:Pool) (t:Int):Int:=((get L t).map (·.size)).getD 0
def depthOf (L:Pool) (t:Int):Int:=((get L t).map (·.depth)).getD 0
def jFL:Node:=⟨0,0,0,0,⟨#[]⟩,0,0⟩
def nodeOf (L:Pool) (t:Int):Node:=((get L t).map (·.node)).getD jFL
def zM (n:Node):List Int:=[n.a,n.b].take (shapeOf n.kind).kids.toNat
def check (L:Pool) (n:Node):Int×Int×Int :=
 let s:=shapeOf n.kind
 if vG n≠0 then (0,0,vG n)
 else if (decide (s.kids<1) && n.a != 0) || (decide (s.kids<2) && n.b != 0) then (0,0,53)
 else if zZ s n≠0 then (0,0,zZ s n)
 else if (zM n).any (fun t=>!inP L t) then (0,0,51)
 else
  let sz:=1+((zM n).map (sizeOf L)).sum
  let d:=(zM n).foldl (fun d t=>max d (depthOf L t)) 0+1
  if sz>4096∨d>64 then (0,0,52) else (sz,d,0)
def find (L:Pool) (n:Node):Option Nat:=L.findIdx? (fun e=>e.node=n)
def make (L:Pool) (n:Node):Int×Int×Pool :=
 let c:=check L n
 if c.2.2≠0 then (0,c.2.2,L)
 else match find L n with
  | some i=>(i+1,0,L)
  | none=>if 65536≤L.length then (0,6,L) else (L.length+1,0,L++[⟨n,c.1,c.2.1⟩])
structure Ok (L:Pool):Prop where
 few:L.length≤65536
 nodup:(L.map (·.node)).Nodup
 size:∀e∈L,1≤e.size∧e.size≤4096
 depth:∀e∈L,1≤e.depth∧e.depth≤64
theorem vB {L:Pool} {t:Int}:inP L t=true↔1≤t∧t≤L.length:=by simp [inP]
theorem jBS {L:Pool} {t:Int} (h:inP L t=true):∃e,get L t=some e∧e∈L∧∃hi:(t - 1).toNat<L.length,L[(t - 1).toNat]=e:=by
 obtain ⟨h1,h2⟩:=vB.1 h;have hi:(t - 1).toNat<L.length:=by omega
 exact ⟨L[(t - 1).toNat],by simp [get,h],List.getElem_mem hi,hi,rfl⟩
theorem uQ {L:Pool} {t:Int} (h:inP L t=false):get L t=none:=by simp [get,h]
theorem Ok.sizeOf {L:Pool} (h:Ok L) (t:Int):0≤sizeOf L t∧sizeOf L t≤4096:=by
 cases ht:inP L t with
 | true=>obtain ⟨e,he,hm,_⟩:=jBS ht;have:=h.size e hm;simp [Sp.sizeOf,he];omega
 | false=>simp [Sp.sizeOf,uQ ht]
theorem Ok.depthOf {L:Pool} (h:Ok L) (t:Int):0≤depthOf L t∧depthOf L t≤64:=by
 cases ht:inP L t with
 | true=>obtain ⟨e,he,hm,_⟩:=jBS ht;have:=h.depth e hm;simp [Sp.depthOf,he];omega
 | false=>simp [Sp.depthOf,uQ ht]
theorem Ok.nil:Ok []:=⟨by simp,by simp,by simp,by simp⟩
theorem qX (k:Int):(shapeOf k).kids=0∨(shapeOf k).kids=1∨(shapeOf k).kids=2:=by
 unfold shapeOf noShape;repeat' split
 all_goals simp
end Go.Sp
end
section
open Go Go.SE
namespace Go.Proofs
open Tryz
attribute [local irreducible] Calls
def xD (n:Sp.Node):List Value:=[.int .i64 n.kind,.int .i64 n.frm,.int .i64 n.to,.int .u64 n.num,.string n.text,.int .i64 n.a,.int .i64 n.b]
def jNJ (e:Sp.Ent):List Value:=xD e.node++[.int .i64 e.size,.int .i64 e.depth]
def jCZ (n:Sp.Node):Value:=.agg (xD n).toArray
def tK (L:Sp.Pool):List (Value×Value):=L.zipIdx.map fun p=>(jCZ p.1.node,.int .i64 (p.2+1:Nat))
structure PoolS (w:World) (p:Addr) (L:Sp.Pool) (s:Sl) (m:Nat):Prop where
 box:Box w p [s.v,.map (some m)] 96
 rows:Rws w 177 9 s (L.map jNJ)
 map:CMap w m (tK L)
 n1:m≠p.block
 n2:¬ s.blk p.block
 n3:¬ s.blk m
def zS (w:World) (p:Addr) (L:Sp.Pool) (F:NP):Prop:=∃s m,PoolS w p L s m∧∀b,F b↔(b=p.block∨s.blk b∨b=m)
theorem zS.ext {G:NP} {w w':World} {p:Addr} {L:Sp.Pool} {F:NP} (h:zS w p L F) (hE:Ext G w w') (hd:∀b,F b→¬ G b):zS w' p L F:=by
 obtain ⟨s,m,h,hF⟩:=h;exact ⟨s,m,⟨h.box.ext hE (hd _ ((hF _).2 (.inl rfl))),h.rows.ext hE (fun b hb=>hd _ ((hF _).2 (.inr (.inl hb)))),h.map.ext hE (hd _ ((hF _).2 (.inr (.inr rfl)))),h.n1,h.n2,h.n3⟩,hF⟩
theorem zS.pure {w w':World} {p:Addr} {L:Sp.Pool} {F:NP} (h:zS w p L F) (hE:Pure w w'):zS w' p L F:=h.ext hE (fun _ _ h=>h)
theorem zS.lt {w:World} {p:Addr} {L:Sp.Pool} {F:NP} (h:zS w p L F) {b:Nat} (hb:F b):b<w.heap.size:=by
 obtain ⟨s,m,h,hF⟩:=h;rcases (hF b).1 hb with rfl | hb | rfl
 ·exact h.box.lt
 ·exact h.rows.lt hb
 ·exact h.map.lt
theorem i64 {n:Int} (h:-9223372036854775808≤n) (h':n≤9223372036854775807):IntKind.i64.wrap n=n:=IntWalk.i64_in n ⟨h,h'⟩
theorem c_in (p:Addr) (t:Int) (w:World) {L:Sp.Pool} {F:NP} (hP:zS w p L F):Calls prog 115 #[.pointer (some p),.int .i64 t] w (fun e w'=>∃r,e=.returned (.bool r)∧(r=Sp.inP L t∧w=w')):=by
 obtain ⟨s,m,h,_⟩:=hP;refine w_W (some p) t w (fun r w'=>r=Sp.inP L t∧w=w') ?_;unfold m_W;have hl:(s.len:Int)=L.length:=by rw [h.rows.len];simp
 refine Br.t rfl ⟨fun h1=>⟨p,rfl,s,h.box.cell0,?_,rfl⟩,fun h1=>⟨?_,rfl⟩⟩
 ·have:1≤t:=by simpa using h1
  simp [Sp.inP,hl,this]
 ·have:¬ 1≤t:=by simpa using h1
  simp [Sp.inP,this]
theorem PoolS.at {w:World} {p:Addr} {L:Sp.Pool} {s:Sl} {m:Nat} (h:PoolS w p L s m) {t:Int} (ht:Sp.inP L t=true) (hok:Sp.Ok L):∃a e,At s (IntKind.i64.wrap (t - 1)) 9 a∧Row w a (jNJ e)∧s.blk a.block∧Sp.get L t=some e:=by
 obtain ⟨h1,h2⟩:=Sp.vB.1 ht;obtain ⟨e,hg,_,hi,he⟩:=Sp.jBS ht;have:=hok.few;rw [i64 (by omega) (by omega)];obtain ⟨a,hat,hr,hb⟩:=h.rows.at (i:=t - 1) (by omega) (by simpa using hi);exact ⟨a,e,hat,(by rw [List.getElem_map,he] at hr;exact hr),hb,hg⟩
theorem jTA (p:Addr) (t:Int) (w:World) {L:Sp.Pool} {F:NP} (hP:zS w p L F) (hok:Sp.Ok L):Calls prog 67 #[.pointer (some p),.int .i64 t] w (fun e w'=>∃r,e=.returned (.int .i64 r)∧(r=Sp.sizeOf L t∧w=w')):=by
 refine w_T2 (some p) t w (fun r w'=>r=Sp.sizeOf L t∧w=w') ?_;unfold m_T2;refine (c_in p t w hP).mono ?_;rintro _ _ ⟨_,rfl,rfl,rfl⟩;obtain ⟨s,m,h,_⟩:=hP;refine ⟨_,rfl,fun h1=>⟨?_,rfl⟩,fun h1=>?_⟩
 ·simp [Sp.sizeOf,Sp.uQ (show Sp.inP L t=false by simpa using h1)]
 ·obtain ⟨a,e,hat,hr,_,hg⟩:=h.at (show Sp.inP L t=true by simpa using h1) hok;exact ⟨p,rfl,s,h.box.cell0,a,hat,e.size,hr 7 (by simp [jNJ,xD]),by simp [Sp.sizeOf,hg],rfl⟩
theorem jUM (p:Addr) (t:Int) (w:World) {L:Sp.Pool} {F:NP} (hP:zS w p L F) (hok:Sp.Ok L):Calls prog 181 #[.pointer (some p),.int .i64 t] w (fun e w'=>∃r,e=.returned (.int .i64 r)∧(r=Sp.depthOf L t∧w=w')):=by
 refine w_A3 (some p) t w (fun r w'=>r=Sp.depthOf L t∧w=w') ?_;unfold m_A3;refine (c_in p t w hP).mono ?_;rintro _ _ ⟨_,rfl,rfl,rfl⟩;obtain ⟨s,m,h,_⟩:=hP;refine ⟨_,rfl,fun h1=>⟨?_,rfl⟩,fun h1=>?_⟩
 ·simp [Sp.depthOf,Sp.uQ (show Sp.inP L t=false by simpa using h1)]
 ·obtain ⟨a,e,hat,hr,_,hg⟩:=h.at (show Sp.inP L t=true by simpa using h1) hok;exact ⟨p,rfl,s,h.box.cell0,a,hat,e.depth,hr 8 (by simp [jNJ,xD]),by simp [Sp.depthOf,hg],rfl⟩
theorem jFU (p:Addr) (t:Int) (w:World) {L:Sp.Pool} {F:NP} (hP:zS w p L F) (hok:Sp.Ok L):Calls prog 61 #[.pointer (some p),.int .i64 t] w
  (fun e w'=>∃k:Int,∃f:Int,∃t':Int,∃u:Int,∃x:ByteArray,∃a:Int,∃b:Int,∃r:Bool,e=.returned (.tuple #[.agg #[.int .i64 k,.int .i64 f,.int .i64 t',.int .u64 u,.string x,.int .i64 a,.int .i64 b],.bool r])∧(((⟨k,f,t',u,x,a,b⟩:Sp.Node)=Sp.nodeOf L t∧r=Sp.inP L t)∧Pure w w')):=by
 refine w_A2 (some p) t w (fun k f t' u x a b r w'=>((⟨k,f,t',u,x,a,b⟩:Sp.Node)=Sp.nodeOf L t∧r=Sp.inP L t)∧Pure w w') ?_
 unfold m_A2
 intro p1 w1 h1
 have E1:Pure w w1:=Ext.new h1
 have b1:=Box.of_new h1
 have hp:=New.own (Ext.refl w) h1
 refine (c_in p t w1 (hP.pure E1)).mono ?_
 rintro _ _ ⟨_,rfl,rfl,rfl⟩
 obtain ⟨s,m,h,_⟩:=hP.pure E1
 refine ⟨_,rfl,fun h1=>bx 7 b1 rfl rfl (fun w' b E=>⟨_,_,_,_,_,_,_,b.row,⟨?_,?_⟩,E1.own hp E⟩),fun h1=>?_⟩
 ·simp [Sp.nodeOf,Sp.uQ (show Sp.inP L t=false by simpa using h1),Sp.jFL]
 ·symm;simpa using h1
 ·have ht:Sp.inP L t=true:=by simpa using h1
  obtain ⟨a,e,hat,hr,_,hg⟩:=h.at ht hok
  have hn:Row w1 a (xD e.node):=fun i hi=>by
   have:=hr i (by simp [jNJ];omega);rw [this];unfold jNJ;rw [List.getElem?_append_left hi]
  exact ⟨p,rfl,s,h.box.cell0,a,hat,_,_,_,_,_,_,_,hn,bx 7 b1 rfl rfl (fun w' b E=>⟨_,_,_,_,_,_,_,b.row,⟨by simp [Sp.nodeOf,hg],ht.symm⟩,E1.own hp E⟩)⟩
theorem jKY (p:Addr) (k:Int) (w:World) (hk:k=0∨k=1∨k=2):(Instr.sliceAt 137 (Sl.mk (some p) 2 2).v .none (some (.int .i64 k)) .none).run prog w=.ok (Sl.mk (some p) k.toNat 2).v w:=by
 rcases hk with rfl | rfl | rfl <;> kernel_rfl
theorem jUL (p:Addr) (k f t u:Int) (x:ByteArray) (a b:Int) (w:World) {L:Sp.Pool} {F:NP} (hP:zS w p L F) (hok:Sp.Ok L) :
  Calls prog 137 #[.pointer (some p),.agg #[.int .i64 k,.int .i64 f,.int .i64 t,.int .u64 u,.string x,.int .i64 a,.int .i64 b]] w
   (fun e w'=>∃r1:Int,∃r2:Int,∃r3:Int,e=.returned (.tuple #[.int .i64 r1,.int .i64 r2,.int .i64 r3])∧((r1,r2,r3)=Sp.check L ⟨k,f,t,u,x,a,b⟩∧Pure w w')):=by
 suffices key:∀K:Int→Int→Int→WP,(∀r1 r2 r3 w',(r1,r2,r3)=Sp.check L ⟨k,f,t,u,x,a,b⟩∧Pure w w'→K r1 r2 r3 w')→m_F (some p) k f t u x a b w K from
  w_F _ _ _ _ _ _ _ _ w _ (key _ (fun _ _ _ _ h=>h))
 intro K hK
 unfold m_F
 intro p2 w1 h1
 have b1:=Box.of_new h1
 have E1:Pure w w1:=Ext.new h1
 refine ⟨_,_,_,_,_,_,_,b1.row,?_⟩
 refine (jPR _ _ _ _ _ _ _ _).mono ?_
 rintro _ w2 ⟨s1,s2,s3,s4,s5,pe,rfl,⟨hs,hpe⟩,E2⟩
 refine ⟨_,_,_,_,_,_,rfl,?_⟩
 intro p3 w3 h3
 have b2:=(b1.pure E2).pure (Ext.new h3)
 have n23:p2.block≠p3.block:=New.ne h3 (b1.pure E2).blk
 have E3:Pure w w3:=(E1.trans E2).trans (Ext.new h3)
 have o3:=New.own (E1.trans E2) h3
 refine bx 5 (Box.of_new h3) rfl rfl (fun w4 b3 E=>?_)
 have b2:=b2.ext E n23
 have E4:Pure w w4:=E3.own o3 E
 clear E E3 E2 E1 b1 h1 h3
 have hsh:Sp.shapeOf k=⟨s1,s2,s3,s4,s5⟩:=hs.symm
 have hk5:s5=0∨s5=1∨s5=2:=by have:=Sp.qX k;rw [hsh] at this;exact this
 generalize hn:(⟨k,f,t,u,x,a,b⟩:Sp.Node)=n at *
 have hnk:n.kind=k:=by rw [← hn]
 have hna:n.a=a:=by rw [← hn]
 have hnb:n.b=b:=by rw [← hn]
 have J2:∀e2 w',Pure w4 w'→(e2≠0→Sp.check L n=(0,0,e2))→(e2=0→pe=0∧((decide (s5<1) && a != 0) || (decide (s5<2) && b != 0))=false∧Sp.zZ ⟨s1,s2,s3,s4,s5⟩ n=0)→m_F_j2 (some p) p2 p3 e2 w' K:=by
  intro e2 w' E' hne heq;have b2:=b2.pure E';have b3:=b3.pure E';have E5:=E4.trans E';have hP':=hP.pure E5;unfold m_F_j2;refine ⟨fun h=>hK _ _ _ _ ⟨(hne (by simpa using h)).symm,E5⟩,fun h=>⟨_,b2.cell rfl,_,b2.cell rfl,?_⟩⟩;intro p4 w5 h5;obtain ⟨hp0,hc0,hf0⟩:=heq (by simpa using h);have b4:=Box.of_new h5;have E6:=E5.trans (Ext.new h5);have hP6:=hP.pure E6;refine ⟨_,(b3.pure (Ext.new h5)).cell rfl,_,jKY p4 s5 w5 hk5,?_⟩;have hks:Sp.zM n=[a,b].take s5.toNat:=by simp [Sp.zM,hnk,hsh,hna,hnb]
  have hlen:(Sp.zM n).length=s5.toNat:=by rw [hks];rcases hk5 with rfl | rfl | rfl <;> rfl
  have hget:∀j (hj:j<(Sp.zM n).length),w5.cell? (p4.add (j*1))=some (.int .i64 (Sp.zM n)[j]):=by
   intro j hj;have hj2:j<s5.toNat:=by omega
   have:(Sp.zM n)[j]=[a,b][j]'(by simp;omega):=by simp only [hks,List.getElem_take]
   rw [this,Nat.mul_one];refine b4.cell ?_;have h2:j=0∨j=1:=by omega
   rcases h2 with rfl | rfl <;> rfl
  have hrest:Sp.check L n=if (Sp.zM n).any (fun t=>!Sp.inP L t) then (0,0,51) else if 1+((Sp.zM n).map (Sp.sizeOf L)).sum>4096∨(Sp.zM n).foldl (fun d t=>max d (Sp.depthOf L t)) 0+1>64 then (0,0,52) else (1+((Sp.zM n).map (Sp.sizeOf L)).sum,(Sp.zM n).foldl (fun d t=>max d (Sp.depthOf L t)) 0+1,0):=by
   unfold Sp.check;simp only [hnk,hsh,hna,hnb,← hpe,hp0,hc0,hf0];simp
  generalize hkk:Sp.zM n=ks at *;have hl2:ks.length≤2:=by omega
  have hsum:∀j,0≤((ks.take j).map (Sp.sizeOf L)).sum∧((ks.take j).map (Sp.sizeOf L)).sum≤4096*(ks.take j).length:=by
   intro j;generalize ks.take j=l;induction l with
   | nil=>simp
   | cons y l ih=>have:=hok.sizeOf y;simp only [List.map_cons,List.sum_cons,List.length_cons];omega
  have hdep:∀(l:List Int) (d:Int),0≤d→d≤64→0≤l.foldl (fun d t=>max d (Sp.depthOf L t)) d∧l.foldl (fun d t=>max d (Sp.depthOf L t)) d≤64:=by
   intro l;induction l with
   | nil=>intro d h1 h2;exact ⟨h1,h2⟩
   | cons y l ih=>intro d h1 h2;have:=hok.depthOf y;exact ih (max d (Sp.depthOf L y)) (by omega) (by omega)
  refine ⟨fun sz d x w'=>∃j:Nat,x=j∧j≤ks.length∧sz=1+((ks.take j).map (Sp.sizeOf L)).sum∧d=(ks.take j).foldl (fun d t=>max d (Sp.depthOf L t)) 0∧(ks.take j).any (fun t=>!Sp.inP L t)=false∧w5=w',fun _ _ x _=>(2 - x).toNat,⟨0,rfl,Nat.zero_le _,by simp,by simp,by simp,rfl⟩,?_⟩;rintro sz d _ _ ⟨j,rfl,hj,rfl,rfl,hin,rfl⟩;unfold m_F_l3;have hs1:=hsum j;have hd1:=hdep (ks.take j) 0 (by omega) (by omega);have htl:(ks.take j).length≤2:=by rw [List.length_take];omega
  refine ⟨fun h=>?_,fun h=>?_⟩
  ·have hlt:j<ks.length:=by have h:=of_decide_eq_true h;simp only at h;omega
   refine ⟨p4.add (j*1),⟨by omega,of_decide_eq_true h,p4,rfl,by simp⟩,ks[j],hget j hlt,?_⟩;have htk:ks.take (j+1)=ks.take j++[ks[j]]:=List.take_succ_eq_append_getElem hlt;refine (c_in p _ w5 hP6).mono ?_;rintro _ _ ⟨_,rfl,rfl,rfl⟩;refine ⟨_,rfl,fun h=>?_,fun h=>?_⟩
   ·refine hK _ _ _ _ ⟨?_,E6⟩;rw [hrest,if_pos];exact List.any_eq_true.2 ⟨ks[j],List.getElem_mem hlt,h⟩
   ·refine (jTA p _ w5 hP6 hok).mono ?_;rintro _ _ ⟨_,rfl,rfl,rfl⟩;refine ⟨_,rfl,?_⟩;refine (jUM p _ w5 hP6 hok).mono ?_;rintro _ _ ⟨_,rfl,rfl,rfl⟩;refine ⟨_,rfl,_,run_max_int2 _ _ _ _ _ _ _,⟨j+1,?_,hlt,?_,?_,?_,rfl⟩,?_⟩
    ·rw [i64 (by omega) (by omega)];omega
    ·have:=hok.sizeOf ks[j];rw [i64 (by omega) (by omega),htk,List.map_append,List.sum_append];simp only [List.map_cons,List.map_nil,List.sum_cons,List.sum_nil];omega
    ·rw [htk,List.foldl_append];simp only [List.foldl_cons,List.foldl_nil];split <;> omega
    ·rw [htk,List.any_append,hin];simpa using h
    ·show (2 - IntKind.i64.wrap ((j:Int)+1)).toNat<(2 - (j:Int)).toNat;rw [i64 (by omega) (by omega)];omega
  ·have hge:j=ks.length:=by have h:=of_decide_eq_false h;simp only at h;omega
   subst hge;rw [List.take_length] at hs1 hd1 hin ⊢;have hlt:(ks.length:Int)≤2:=by omega
   refine ⟨fun h=>hK _ _ _ _ ⟨?_,E6⟩,fun h=>?_⟩
   ·rw [hrest,hin,if_neg (by simp),if_pos (.inl (by simpa using h))]
   ·rw [i64 (by omega) (by omega)];refine ⟨fun h'=>hK _ _ _ _ ⟨?_,E6⟩,fun h'=>hK _ _ _ _ ⟨?_,E6⟩⟩
    ·rw [hrest,hin,if_neg (by simp),if_pos (.inr (by simpa using h'))]
    ·rw [hrest,hin,if_neg (by simp),if_neg (by simp at h h';omega)]
 have J1:∀e1,(e1≠0→Sp.check L n=(0,0,e1))→(e1=0→pe=0∧((decide (s5<1) && a != 0) || (decide (s5<2) && b != 0))=false)→m_F_j1 (some p) p2 p3 e1 w4 K:=by
  intro e1 hne heq;unfold m_F_j1;refine ⟨fun h=>⟨_,_,_,_,_,b3.row,_,_,_,_,_,_,_,b2.row,?_⟩,fun h=>J2 _ _ (Ext.refl _) hne (fun e=>by rw [e] at h;cases h)⟩;obtain ⟨hp0,hc0⟩:=heq (by simpa using h);refine (jLQ _ _ _ _ _ _ _ _ _ _ _ _ _).mono ?_;rintro _ w9 ⟨_,rfl,rfl,E9⟩;rw [hn];refine ⟨_,rfl,J2 _ _ E9 (fun hf=>?_) (fun hf=>⟨hp0,hc0,hf⟩)⟩;unfold Sp.check;simp only [hnk,hsh,hna,hnb,← hpe,hp0,hc0];simp [hf]
 have J53:pe=0→((decide (s5<1) && a != 0) || (decide (s5<2) && b != 0))=true→m_F_j1 (some p) p2 p3 53 w4 K:=fun hp0 hc=>J1 53 (fun _=>by
  unfold Sp.check;simp only [hnk,hsh,hna,hnb,← hpe,hp0,hc];simp) (fun e=>by cases e)
 have Jpe:pe≠0→m_F_j1 (some p) p2 p3 pe w4 K:=fun hp=>J1 pe (fun _=>by
  unfold Sp.check;simp only [← hpe];rw [if_pos hp]) (fun e=>absurd e hp)
 have J5:∀x2 x3,x2=(decide (s5<1) && a != 0)→x3=(decide (s5<2) && b != 0)→m_F_j5 (some p) p2 pe p3 x2 x3 w4 K:=by
  intro x2 x3 h2 h3;unfold m_F_j5;refine ⟨fun h=>⟨fun hx=>J53 (by simpa using h) (by rw [← h2,hx];rfl),fun hx=>⟨fun hy=>J53 (by simpa using h) (by rw [← h2,← h3,hy];simp),fun hy=>J1 pe (fun e=>absurd (by simpa using h) e) (fun e=>⟨e,by rw [← h2,← h3,hx,hy];rfl⟩)⟩⟩,fun h=>Jpe (by simpa using h)⟩
 have J4:∀x2,x2=(decide (s5<1) && a != 0)→m_F_j4 (some p) p2 pe p3 x2 w4 K:=by
  intro x2 h2;unfold m_F_j4;refine ⟨fun h=>⟨fun hx=>J53 (by simpa using h) (by rw [← h2,hx];rfl),fun hx=>⟨_,b3.cell rfl,fun h5=>⟨_,b2.cell rfl,J5 _ _ h2 (by rw [h5];rfl)⟩,fun h5=>J5 _ _ h2 (by rw [h5];rfl)⟩⟩,fun h=>Jpe (by simpa using h)⟩
 exact ⟨fun h=>⟨_,b3.cell rfl,fun h5=>⟨_,b2.cell rfl,J4 _ (by rw [h5];rfl)⟩,fun h5=>J4 _ (by rw [h5];rfl)⟩,fun h=>Jpe (by simpa using h)⟩
def jJI (v:Value):Prop:=∃n,v=jCZ n
theorem jGJ {n n':Sp.Node}:jCZ n=jCZ n'↔n=n':=by
 constructor
 ·intro h;cases n;cases n';simp [jCZ,xD] at h;simp [h]
 ·rintro rfl;rfl
theorem jGD (n:Sp.Node):Instr.sameBits 10000 (jCZ n) (jCZ n)=true:=by
 have h:∀d,Instr.sameBits (d+1) (jCZ n) (jCZ n)=true:=fun d=>by
  have e:(n.text == n.text)=true:=by rw [beq_toListBytes];simp
  cases d <;> simp [Instr.sameBits,jCZ,xD,e]
 exact h 9999
theorem jAB:KeyOK prog 103 jJI:=by
 refine KeyOK.of_struct underlying103 ?_ ?_ ?_
 ·rintro _ ⟨n,rfl⟩ em w;kernel_rfl
 ·rintro _ _ w ⟨n,rfl⟩ ⟨n',rfl⟩;refine ⟨decide (n=n'),?_,by simp only [jGJ,decide_eq_true_eq];exact eq_comm⟩;obtain ⟨k,f,t,u,x,a,b⟩:=n;obtain ⟨k',f',t',u',x',a',b'⟩:=n';simp [Op.equal,Op.maxDepth,go_sem,jNX,jCZ,xD]
  repeat' split
  all_goals simp_all
 ·rintro _ ⟨n,rfl⟩;exact jGD n
theorem jDT:SlType prog 94 177 9 (16*5):=by
 refine ⟨underlying94,⟨t177,_,by kernel_rfl,(by kernel_rfl:t177.zero=some (.agg #[.int .i64 0,.int .i64 0,.int .i64 0,.int .u64 0,.string ⟨#[]⟩,.int .i64 0,.int .i64 0,.int .i64 0,.int .i64 0])),by kernel_rfl,by kernel_rfl,rfl⟩,by omega⟩
theorem jLE {L:Sp.Pool} {i:Nat} {n:Sp.Node} {v:Value} (h:(tK L)[i]?=some (jCZ n,v)):∃e,L[i]?=some e∧e.node=n∧v=.int .i64 (i+1:Nat):=by
 simp only [tK,List.getElem?_map,List.getElem?_zipIdx,Option.map_map,Option.map_eq_some_iff] at h;obtain ⟨e,he,h⟩:=h;simp only [Function.comp,Prod.mk.injEq] at h;exact ⟨e,he,jGJ.1 h.1,by rw [← h.2];simp⟩
theorem jLD {L:Sp.Pool} {n:Sp.Node} (h:∀q∈tK L,q.1≠jCZ n):∀e∈L,e.node≠n:=by
 intro e he hn;obtain ⟨i,hi,rfl⟩:=List.mem_iff_getElem.1 he;refine h (jCZ L[i].node,.int .i64 (i+1:Nat)) ?_ (by rw [hn]);exact List.mem_map.2 ⟨(L[i],i),by rw [List.mem_zipIdx_iff_getElem?];simp [hi],rfl⟩
theorem jBL {L:Sp.Pool}:∀q∈tK L,jJI q.1:=by
 intro q hq;obtain ⟨x,_,rfl⟩:=List.mem_map.1 hq;exact ⟨_,rfl⟩
theorem jON (L:Sp.Pool) (e:Sp.Ent):tK (L++[e])=tK L++[(jCZ e.node,.int .i64 (L.length+1:Nat))]:=by
 simp [tK,List.zipIdx_append]
theorem jPE {L:Sp.Pool} (hok:Sp.Ok L) {i:Nat} {e:Sp.Ent} (h:L[i]?=some e):Sp.find L e.node=some i:=by
 obtain ⟨hi,rfl⟩:=List.getElem?_eq_some_iff.1 h;unfold Sp.find;rw [List.findIdx?_eq_some_iff_getElem];refine ⟨hi,by simp,fun j hj=>?_⟩;have hnd:=hok.nodup;simp only [decide_eq_true_eq];intro e;exact List.pairwise_iff_getElem.1 hnd j i (by simp;omega) (by simpa using hi) hj (by simpa using e)
theorem find_none {L:Sp.Pool} {n:Sp.Node} (h:∀e∈L,e.node≠n):Sp.find L n=none:=by
 unfold Sp.find;rw [List.findIdx?_eq_none_iff];intro e he;simpa using h e he
theorem jPX (p:Addr) (k f t u:Int) (x:ByteArray) (a b:Int) (w:World) {L:Sp.Pool} {F:NP} (hP:zS w p L F) (hok:Sp.Ok L) :
  Calls prog 97 #[.pointer (some p),.agg #[.int .i64 k,.int .i64 f,.int .i64 t,.int .u64 u,.string x,.int .i64 a,.int .i64 b]] w
   (fun e w'=>∃r1:Int,∃r2:Int,e=.returned (.tuple #[.int .i64 r1,.int .i64 r2])∧((r1,r2)=((Sp.make L ⟨k,f,t,u,x,a,b⟩).1,(Sp.make L ⟨k,f,t,u,x,a,b⟩).2.1)∧∃F',zS w' p (Sp.make L ⟨k,f,t,u,x,a,b⟩).2.2 F'∧Ext F w w'∧∀b,F' b→F b∨w.heap.size≤b)):=by
 suffices key:∀K:Int→Int→WP,(∀r1 r2 w',((r1,r2)=((Sp.make L ⟨k,f,t,u,x,a,b⟩).1,(Sp.make L ⟨k,f,t,u,x,a,b⟩).2.1)∧∃F',zS w' p (Sp.make L ⟨k,f,t,u,x,a,b⟩).2.2 F'∧Ext F w w'∧∀b,F' b→F b∨w.heap.size≤b)→K r1 r2 w')→m_F2 (some p) k f t u x a b w K from
  w_F2 _ _ _ _ _ _ _ _ w _ (key _ (fun _ _ _ h=>h))
 intro K hK
 unfold m_F2
 intro p2 w1 h1
 have b1:=Box.of_new h1
 have E1:Pure w w1:=Ext.new h1
 have o2:¬ F p2.block:=fun h=>by have:=hP.lt h;have:=h1.at_size;omega
 refine Br.f rfl ⟨_,_,_,_,_,_,_,b1.row,?_⟩
 refine (jUL p k f t u x a b w1 (hP.pure E1) hok).mono ?_
 rintro _ w2 ⟨sz,dp,er,rfl,hck,E2⟩
 refine ⟨_,_,_,rfl,?_⟩
 generalize hn:(⟨k,f,t,u,x,a,b⟩:Sp.Node)=n at *
 have E3:Pure w w2:=E1.trans E2
 have same:∀w',Pure w w'→∃F',zS w' p L F'∧Ext F w w'∧∀b,F' b→F b∨w.heap.size≤b:=fun w' E=>⟨F,hP.pure E,E.pure,fun _ h=>.inl h⟩
 refine ⟨fun h=>hK _ _ _ ?_,fun h=>?_⟩
 ·have he:er≠0:=by simpa using h
  have:Sp.make L n=(0,er,L):=by unfold Sp.make;simp [← hck,he]
  rw [this];exact ⟨rfl,same _ E3⟩
 ·have he:er=0:=by simpa using h
  subst he
  intro w3 hw3
  have E4:Pure w w3:=by rw [hw3];exact E3.trans (Ext.drew w2)
  have b3:=(b1.pure E2).pure (show Pure w2 w3 by rw [hw3];exact Ext.drew w2)
  clear hw3
  obtain ⟨s,m,hS,hF⟩:=hP.pure E4
  refine ⟨p,rfl,_,hS.box.cell (i:=1) rfl,_,_,_,_,_,_,_,b3.row,?_⟩
  have hkey:(Value.agg #[.int .i64 k,.int .i64 f,.int .i64 t,.int .u64 u,.string x,.int .i64 a,.int .i64 b])=jCZ n:=by rw [← hn];rfl
  rw [hkey]
  rcases hS.map.lookup (P:=prog) (T:=93) (E:=23) underlying93 jAB jBL ⟨n,rfl⟩ (zeroValue23 _) true with ⟨hnot,hrun⟩ | ⟨i,v,hi,hrun⟩
  ·refine ⟨_,_,hrun,Br.f rfl ⟨p,rfl,s,hS.box.cell0,?_⟩⟩
   have hno:=jLD hnot
   have hfn:=find_none hno
   have hlen:(s.len:Int)=L.length:=by rw [hS.rows.len];simp
   refine ⟨fun h=>hK _ _ _ ?_,fun h=>?_⟩
   ·have h2:65536≤L.length:=by have h:=of_decide_eq_true h;omega
    have:Sp.make L n=(0,6,L):=by unfold Sp.make;simp [← hck,hfn,h2]
    rw [this];exact ⟨rfl,same _ E4⟩
   ·have h2:¬ 65536≤L.length:=by have h:=of_decide_eq_false h;omega
    have hmk:Sp.make L n=((L.length:Int)+1,0,L++[⟨n,sz,dp⟩]):=by unfold Sp.make;simp [← hck,hfn,h2]
    refine ⟨fun w'=>w'.cell? p=some s.v∧Row w' p2 (xD n),⟨?_,?_⟩,?_⟩
    ·exact Ext.cell (F:=None) (Ext.drew w3) hS.box.cell0 id
    ·rw [← hn];exact Ext.row (F:=None) (Ext.drew w3) b3.row id
    intro w4 hw4
    have E5:Pure w3 w4:=by rw [hw4];exact Ext.drew w3
    clear hw4
    have hS4:PoolS w4 p L s m:=by
     exact ⟨hS.box.pure E5,hS.rows.pure E5,hS.map.ext E5 id,hS.n1,hS.n2,hS.n3⟩
    have b4:=b3.pure E5
    refine ⟨p,rfl,s,fun w' h=>h.1,k,f,t,u,x,a,b,fun w' h=>by have:=h.2;rw [← hn] at this;exact this,?_⟩
    intro p3 w5 h5
    have E6:Pure w4 w5:=Ext.new h5
    have o3:w.heap.size≤p3.block:=New.own (E4.trans E5) h5
    have b5:=Box.of_new h5
    have hrows5:=hS4.rows.pure E6
    have hbox5:=hS4.box.pure E6
    have hmap5:CMap w5 m (tK L):=hS4.map.ext E6 id
    have b45:=b4.pure E6
    have hrow:Row w5 p3 (jNJ ⟨n,sz,dp⟩):=by rw [← hn];exact b5.row
    refine ⟨⟨hbox5.cell0,by rw [← hn];exact b45.row⟩,?_⟩
    obtain ⟨s1,w6,hr6,hrows6,E7,hb6⟩:=hrows5.append (P:=prog) (ty:=94) jDT (c:=1) hrow (by simp [jNJ,xD]) (by simp [jNJ,xD,vY]) (by simp;omega) (by simp [maxLen];omega)
    have nb:∀b,s.blk b→b≠p2.block:=fun b hb e=>o2 (by rw [← e];exact (hF b).2 (.inr (.inl hb)))
    have hbox6:=hbox5.ext E7 hS.n2
    have hmap6:=hmap5.ext E7 hS.n3
    have b6:=b45.ext E7 (fun h=>nb _ h rfl)
    refine ⟨s1,w6,hr6,⟨hbox6.cell0,by rw [← hn];exact b6.row⟩,p,rfl,hbox6.canW0 (by simp),?_⟩
    intro w7 hw7
    have hbox7:Box w7 p [s1.v,.map (some m)] 96:=by rw [hw7];exact hbox6.set0
    have E8:Ext (·=p.block) w6 w7:=by rw [hw7];exact Ext.setCell p _
    clear hw7
    have hs1p:¬ s1.blk p.block:=fun h=>(hb6 _ h).elim hS.n2 (fun h=>by have:=hbox5.lt;omega)
    have hs1m:¬ s1.blk m:=fun h=>(hb6 _ h).elim hS.n3 (fun h=>by have:=hmap5.lt;omega)
    have hrows7:=hrows6.ext E8 (fun b hb e=>hs1p (by rw [← e];exact hb))
    have hmap7:=hmap6.ext E8 hS.n1
    have b7:=b6.ext E8 (fun e=>o2 (by rw [e];exact (hF _).2 (.inl rfl)))
    have hl1:(s1.len:Int)=L.length+1:=by rw [hrows6.len];simp
    refine ⟨p,rfl,s1,hbox7.cell0,?_⟩
    refine ⟨fun w'=>w'.cell? (p.add 1)=some (.map (some m))∧Row w' p2 (xD n),⟨?_,?_⟩,?_⟩
    ·exact Ext.cell (F:=None) (Ext.drew w7) (hbox7.cell (i:=1) rfl) id
    ·rw [← hn];exact Ext.row (F:=None) (Ext.drew w7) b7.row id
    intro w8 hw8
    have E9:Pure w7 w8:=by rw [hw8];exact Ext.drew w7
    clear hw8
    refine ⟨p,rfl,some m,fun w' h=>h.1,k,f,t,u,x,a,b,fun w' h=>by have:=h.2;rw [← hn] at this;exact this,?_⟩
    rw [hkey,hl1]
    have hmap8:CMap w8 m (tK L):=hmap7.ext E9 id
    obtain ⟨w9,hr9,hmap9,E10⟩:=hmap8.insert (P:=prog) (v:=.int .i64 ((L.length:Int)+1)) underlying93 jAB jBL ⟨n,rfl⟩ hnot
    refine ⟨w9,hr9,hK _ _ _ ?_⟩
    rw [hmk]
    have hbox9:=(hbox7.pure E9).ext E10 (fun e=>hS.n1 e.symm)
    have hrows9:=(hrows7.pure E9).ext E10 (fun b hb e=>hs1m (by rw [← e];exact hb))
    refine ⟨rfl,fun b=>b=p.block∨s1.blk b∨b=m,⟨s1,m,⟨hbox9,?_,?_,hS.n1,hs1p,hs1m⟩,fun _=>Iff.rfl⟩,?_,?_⟩
    ·simpa using hrows9
    ·rw [jON];simpa using hmap9
    ·have hF':∀b,F b↔(b=p.block∨s.blk b∨b=m):=hF
     have Ea:Ext F w w5:=((E4.trans E5).trans E6).pure
     have Eb:Ext F w w6:=Ea.trans' E7 (fun i _ h=>(hF' i).2 (.inr (.inl h)))
     have Ec:Ext F w w7:=Eb.trans' E8 (fun i _ h=>(hF' i).2 (.inl h))
     have Ed:Ext F w w8:=Ec.thenPure E9
     exact Ed.trans' E10 (fun i _ h=>(hF' i).2 (.inr (.inr h)))
    ·intro b hb
     rcases hb with rfl | hb | rfl
     ·exact .inl ((hF _).2 (.inl rfl))
     ·rcases hb6 b hb with h | h
      ·exact .inl ((hF _).2 (.inr (.inl h)))
      ·right;have:=((E4.trans E5).trans E6).size;omega
     ·exact .inl ((hF _).2 (.inr (.inr rfl)))
  ·obtain ⟨e,he,hen,rfl⟩:=jLE hi
   refine ⟨_,_,hrun,Br.t rfl (hK _ _ _ ?_)⟩
   have hfd:=jPE hok he
   rw [hen] at hfd
   have:Sp.make L n=((i:Int)+1,0,L):=by unfold Sp.make;simp [← hck,hfd]
   rw [this];exact ⟨by simp,same _ E4⟩
end Go.Proofs
end
section
namespace Go.Sp
inductive Tree where
 | mk (k f t u:Int) (x:ByteArray) (kids:List Tree)
def Tree.kids:Tree→List Tree | .mk _ _ _ _ _ ks=>ks
def Tree.node:Tree→Node | .mk k f t u x _=>⟨k,f,t,u,x,0,0⟩
theorem Tree.ind {P:Tree→Prop} (h:∀k f t u x (ks:List Tree),(∀i (hi:i<ks.length),P ks[i])→P (.mk k f t u x ks)) (t:Tree):P t:=by
 refine Tree.rec (motive_1:=P) (motive_2:=fun ks=>∀i (hi:i<ks.length),P ks[i]) ?_ ?_ ?_ t
 ·intro k f t u x ks ih;exact h _ _ _ _ _ _ ih
 ·intro i hi;simp at hi
 ·intro t ks ht hks i hi;cases i with
  | zero=>exact ht
  | succ i=>exact hks i (by simpa using hi)
def xY (n:Node) (len:Nat):Int :=
 let e:=if vG n=0 then if (len:Int)≠(shapeOf n.kind).kids then 53 else 0 else vG n
 if e=0 then zZ (shapeOf n.kind) n else e
mutual
def qT (inside seen:Int):Tree→Int×Int
 | .mk k f t u x ks=>if 4096≤seen then (52,seen) else if 64≤inside then (52,seen) else vV (inside+1) (xY ⟨k,f,t,u,x,0,0⟩ ks.length) (seen+1) ks
def vV (inside e seen:Int):List Tree→Int×Int
 | []=>(e,seen)
 | t :: ts=>if e=0 then vV inside (qT inside seen t).1 (qT inside seen t).2 ts else (e,seen)
end
mutual
def grow (L:Pool):Tree→Int×Int×Pool
 | .mk k f t u x ks=>vP ⟨k,f,t,u,x,0,0⟩ 0 L ks
def vP (n:Node) (i:Nat) (L:Pool):List Tree→Int×Int×Pool
 | []=>make L n
 | t :: ts=>if (grow L t).2.1≠0 then (0,(grow L t).2.1,(grow L t).2.2) else vP (if i=0 then { n with a:=(grow L t).1 } else { n with b:=(grow L t).1 }) (i+1) (grow L t).2.2 ts
end
def of (L:Pool) (t:Tree):Int×Int×Pool :=
 if (qT 0 0 t).1≠0 then (0,(qT 0 0 t).1,L)
 else if (grow L t).2.1≠0 then (0,(grow L t).2.1,L) else ((grow L t).1,0,(grow L t).2.2)
theorem jFN (L:Pool) (n:Node):∃M,(make L n).2.2=L++M:=by
 unfold make;simp only;by_cases hc:(check L n).2.2=0
 ·simp only [hc];rw [if_neg (by simp)];split
  ·exact ⟨[],by simp⟩
  ·split
   ·exact ⟨[],by simp⟩
   ·exact ⟨_,rfl⟩
 ·rw [if_pos hc];exact ⟨[],by simp⟩
theorem jRV {L:Pool} {n:Node} (hok:Ok L) (h:(check L n).2.2=0):1≤(check L n).1∧(check L n).1≤4096∧1≤(check L n).2.1∧(check L n).2.1≤64:=by
 unfold check at h ⊢;simp only at h ⊢;by_cases h1:vG n≠0
 ·rw [if_pos h1] at h;exact absurd h h1
 rw [if_neg h1] at h ⊢;split at h
 ·simp at h
 rename_i h2;rw [if_neg h2];by_cases h3:zZ (shapeOf n.kind) n≠0
 ·rw [if_pos h3] at h;exact absurd h h3
 rw [if_neg h3] at h ⊢;split at h
 ·simp at h
 rename_i h4;rw [if_neg h4];split at h
 ·simp at h
 rename_i h5;rw [if_neg h5];have hs:∀l:List Int,0≤(l.map (sizeOf L)).sum:=by
  intro l;induction l with
  | nil=>simp
  | cons y l ih=>have:=hok.sizeOf y;simp only [List.map_cons,List.sum_cons];omega
 have hd:∀(l:List Int) (d:Int),0≤d→0≤l.foldl (fun d t=>max d (depthOf L t)) d:=by
  intro l;induction l with
  | nil=>intro d h;exact h
  | cons y l ih=>intro d h;exact ih (max d (depthOf L y)) (by omega)
 have:=hs (zM n);have:=hd (zM n) 0 (by omega);simp only;omega
theorem jKB {L:Pool} (hok:Ok L) (n:Node):Ok (make L n).2.2:=by
 by_cases hc:(check L n).2.2=0
 ·have:=jRV hok hc;unfold make;simp only [hc];rw [if_neg (by simp)];split
  ·exact hok
  ·rename_i hf;split
   ·exact hok
   ·rename_i hl;refine ⟨by simp;omega,?_,?_,?_⟩
    ·rw [List.map_append,List.nodup_append];refine ⟨hok.nodup,by simp,?_⟩;intro a ha b hb;simp only [List.map_cons,List.map_nil,List.mem_singleton] at hb;subst hb;obtain ⟨e,he,rfl⟩:=List.mem_map.1 ha;unfold find at hf;rw [List.findIdx?_eq_none_iff] at hf;simpa using hf e he
    ·intro e he;rcases List.mem_append.1 he with h | h
     ·exact hok.size e h
     ·simp only [List.mem_singleton] at h;subst h;simp;omega
    ·intro e he;rcases List.mem_append.1 he with h | h
     ·exact hok.depth e h
     ·simp only [List.mem_singleton] at h;subst h;simp;omega
 ·unfold make;simp only;rw [if_pos hc];exact hok
theorem jAC (t:Tree):∀L,Ok L→Ok (grow L t).2.2∧∃M,(grow L t).2.2=L++M:=by
 induction t using Tree.ind with
 | h k f t u x ks ih =>
  have:∀(ks:List Tree),(∀i (hi:i<ks.length),∀L,Ok L→Ok (grow L ks[i]).2.2∧∃M,(grow L ks[i]).2.2=L++M)→∀n i L,Ok L→Ok (vP n i L ks).2.2∧∃M,(vP n i L ks).2.2=L++M:=by
   intro ks;induction ks with
   | nil=>intro _ n i L h;unfold vP;exact ⟨jKB h n,jFN L n⟩
   | cons t ts iht =>
    intro hh n i L h
    have h0:=hh 0 (by simp) L h
    simp only [List.getElem_cons_zero] at h0
    unfold vP
    split
    ·exact h0
    ·obtain ⟨ho,M,hM⟩:=h0
     have:=iht (fun i hi=>hh (i+1) (by simpa using hi)) (if i=0 then { n with a:=(grow L t).1 } else { n with b:=(grow L t).1 }) (i+1) (grow L t).2.2 ho
     refine ⟨this.1,?_⟩
     obtain ⟨M2,hM2⟩:=this.2
     exact ⟨M++M2,by rw [hM2,hM,List.append_assoc]⟩
  intro L h
  unfold grow
  exact this ks ih _ _ L h
def uJ (n:Int):Prop:=0≤n∧n<18446744073709551616
inductive NumT:Tree→Prop
 | mk (k f t u:Int) (x:ByteArray) (ks:List Tree) (own:uJ u) (kids:∀i (hi:i<ks.length),NumT ks[i]):NumT (.mk k f t u x ks)
end Go.Sp
end
section
open Go Go.SE
namespace Go.Proofs
open Tryz
attribute [local irreducible] Calls
def yV (t:Sp.Tree) (s:Sl):List Value:=[.int .i64 t.node.kind,.int .i64 t.node.frm,.int .i64 t.node.to,.int .u64 t.node.num,.string t.node.text,s.v]
inductive TreeAt (S:NP) (w:World):Sl→Sp.Tree→Prop
 | mk (k f t u : Int) (x : ByteArray) (ks : List Sp.Tree) (s : Sl) (rs : Nat → Sl) (len : s.len = ks.length) (fit : ks.length ≤ 9223372036854775807)
   (row:∀i (h:i<ks.length),∃a,At s i 6 a∧S a.block∧Row w a (yV ks[i] (rs i))) (kid:∀i (h:i<ks.length),TreeAt S w (rs i) ks[i]):TreeAt S w s (.mk k f t u x ks)
theorem TreeAt.ext {S F:NP} {w w':World} {s:Sl} {t:Sp.Tree} (h:TreeAt S w s t) (hE:Ext F w w') (hd:∀b,S b→¬ F b):TreeAt S w' s t:=by
 induction h with
 | mk k f t u x ks s rs len fit row kid ih =>
  exact .mk k f t u x ks s rs len fit (fun i h=>let ⟨a,h1,h2,h3⟩:=row i h;⟨a,h1,h2,hE.row h3 (hd _ h2)⟩) ih
theorem TreeAt.pure {S:NP} {w w':World} {s:Sl} {t:Sp.Tree} (h:TreeAt S w s t) (hE:Pure w w'):TreeAt S w' s t:=h.ext hE (fun _ _ h=>h)
theorem TreeAt.mono {S S':NP} {w:World} {s:Sl} {t:Sp.Tree} (h:TreeAt S w s t) (hd:∀b,S b→S' b):TreeAt S' w s t:=by
 induction h with
 | mk k f t u x ks s rs len fit row kid ih =>
  exact .mk k f t u x ks s rs len fit (fun i h=>let ⟨a,h1,h2,h3⟩:=row i h;⟨a,h1,hd _ h2,h3⟩) ih
theorem TreeAt.lt {S:NP} {w:World} {s:Sl} {t:Sp.Tree} (h:TreeAt S w s t):TreeAt (fun b=>S b∧b<w.heap.size) w s t:=by
 induction h with
 | mk k f t u x ks s rs len fit row kid ih =>
  refine .mk k f t u x ks s rs len fit (fun i h=>let ⟨a,h1,h2,h3⟩:=row i h;⟨a,h1,⟨h2,?_⟩,h3⟩) ih
  have:=h3 0 (by simp [yV])
  unfold World.cell? at this
  refine Classical.byContradiction fun hge=>?_
  have:w.heap[(a.add 0).block]?=none:=by rw [zR];exact Array.getElem?_eq_none (by omega)
  simp_all [yV]
theorem jLN (k f t u:Int) (x:ByteArray) (s:Sl) (w:World) :
  Calls prog 107 #[.agg #[.int .i64 k,.int .i64 f,.int .i64 t,.int .u64 u,.string x,s.v]] w
   (fun e w'=>∃k':Int,∃f':Int,∃t':Int,∃u':Int,∃x':ByteArray,∃a:Int,∃b:Int,e=.returned (.agg #[.int .i64 k',.int .i64 f',.int .i64 t',.int .u64 u',.string x',.int .i64 a,.int .i64 b])∧((⟨k',f',t',u',x',a,b⟩:Sp.Node)=⟨k,f,t,u,x,0,0⟩∧Pure w w')):=by
 refine w_V2 _ _ _ _ _ _ w (fun k' f' t' u' x' a b w'=>(⟨k',f',t',u',x',a,b⟩:Sp.Node)=⟨k,f,t,u,x,0,0⟩∧Pure w w') ?_
 unfold m_V2
 intro p1 w1 h1 p2 w2 h2
 have E1:Pure w w1:=Ext.new h1
 have b1:=(Box.of_new h1).pure (Ext.new h2)
 refine ⟨_,b1.cell0,_,b1.cell rfl,_,b1.cell rfl,_,b1.cell rfl,_,b1.cell rfl,?_⟩
 exact bx 7 (Box.of_new h2) rfl rfl (fun w' b E=>⟨_,_,_,_,_,_,_,b.row,rfl,(E1.trans (Ext.new h2)).own (New.own E1 h2) E⟩)
theorem jFO (t:Sp.Tree):∀i n:Int,0≤n→0≤(Sp.qT i n t).2:=by
 induction t using Sp.Tree.ind with
 | h k f t u x ks ih =>
  have:∀(ks:List Sp.Tree),(∀i (hi:i<ks.length),∀j n:Int,0≤n→0≤(Sp.qT j n ks[i]).2)→∀i e n:Int,0≤n→0≤(Sp.vV i e n ks).2:=by
   intro ks;induction ks with
   | nil=>intro _ i e n h;simpa [Sp.vV] using h
   | cons t ts iht =>
    intro hh i e n h
    unfold Sp.vV
    split
    ·exact iht (fun i hi=>hh (i+1) (by simpa using hi)) _ _ _ (hh 0 (by simp) i n h)
    ·exact h
  intro i n h
  unfold Sp.qT
  split
  ·exact h
  ·split
   ·exact h
   ·exact this ks ih _ _ _ (by omega)
theorem jBO {ks:List Sp.Tree} {j:Nat} (hj:j<ks.length) (i n:Int):Sp.vV i 0 n (ks.drop j)=Sp.vV i (Sp.qT i n ks[j]).1 (Sp.qT i n ks[j]).2 (ks.drop (j+1)):=by
 rw [List.drop_eq_getElem_cons hj,Sp.vV,if_pos rfl]
theorem jCR {ks:List Sp.Tree} {e:Int} (h:e≠0) (i n:Int):Sp.vV i e n ks=(e,n):=by
 cases ks <;> simp [Sp.vV,h]
theorem jUJ {S:NP} (q:Addr) (hq:¬ S q.block) (T:TypeId) (t:Sp.Tree):∀(s:Sl) (inside seen:Int) (w:World),0≤inside→0≤seen→TreeAt S w s t→Box w q [.int .i64 seen] T →
  Calls prog 54 #[.agg (yV t s).toArray,.int .i64 inside,.pointer (some q)] w
   (fun e w'=>∃r:Int,e=.returned (.int .i64 r)∧(r=(Sp.qT inside seen t).1∧Box w' q [.int .i64 (Sp.qT inside seen t).2] T∧Ext (·=q.block) w w')):=by
 induction t using Sp.Tree.ind with
 | h k f t u x ks ih =>
 intro s inside seen w hi0 hn0 hT hB
 suffices key:∀K:Int→WP,(∀r w',(r=(Sp.qT inside seen (.mk k f t u x ks)).1∧Box w' q [.int .i64 (Sp.qT inside seen (.mk k f t u x ks)).2] T∧Ext (·=q.block) w w')→K r w')→m_L k f t u x s inside (some q) w K from
  w_L _ _ _ _ _ _ _ _ w _ (key _ (fun _ _ h=>h))
 intro K hK
 unfold m_L
 intro p1 w1 h1
 have b1:=Box.of_new h1
 have E1:Pure w w1:=Ext.new h1
 have n1:q.block≠p1.block:=New.ne h1 hB.blk
 have hB1:=hB.pure E1
 have hT1:=hT.pure E1
 refine ⟨q,rfl,seen,hB1.cell0,fun h=>?_,fun h=>⟨fun h'=>?_,fun h'=>?_⟩⟩
 ·have h:=of_decide_eq_true h
  have:Sp.qT inside seen (.mk k f t u x ks)=(52,seen):=by rw [Sp.qT,if_pos (by omega)]
  rw [this] at hK;exact hK _ _ ⟨rfl,hB1,E1.pure⟩
 ·have h:=of_decide_eq_false h;have h':=of_decide_eq_true h'
  have:Sp.qT inside seen (.mk k f t u x ks)=(52,seen):=by rw [Sp.qT,if_neg (by omega),if_pos (by omega)]
  rw [this] at hK;exact hK _ _ ⟨rfl,hB1,E1.pure⟩
 have h:=of_decide_eq_false h;have h':=of_decide_eq_false h'
 have hsp:Sp.qT inside seen (.mk k f t u x ks)=Sp.vV (inside+1) (Sp.xY ⟨k,f,t,u,x,0,0⟩ ks.length) (seen+1) ks:=by rw [Sp.qT,if_neg (by omega),if_neg (by omega)]
 rw [hsp] at hK
 unfold m_L_j1
 refine ⟨q,rfl,seen,hB1.cell0,q,rfl,hB1.canW0 (by simp),?_⟩
 rw [i64 (n:=seen+1) (by omega) (by omega)]
 intro w2 hw2
 have hB2:Box w2 q [.int .i64 (seen+1)] T:=by rw [hw2];exact hB1.set0
 have E12:Ext (·=q.block) w1 w2:=by rw [hw2];exact Ext.setCell q _
 clear hw2
 have b2:=b1.ext E12 (fun e=>n1 e.symm)
 have hT2:=hT1.ext E12 (fun b hb e=>hq (e▸hb))
 have E2:Ext (·=q.block) w w2:=E1.pure.trans E12
 refine ⟨_,_,_,_,_,_,b2.row,?_⟩
 refine (jLN _ _ _ _ _ _ w2).mono ?_
 rintro _ w3 ⟨k',f',t',u',x',a',b',rfl,hn,E23⟩
 cases hn
 refine ⟨_,_,_,_,_,_,_,rfl,?_⟩
 intro p2 w4 h4
 have n2:p1.block≠p2.block:=New.ne h4 (b2.pure E23).blk
 have E24:Pure w2 w4:=E23.trans (Ext.new h4)
 have o2:=New.own E23 h4
 refine bx 7 (Box.of_new h4) rfl rfl (fun w5 c2 E45=>?_)
 have E25:Pure w2 w5:=E24.own o2 E45
 refine ⟨_,_,_,_,_,_,_,c2.row,?_⟩
 refine (jPR _ _ _ _ _ _ _ w5).mono ?_
 rintro _ w6 ⟨s1,s2,s3,s4,s5,pe,rfl,⟨hs,hpe⟩,E56⟩
 refine ⟨_,_,_,_,_,_,rfl,?_⟩
 intro p3 w7 h7
 have n3:p2.block≠p3.block:=New.ne h7 (c2.pure E56).blk
 have E27:Pure w2 w7:=(E25.trans E56).trans (Ext.new h7)
 have o3:=New.own (E25.trans E56) h7
 refine bx 5 (Box.of_new h7) rfl rfl (fun w8 c3 E78=>?_)
 have E28:Pure w2 w8:=E27.own o3 E78
 have d2:=((c2.pure E56).pure (Ext.new h7)).ext E78 n3
 have d1:=b2.pure E28
 have hB8:=hB2.pure E28
 have hT8:=hT2.pure E28
 have E8:Ext (·=q.block) w w8:=E2.thenPure E28
 clear E78 E27 E56 E25 E45 E24 E23 E12 c2 b2 b1 hT2 hT1 hB1 h1 h4 h7
 have hlen:s.len=ks.length:=by cases hT;assumption
 have hfit:ks.length≤9223372036854775807:=by cases hT;assumption
 have hsh:Sp.shapeOf k=⟨s1,s2,s3,s4,s5⟩:=hs.symm
 have J3:∀e w',Pure w8 w'→e=Sp.xY ⟨k,f,t,u,x,0,0⟩ ks.length→m_L_j3 inside (some q) p1 e w' K:=by
  intro e w' E hown;rw [← hown] at hK;unfold m_L_j3;refine ⟨fun e i w'=>∃j:Nat,i=j∧j≤ks.length∧∃n:Int,0≤n∧Ext (·=q.block) w8 w'∧Box w' q [.int .i64 n] T∧Sp.vV (inside+1) e n (ks.drop j)=Sp.vV (inside+1) (Sp.xY ⟨k,f,t,u,x,0,0⟩ ks.length) (seen+1) ks,fun _ i _=>((ks.length:Int) - i).toNat,⟨0,rfl,Nat.zero_le _,seen+1,by omega,E.pure,hB8.pure E,by rw [hown];rfl⟩,?_⟩;rintro e1 _ wl ⟨j,rfl,hj,n,hn,El,hBl,heq⟩;unfold m_L_l4;have dl:=d1.ext El (fun e=>n1 e.symm);have hTl:=hT8.ext El (fun b hb e=>hq (e▸hb));rw [← hown] at heq;have fin:∀n',Sp.vV (inside+1) e ((seen:Int)+1) ks=(e1,n')→n'=n→K e1 wl:=by
   rintro n' h rfl;refine hK _ _ ⟨by rw [h],by rw [h];exact hBl,E8.trans El⟩
  refine ⟨s,dl.cell rfl,fun hlt=>⟨fun he=>?_,fun he=>?_⟩,fun hlt=>?_⟩
  ·have hlt:j<ks.length:=by have h:=of_decide_eq_true hlt;omega
   have he:e1=0:=by simpa using he
   subst he;cases hTl with
   | mk _ _ _ _ _ _ _ rs len fit row kid =>
   obtain ⟨a,hat,ha,hr⟩:=row j hlt;refine ⟨s,dl.cell rfl,a,hat,_,_,_,_,_,rs j,hr,?_⟩;rw [i64 (n:=inside+1) (by omega) (by omega)];refine (ih j hlt (rs j) (inside+1) n wl (by omega) hn (kid j hlt) hBl).mono ?_;rintro _ w9 ⟨r,rfl,rfl,hB9,E9⟩;rw [jBO hlt] at heq;refine ⟨_,rfl,⟨j+1,?_,hlt,_,jFO _ _ _ hn,El.trans E9,hB9,by rw [← hown];exact heq⟩,?_⟩
   ·rw [i64 (by omega) (by omega)];omega
   ·show ((ks.length:Int) - IntKind.i64.wrap ((j:Int)+1)).toNat<((ks.length:Int) - (j:Int)).toNat;rw [i64 (by omega) (by omega)];omega
  ·have he:e1≠0:=by simpa using he
   rw [jCR he] at heq;exact fin _ heq.symm rfl
  ·have hge:j=ks.length:=by have h:=of_decide_eq_false hlt;omega
   rw [hge,List.drop_length,Sp.vV] at heq;exact fin _ heq.symm rfl
 have J2:∀e1,e1=(if pe=0 then if (ks.length:Int)≠s5 then 53 else 0 else pe)→m_L_j2 inside (some q) p1 p2 p3 e1 w8 K:=by
  intro e1 he1;have hown:Sp.xY ⟨k,f,t,u,x,0,0⟩ ks.length=if e1=0 then Sp.zZ ⟨s1,s2,s3,s4,s5⟩ ⟨k,f,t,u,x,0,0⟩ else e1:=by
   unfold Sp.xY;simp only [hsh,← hpe,he1]
  unfold m_L_j2;refine ⟨fun h=>⟨_,_,_,_,_,c3.row,_,_,_,_,_,_,_,d2.row,?_⟩,fun h=>J3 _ _ (Ext.refl _) ?_⟩
  ·have h:e1=0:=by simpa using h
   refine (jLQ _ _ _ _ _ _ _ _ _ _ _ _ _).mono ?_;rintro _ w9 ⟨_,rfl,rfl,E9⟩;exact ⟨_,rfl,J3 _ _ E9 (by rw [hown,if_pos h])⟩
  ·have h:e1≠0:=by simpa using h
   rw [hown,if_neg h]
 refine ⟨fun h=>⟨s,d1.cell rfl,s5,c3.cell rfl,fun h5=>J2 _ ?_,fun h5=>J2 _ ?_⟩,fun h=>J2 _ ?_⟩
 ·have h:pe=0:=by simpa using h
  have h5:(s.len:Int)≠s5:=by simpa using h5
  rw [if_pos h,if_pos (by omega)]
 ·have h:pe=0:=by simpa using h
  have h5:(s.len:Int)=s5:=by simpa using h5
  rw [if_pos h,if_neg (by omega),h]
 ·have h:pe≠0:=by simpa using h
  rw [if_neg h]
theorem jPW (w:World):Calls prog 11 #[] w (fun e w'=>∃r:Option Addr,e=.returned (.pointer r)∧∃p,r=some p∧Pure w w'∧∃F,zS w' p [] F∧∀b,F b→w.heap.size≤b):=by
 refine w_R2 w (fun r w'=>∃p,r=some p∧Pure w w'∧∃F,zS w' p [] F∧∀b,F b→w.heap.size≤b) ?_;unfold m_R2;intro p1 w1 h1 p2 w2 h2;have E1:Pure w w1:=Ext.new h1;have m2:CMap w2 p1.block []:=(CMap.of_new h1).ext (Ext.new h2:Pure w1 w2) id;have n12:p1.block≠p2.block:=New.ne h2 h1.block_new;refine ⟨p2,rfl,E1.trans (Ext.new h2),fun b=>b=p2.block∨Sl.nil.blk b∨b=p1.block,⟨Sl.nil,p1.block,⟨Box.of_new h2,by simpa using Rws.nil _ _ _,by simpa [tK] using m2,n12,?_,?_⟩,fun _=>Iff.rfl⟩,?_⟩
 ·rintro ⟨a,h,_⟩;cases h
 ·rintro ⟨a,h,_⟩;cases h
 ·rintro b (rfl | ⟨a,h,_⟩ | rfl)
  ·exact New.own E1 h2
  ·cases h
  ·exact New.own (Ext.refl w) h1
theorem jOM (L:Sp.Pool) (n:Nat):tK (L.take n)=(tK L).take n:=by
 apply List.ext_getElem?;intro i;simp only [tK,List.getElem?_map,List.getElem?_zipIdx,List.getElem?_take];split <;> simp
theorem jQZ (L:Sp.Pool):(tK L).map (·.1)=(L.map (·.node)).map jCZ:=by
 apply List.ext_getElem?;intro i;simp only [tK,List.getElem?_map,List.getElem?_zipIdx];cases L[i]? <;> simp
theorem c_cut (p:Addr) (n:Nat) (w:World) {L:Sp.Pool} {F:NP} (hP:zS w p L F) (hok:Sp.Ok L) (hn:n≤L.length) :
  Calls prog 56 #[.pointer (some p),.int .i64 n] w (fun e w'=>e=.returned (.tuple #[])∧zS w' p (L.take n) F∧Ext F w w'):=by
 suffices key:∀K:WP,(∀w',zS w' p (L.take n) F∧Ext F w w'→K w')→m_L1 (some p) n w K from
  w_L1 _ _ w _ (key _ (fun _ h=>h))
 intro K hK
 unfold m_L1
 obtain ⟨s,m,hS,hF⟩:=hP
 have hfew:=hok.few
 have hcap:s.len≤s.cap:=by
  have:=hS.rows.len;rcases hS.rows.own with ⟨rfl,_⟩ | ⟨g,cur,_,_,hc,_⟩
  ·simp [Sl.nil]
  ·omega
 obtain ⟨s1,hr1,hl1⟩:=hS.rows.lst.lo (P:=prog) jDT hcap (k:=.i64) (n:=n) (by omega) (by simpa using hn)
 have hlen1:s1.len=L.length - n:=by rw [hl1.len];simp
 refine ⟨p,rfl,s,hS.box.cell0,s1,hr1,?_⟩
 refine ⟨fun x w'=>∃j:Nat,x=j∧j≤L.length - n∧Ext (·=m) w w'∧CMap w' m ((tK L).take n++(tK L).drop (n+j)),fun x _=>((L.length:Int) - x).toNat,⟨0,rfl,Nat.zero_le _,Ext.refl w,by simpa using hS.map⟩,?_⟩
 rintro _ wl ⟨j,rfl,hj,El,hml⟩
 have hboxl:=hS.box.ext El hS.n1.symm
 have hrowsl:=hS.rows.ext El (fun b hb e=>hS.n3 (e▸hb))
 unfold m_L1_l1
 refine ⟨fun h=>?_,fun h=>?_⟩
 ·have hlt:n+j<L.length:=by have h:=of_decide_eq_true h;omega
  have hll:=hl1.ext El (fun b hb e=>hS.n3 (e▸hb))
  obtain ⟨a,hat,_,hrow⟩:=hll.at_ j (by simp;omega)
  generalize he:L[n+j]=e at *
  have hrow':Row wl a (jNJ e):=by
   have:((L.map jNJ).drop ((n:Int).toNat))[j]'(by simp;omega)=jNJ e:=by simp [he]
   rw [this] at hrow;exact hrow
  obtain ⟨nd,sz,dp⟩:=e
  obtain ⟨k,f,t,u,x,a1,b1⟩:=nd
  refine ⟨a,hat,_,_,_,_,_,_,_,_,_,hrow',?_⟩
  intro p2 w1 h1
  have E1:Pure wl w1:=Ext.new h1
  have o1:=New.own (Ext.refl wl) h1
  refine bx 9 (Box.of_new h1) rfl rfl (fun w2 b2 E=>?_)
  have E2:Pure wl w2:=E1.own o1 E
  refine ⟨fun w'=>w'.cell? (p.add 1)=some (.map (some m))∧Row w' p2 (xD ⟨k,f,t,u,x,a1,b1⟩),⟨(hboxl.pure (E2.thenPure (Ext.drew w2))).cell (i:=1) rfl,?_⟩,?_⟩
  ·have : Row w2 p2 (xD ⟨k, f, t, u, x, a1, b1⟩) := fun i hi => by
    have:=b2.row i (by simp [xD] at hi ⊢;omega);rw [this];have h7:i<7:=by simpa [xD] using hi
    have:i=0∨i=1∨i=2∨i=3∨i=4∨i=5∨i=6:=by omega
    rcases this with rfl | rfl | rfl | rfl | rfl | rfl | rfl <;> rfl
   exact Ext.row (F:=None) (Ext.drew w2) this id
  intro w3 hw3
  have E3:Pure wl w3:=by rw [hw3];exact E2.thenPure (Ext.drew w2)
  clear hw3
  refine ⟨p,rfl,some m,fun w' h=>h.1,k,f,t,u,x,a1,b1,fun w' h=>h.2,?_⟩
  have hm3:=hml.ext E3 id
  have hpl:(tK L).length=L.length:=by simp [tK]
  have hget:(tK L)[n+j]?=some (jCZ ⟨k,f,t,u,x,a1,b1⟩,.int .i64 (n+j+1:Nat)):=by
   simp only [tK,List.getElem?_map,List.getElem?_zipIdx,List.getElem?_eq_getElem hlt,he];simp
  have hidx:((tK L).take n++(tK L).drop (n+j))[n]?=some (jCZ ⟨k,f,t,u,x,a1,b1⟩,.int .i64 (n+j+1:Nat)):=by
   have e0:n+j+(n - ((tK L).take n).length)=n+j:=by rw [List.length_take];omega
   rw [List.getElem?_append_right (by rw [List.length_take];omega),List.getElem?_drop,e0,hget]
  have hnd:((tK L).map (·.1)).Nodup:=by
   rw [jQZ,List.nodup_iff_pairwise_ne,List.pairwise_map];exact hok.nodup.imp (fun h e=>h (jGJ.1 e))
  have hsub:List.Sublist ((tK L).take n++(tK L).drop (n+j)) (tK L):=by
   conv=>rhs;rw [← List.take_append_drop n (tK L)]
   refine (List.Sublist.refl _).append ?_;have e0:(tK L).drop (n+j)=((tK L).drop n).drop j:=by rw [List.drop_drop]
   rw [e0];exact List.drop_sublist _ _
  have hnd2:(((tK L).take n++(tK L).drop (n+j)).map (·.1)).Nodup:=hnd.sublist (hsub.map _)
  obtain ⟨w4,hr4,hm4,E4⟩:=hm3.delete (P:=prog) (Q:=103) (z:=0) underlying93 jAB (fun q hq=>jBL q (hsub.subset hq)) ⟨_,rfl⟩ hidx (fun i u hi=>by
   obtain ⟨hi1,hi2⟩:=List.getElem?_eq_some_iff.1 hi;obtain ⟨hn1,hn2⟩:=List.getElem?_eq_some_iff.1 hidx;refine Classical.byContradiction fun hne=>?_;have hne:=List.pairwise_iff_getElem.1 hnd2;rcases Nat.lt_or_gt_of_ne ‹_› with hlt | hlt
   ·exact hne i n (by simpa using hi1) (by simpa using hn1) hlt (by rw [List.getElem_map,List.getElem_map,hi2,hn2])
   ·exact hne n i (by simpa using hn1) (by simpa using hi1) hlt (by rw [List.getElem_map,List.getElem_map,hi2,hn2]))
  refine ⟨w4,hr4,⟨j+1,?_,by omega,(El.trans E3.pure).trans E4,?_⟩,?_⟩
  ·rw [i64 (by omega) (by omega)];omega
  ·rw [List.eraseIdx_append_of_length_le (by rw [List.length_take];omega)] at hm4
   have:n - ((tK L).take n).length=0:=by rw [List.length_take];omega
   rw [this] at hm4
   have hd:((tK L).drop (n+j)).eraseIdx 0=(tK L).drop (n+(j+1)):=by
    rw [List.drop_eq_getElem_cons (by omega)];simp;rfl
   rw [hd] at hm4;exact hm4
  ·show ((L.length:Int) - IntKind.i64.wrap ((j:Int)+1)).toNat<((L.length:Int) - (j:Int)).toNat
   rw [i64 (by omega) (by omega)];omega
 ·have hge:n+j=L.length:=by have h:=of_decide_eq_false h;omega
  have hpl:(tK L).length=L.length:=by simp [tK]
  rw [hge,← hpl,List.drop_length,List.append_nil] at hml
  obtain ⟨s2,hr2,hrows2,hb2⟩:=hrowsl.hi (P:=prog) jDT (k:=.i64) (n:=n) (by omega) (by simpa using hn)
  refine ⟨p,rfl,s,hboxl.cell0,s2,hr2,p,rfl,hboxl.canW0 (by simp),?_⟩
  rintro w5 hw5
  have hbox5:Box w5 p [s2.v,.map (some m)] 96:=by rw [hw5];exact hboxl.set0
  have E5:Ext (·=p.block) wl w5:=by rw [hw5];exact Ext.setCell p _
  clear hw5
  refine hK _ ⟨⟨s2,m,⟨hbox5,?_,?_,hS.n1,fun h=>hS.n2 ((hb2 _).1 h),fun h=>hS.n3 ((hb2 _).1 h)⟩,fun b=>by rw [hF b,hb2 b]⟩,?_⟩
  ·have:=hrows2.ext E5 (fun b hb e=>hS.n2 (by rw [← e];exact (hb2 _).1 hb))
   simpa using this
  ·rw [jOM];exact hml.ext E5 hS.n1
  ·exact (El.mono (fun i _ h=>(hF i).2 (.inr (.inr h)))).trans' E5 (fun i _ h=>(hF i).2 (.inl h))
theorem jEL {n:Sp.Node} {i:Nat} {L:Sp.Pool} {t:Sp.Tree} {ts:List Sp.Tree} (h:(Sp.grow L t).2.1≠0):Sp.vP n i L (t :: ts)=(0,(Sp.grow L t).2.1,(Sp.grow L t).2.2):=by rw [Sp.vP,if_pos h]
theorem jCT {n:Sp.Node} {i:Nat} {L:Sp.Pool} {t:Sp.Tree} {ts:List Sp.Tree} (h:(Sp.grow L t).2.1=0):Sp.vP n i L (t :: ts)=Sp.vP (if i=0 then { n with a:=(Sp.grow L t).1 } else { n with b:=(Sp.grow L t).1 }) (i+1) (Sp.grow L t).2.2 ts:=by rw [Sp.vP,if_neg (by simp [h])]
def Sp.Tree.two (t:Sp.Tree):Prop:=Sp.Tree.rec (motive_1:=fun _=>Prop) (motive_2:=fun _=>Prop) (fun _ _ _ _ _ ks h=>ks.length≤2∧h) True (fun _ _ h1 h2=>h1∧h2) t
def jHE:List Sp.Tree→Prop
 | []=>True
 | t :: ts=>Sp.Tree.two t∧jHE ts
theorem jNT {k f t u:Int} {x:ByteArray} {ks:List Sp.Tree}:Sp.Tree.two (.mk k f t u x ks)↔ks.length≤2∧jHE ks:=by
 have:∀ks:List Sp.Tree,(Sp.Tree.rec_1 (motive_1:=fun _=>Prop) (motive_2:=fun _=>Prop) (fun _ _ _ _ _ ks h=>ks.length≤2∧h) True (fun _ _ h1 h2=>h1∧h2) ks:Prop)=jHE ks:=by
  intro ks;induction ks with
  | nil=>rfl
  | cons t ts ih=>show (Sp.Tree.two t∧_)=(Sp.Tree.two t∧_);rw [ih]
 show (ks.length≤2∧_)↔_;rw [this]
theorem jFE {ks:List Sp.Tree} (h:jHE ks) {i:Nat} (hi:i<ks.length):Sp.Tree.two ks[i]:=by
 induction ks generalizing i with
 | nil=>simp at hi
 | cons t ts ih =>
  cases i with
  | zero=>exact h.1
  | succ i=>exact ih h.2 (by simpa using hi)
theorem c_grow {S:NP} (p:Addr) (t:Sp.Tree):∀(s:Sl) (w:World) (L:Sp.Pool) (F:NP),Sp.Tree.two t→TreeAt S w s t→zS w p L F→Sp.Ok L→(∀b,F b→¬ S b)→(∀b,S b→b<w.heap.size) →
  Calls prog 55 #[.pointer (some p),.agg (yV t s).toArray] w
   (fun e w'=>∃r1:Int,∃r2:Int,e=.returned (.tuple #[.int .i64 r1,.int .i64 r2])∧((r1,r2)=((Sp.grow L t).1,(Sp.grow L t).2.1)∧∃F',zS w' p (Sp.grow L t).2.2 F'∧Ext F w w'∧∀b,F' b→F b∨w.heap.size≤b)):=by
 induction t using Sp.Tree.ind with
 | h k f t u x ks ih =>
 intro s w L F h2 hT hP hok hFS hSw
 suffices key:∀K:Int→Int→WP,(∀r1 r2 w',((r1,r2)=((Sp.grow L (.mk k f t u x ks)).1,(Sp.grow L (.mk k f t u x ks)).2.1)∧∃F',zS w' p (Sp.grow L (.mk k f t u x ks)).2.2 F'∧Ext F w w'∧∀b,F' b→F b∨w.heap.size≤b)→K r1 r2 w')→m_K1 (some p) k f t u x s w K from
  w_K1 _ _ _ _ _ _ _ w _ (key _ (fun _ _ _ h=>h))
 intro K hK
 obtain ⟨hk2,hall⟩:=jNT.1 h2
 unfold m_K1
 intro p2 w1 h1
 have b1:=Box.of_new h1
 have E1:Pure w w1:=Ext.new h1
 refine ⟨_,_,_,_,_,_,b1.row,?_⟩
 refine (jLN _ _ _ _ _ _ w1).mono ?_
 rintro _ w2 ⟨k',f',t',u',x',a',b',rfl,hn,E12⟩
 cases hn
 refine ⟨_,_,_,_,_,_,_,rfl,?_⟩
 intro p3 w3 h3
 have E3:Pure w w3:=(E1.trans E12).trans (Ext.new h3)
 have o3:=New.own (E1.trans E12) h3
 have n23:p2.block≠p3.block:=New.ne h3 (b1.pure E12).blk
 refine bx 7 (Box.of_new h3) rfl rfl (fun w4 b3 E34=>?_)
 have E4:Pure w w4:=E3.own o3 E34
 have b2:=((b1.pure E12).pure (Ext.new h3)).ext E34 n23
 intro p4 w5 h5
 have E5:Pure w w5:=E4.trans (Ext.new h5)
 have o4:=New.own E4 h5
 have n34:p3.block≠p4.block:=New.ne h5 b3.blk
 have c3:=b3.pure (Ext.new h5:Pure w4 w5)
 have c4:=Box.of_new h5
 have c2:=b2.pure (Ext.new h5:Pure w4 w5)
 refine ⟨s,c2.cell rfl,?_⟩
 have hsp:Sp.grow L (.mk k f t u x ks)=Sp.vP ⟨k,f,t,u,x,0,0⟩ 0 L ks:=by rw [Sp.grow]
 rw [hsp] at hK
 have hlen:s.len=ks.length:=by cases hT;assumption
 refine ⟨fun i w'=>∃j:Nat,i=j∧j≤ks.length∧∃(nd:Sp.Node) (L':Sp.Pool) (F':NP),Sp.vP ⟨k,f,t,u,x,0,0⟩ 0 L ks=Sp.vP nd j L' (ks.drop j)∧Sp.Ok L'∧zS w' p L' F'∧(∀b,F' b→F b∨w.heap.size≤b)∧¬ F' p3.block∧¬ F' p4.block∧Ext F w w'∧Box w' p3 (xD nd) 103∧Box w' p4 [.pointer (some (p3.add 5)),.pointer (some (p3.add 6))] 174,fun i _=>((ks.length:Int) - i).toNat,
  ⟨0,rfl,Nat.zero_le _,⟨k,f,t,u,x,0,0⟩,L,F,by simp,hok,hP.pure E5,fun b h=>.inl h,fun h=>by have:=hP.lt h;omega,fun h=>by have:=hP.lt h;omega,E5.pure,c3,c4⟩,?_⟩
 rintro _ wl ⟨j,rfl,hj,nd,L',F',heq,hok',hPl,hF',hn3,hn4,El,d3,d4⟩
 unfold m_K1_l1
 refine ⟨fun h=>?_,fun h=>?_⟩
 ·have hlt:j<ks.length:=by have h:=of_decide_eq_true h;omega
  have hTl:TreeAt S wl s (.mk k f t u x ks):=hT.ext El (fun b hs hf=>hFS b hf hs)
  have hkid:∀i (h:i<ks.length),∃a r,At s i 6 a∧Row wl a (yV ks[i] r)∧TreeAt S wl r ks[i]:=by
   cases hTl with
   | mk _ _ _ _ _ _ _ rs len fit row kid=>exact fun i h=>let ⟨a,h1,_,h3⟩:=row i h;⟨a,rs i,h1,h3,kid i h⟩
  obtain ⟨a,r,hat,hrow,hTk⟩:=hkid j hlt
  refine ⟨a,hat,_,_,_,_,_,r,hrow,?_⟩
  intro p5 w6 h6
  have o5:=New.own (Ext.refl wl) h6
  refine bx 6 (Box.of_new h6) rfl rfl (fun w7 b5 E67=>?_)
  have E7:Pure wl w7:=Ext.own (Ext.new h6) o5 E67
  refine ⟨_,_,_,_,_,r,b5.row,?_⟩
  have hsz:w.heap.size≤wl.heap.size:=El.size
  refine (ih j hlt r w7 L' F' (jFE hall hlt) (hTk.pure E7) (hPl.pure E7) hok' (fun b hb hs=>(hF' b hb).elim (fun h=>hFS b h hs) (fun h=>by have:=hSw b hs;omega)) (fun b hs=>by have:=hSw b hs;have:=E7.size;omega)).mono ?_
  rintro _ w8 ⟨r1,r2,rfl,hr,F8,hP8,E8,hF8⟩
  have e1:r1=(Sp.grow L' ks[j]).1:=congrArg Prod.fst hr
  have e2:r2=(Sp.grow L' ks[j]).2.1:=congrArg Prod.snd hr
  rw [List.drop_eq_getElem_cons hlt] at heq
  have hF8':∀b,F8 b→F b∨w.heap.size≤b:=fun b hb=>(hF8 b hb).elim (hF' b) (fun h=>by right;have:=E7.size;omega)
  have Ew8:Ext F w w8:=(El.thenPure E7).trans' E8 (fun i hi h=>(hF' i h).elim id (fun h=>by omega))
  refine ⟨_,_,rfl,fun h=>?_,fun h=>?_⟩
  ·have h:(Sp.grow L' ks[j]).2.1≠0:=by rw [← e2];simpa using h
   rw [jEL h] at heq
   refine hK _ _ _ ?_
   rw [heq];exact ⟨by rw [e2],F8,hP8,Ew8,hF8'⟩
  ·have h:(Sp.grow L' ks[j]).2.1=0:=by rw [← e2];simpa using h
   rw [jCT h] at heq
   have q3:=(d3.pure E7).ext E8 hn3
   have q4:=(d4.pure E7).ext E8 hn4
   have hs7:wl.heap.size≤w7.heap.size:=E7.size
   have n38:¬ F8 p3.block:=fun h=>(hF8 _ h).elim hn3 (fun h=>by have:=(d3.pure E7).lt;omega)
   have n48:¬ F8 p4.block:=fun h=>(hF8 _ h).elim hn4 (fun h=>by have:=(d4.pure E7).lt;omega)
   have hok8:=(Sp.jAC ks[j] L' hok').1
   have fin : ∀ (w9 : World) (nd' : Sp.Node), nd' = (if j = 0 then { nd with a := (Sp.grow L' ks[j]).1 } else { nd with b := (Sp.grow L' ks[j]).1 }) → Box w9 p3 (xD nd') 103 → Ext (· = p3.block) w8 w9 →
     (∃j':Nat,IntKind.i64.wrap ((j:Int)+1)=j'∧j'≤ks.length∧∃(nd:Sp.Node) (L':Sp.Pool) (F':NP),Sp.vP ⟨k,f,t,u,x,0,0⟩ 0 L ks=Sp.vP nd j' L' (ks.drop j')∧Sp.Ok L'∧zS w9 p L' F'∧(∀b,F' b→F b∨w.heap.size≤b)∧¬ F' p3.block∧¬ F' p4.block∧Ext F w w9∧Box w9 p3 (xD nd) 103∧Box w9 p4 [.pointer (some (p3.add 5)),.pointer (some (p3.add 6))] 174)∧((ks.length:Int) - IntKind.i64.wrap ((j:Int)+1)).toNat<((ks.length:Int) - (j:Int)).toNat:=by
    intro w9 nd' hnd B9 E9
    rw [i64 (by omega) (by omega)]
    refine ⟨⟨j+1,by omega,hlt,nd',_,F8,by rw [heq,hnd],hok8,hP8.ext E9 (fun b hb e=>n38 (e▸hb)),hF8',n38,n48,Ew8.trans' E9 (fun i hi h=>by subst h;omega),B9,q4.ext E9 n34.symm⟩,by omega⟩
   have hj2:j=0∨j=1:=by omega
   rcases hj2 with rfl | rfl
   ·refine ⟨p4,⟨by omega,by simp,p4,rfl,rfl⟩,some (p3.add 5),q4.cell0,p3.add 5,rfl,q3.canW (by simp [xD]),?_⟩
    intro w9 hw9
    refine fin w9 _ rfl ?_ ?_
    ·rw [hw9,e1];exact q3.set 5 _
    ·rw [hw9];have:=Ext.setCell (w:=w8) (p3.add 5) (.int .i64 r1);rw [zR] at this;exact this
   ·refine ⟨p4.add 1,⟨by omega,by simp,p4,rfl,rfl⟩,some (p3.add 6),q4.cell rfl,p3.add 6,rfl,q3.canW (by simp [xD]),?_⟩
    intro w9 hw9
    refine fin w9 _ rfl ?_ ?_
    ·rw [hw9,e1];exact q3.set 6 _
    ·rw [hw9];have:=Ext.setCell (w:=w8) (p3.add 6) (.int .i64 r1);rw [zR] at this;exact this
 ·have hge:j=ks.length:=by have h:=of_decide_eq_false h;omega
  rw [hge,List.drop_length,Sp.vP] at heq
  obtain ⟨k0,f0,t0,u0,x0,a0,b0⟩:=nd
  refine ⟨_,_,_,_,_,_,_,d3.row,?_⟩
  refine (jPX p k0 f0 t0 u0 x0 a0 b0 wl hPl hok').mono ?_
  rintro _ w9 ⟨r1,r2,rfl,hr,F9,hP9,E9,hF9⟩
  have hsz:w.heap.size≤wl.heap.size:=El.size
  refine ⟨_,_,rfl,hK _ _ _ ?_⟩
  rw [heq]
  exact ⟨hr,F9,hP9,El.trans' E9 (fun i hi h=>(hF' i h).elim id (fun h=>by omega)),fun b hb=>(hF9 b hb).elim (hF' b) (fun h=>by right;omega)⟩
theorem jHZ (t:Sp.Tree):∀i n:Int,(Sp.qT i n t).1=0→Sp.Tree.two t:=by
 induction t using Sp.Tree.ind with
 | h k f t u x ks ih =>
  have hA:∀(ks:List Sp.Tree),(∀i (hi:i<ks.length),∀j n:Int,(Sp.qT j n ks[i]).1=0→Sp.Tree.two ks[i])→∀i e n:Int,(Sp.vV i e n ks).1=0→e=0∧jHE ks:=by
   intro ks;induction ks with
   | nil=>intro _ i e n h;exact ⟨by simpa [Sp.vV] using h,trivial⟩
   | cons t ts iht =>
    intro hh i e n h
    unfold Sp.vV at h
    split at h
    ·rename_i he
     have:=iht (fun i hi=>hh (i+1) (by simpa using hi)) _ _ _ h
     exact ⟨he,hh 0 (by simp) i n this.1,this.2⟩
    ·rename_i he;exact absurd h he
  intro i n h
  unfold Sp.qT at h
  split at h
  ·cases h
  ·split at h
   ·cases h
   ·have:=hA ks ih _ _ _ h
    refine jNT.2 ⟨?_,this.2⟩
    have ho:=this.1
    unfold Sp.xY at ho
    simp only at ho
    have hk:=Sp.qX k
    by_cases hp:Sp.vG ⟨k,f,t,u,x,0,0⟩=0
    ·rw [if_pos hp] at ho
     by_cases hl:(ks.length:Int)≠(Sp.shapeOf k).kids
     ·rw [if_pos hl] at ho;simp at ho
     ·omega
    ·rw [if_neg hp,if_neg hp] at ho;exact absurd ho hp
theorem c_Of {S:NP} (p:Addr) (t:Sp.Tree) (s:Sl) (w:World) {L:Sp.Pool} {F:NP} (hT:TreeAt S w s t) (hP:zS w p L F) (hok:Sp.Ok L) (hFS:∀b,F b→¬ S b) (hSw:∀b,S b→b<w.heap.size) :
  Calls prog 13 #[.pointer (some p),.agg (yV t s).toArray] w
   (fun e w'=>∃r1:Int,∃r2:Int,e=.returned (.tuple #[.int .i64 r1,.int .i64 r2])∧((r1,r2)=((Sp.of L t).1,(Sp.of L t).2.1)∧∃F',zS w' p (Sp.of L t).2.2 F'∧Ext F w w'∧∀b,F' b→F b∨w.heap.size≤b)):=by
 obtain ⟨k,f,to,u,x,ks⟩:=t
 suffices key:∀K:Int→Int→WP,(∀r1 r2 w',((r1,r2)=((Sp.of L (.mk k f to u x ks)).1,(Sp.of L (.mk k f to u x ks)).2.1)∧∃F',zS w' p (Sp.of L (.mk k f to u x ks)).2.2 F'∧Ext F w w'∧∀b,F' b→F b∨w.heap.size≤b)→K r1 r2 w')→m_E2 (some p) k f to u x s w K from
  w_E2 _ _ _ _ _ _ _ w _ (key _ (fun _ _ _ h=>h))
 intro K hK
 unfold m_E2
 intro p2 w1 h1
 have b1:=Box.of_new h1
 have E1:Pure w w1:=Ext.new h1
 refine Br.f rfl ?_
 intro p3 w2 h2
 have E2:Pure w w2:=E1.trans (Ext.new h2)
 have o3:=New.own E1 h2
 have c3:=Box.of_new h2
 have n23:p2.block≠p3.block:=New.ne h2 b1.blk
 refine ⟨c3.canW0 (by simp),?_⟩
 intro w3 hw3
 have c3':Box w3 p3 [.int .i64 0] 3:=by rw [hw3];exact c3.set0
 have E23:Ext (·=p3.block) w2 w3:=by rw [hw3];exact Ext.setCell p3 _
 clear hw3
 have E3:Pure w w3:=E2.own o3 E23
 have b3:=(b1.pure (Ext.new h2:Pure w1 w2)).ext E23 n23
 refine ⟨_,_,_,_,_,s,b3.row,?_⟩
 generalize ht:Sp.Tree.mk k f to u x ks=t at *
 have htr:(Value.agg #[.int .i64 k,.int .i64 f,.int .i64 to,.int .u64 u,.string x,s.v])=.agg (yV t s).toArray:=by rw [← ht];rfl
 rw [htr]
 refine (jUJ p3 (fun h=>by have:=hSw _ h;omega) _ t s 0 0 w3 (by omega) (by omega) (hT.pure E3) c3').mono ?_
 rintro _ w4 ⟨r1,rfl,rfl,_,E34⟩
 have E4:Pure w w4:=E3.own o3 E34
 have b4:=b3.ext E34 n23
 have same:∀w',Pure w w'→∃F',zS w' p L F'∧Ext F w w'∧∀b,F' b→F b∨w.heap.size≤b:=fun w' E=>⟨F,hP.pure E,E.pure,fun _ h=>.inl h⟩
 refine ⟨_,rfl,fun h=>?_,fun h=>?_⟩
 ·have h:(Sp.qT 0 0 t).1≠0:=by simpa using h
  have:Sp.of L t=(0,(Sp.qT 0 0 t).1,L):=by rw [Sp.of,if_pos h]
  refine hK _ _ _ ?_
  rw [this];exact ⟨rfl,same _ E4⟩
 ·have h:(Sp.qT 0 0 t).1=0:=by simpa using h
  have hP4:=hP.pure E4
  obtain ⟨s0,m0,hS0,hF0⟩:=id hP4
  have hl0:s0.len=L.length:=by rw [hS0.rows.len];simp
  refine ⟨p,rfl,s0,hS0.box.cell0,_,_,_,_,_,s,b4.row,?_⟩
  rw [htr]
  refine (c_grow p t s w4 L F (jHZ t _ _ h) (hT.pure E4) hP4 hok hFS (fun b hb=>by have:=hSw b hb;have:=E4.size;omega)).mono ?_
  rintro _ w5 ⟨r1,r2,rfl,hr,F5,hP5,E45,hF5⟩
  have e1:r1=(Sp.grow L t).1:=congrArg Prod.fst hr
  have e2:r2=(Sp.grow L t).2.1:=congrArg Prod.snd hr
  have hs4:w.heap.size≤w4.heap.size:=E4.size
  have E5:Ext F w w5:=E4.pure.trans E45
  have hF5':∀b,F5 b→F b∨w.heap.size≤b:=fun b hb=>(hF5 b hb).elim .inl (fun h=>.inr (by omega))
  refine ⟨_,_,rfl,fun h'=>?_,fun h'=>?_⟩
  ·have h':(Sp.grow L t).2.1≠0:=by rw [← e2];simpa using h'
   obtain ⟨hok5,M,hM⟩:=Sp.jAC t L hok
   rw [hl0]
   refine (c_cut p L.length w5 hP5 hok5 (by rw [hM];simp)).mono ?_
   rintro _ w6 ⟨rfl,hP6,E56⟩
   have:Sp.of L t=(0,(Sp.grow L t).2.1,L):=by rw [Sp.of,if_neg (by simp [h]),if_pos h']
   refine ⟨rfl,hK _ _ _ ?_⟩
   rw [this]
   rw [hM,List.take_left] at hP6
   exact ⟨by rw [e2],F5,hP6,E5.trans' E56 (fun i hi h=>(hF5' i h).elim id (fun h=>by omega)),hF5'⟩
  ·have h':(Sp.grow L t).2.1=0:=by rw [← e2];simpa using h'
   have:Sp.of L t=((Sp.grow L t).1,0,(Sp.grow L t).2.2):=by rw [Sp.of,if_neg (by simp [h]),if_neg (by simp [h'])]
   refine hK _ _ _ ?_
   rw [this]
   exact ⟨by rw [e1],F5,hP5,E5,hF5'⟩
end Go.Proofs
end
section
open Go Go.SE
open Go.IntKind renaming i64 → q6
namespace Go.Proofs
open Tryz
set_option maxRecDepth 100000
set_option maxHeartbeats 4000000
attribute [local irreducible] wpL wpX opE wpE Calls
def m_M_j2 (p2 p3 p5:Addr) (r3:Int) (w:World) (K:Int→Int→Int→ByteArray→Bool→Bool→WP):Prop :=Calls prog 88 #[(vp (some p3)),(vi r3),(vi 2)] w (fun e w16=>∃bH bI bK aR bJ dB dC,e=.returned (Ae bH bI bK aR bJ dB dC)∧(∀j,j<5→zT w16 (p5.add j))∧∀w17,w17=storeRow w16 p5 (Ah 7 0 aR false)→∃v6,w17.cell? (p3.add 1)=some (vb v6)∧Br v6 ((∀j,j<5→zT w17 (p2.add j))∧∀w18,w18=storeRow w17 p2 (Ah 0 0 0 false)→∃bT bU dD bV dE,Row w18 p2 (Ab bT bU dD bV dE)∧K bT bU dD bV dE false w18) (∃dF dG gB dH gC,Row w17 p5 (Ab dF dG gB dH gC)∧(∀j,j<5→zT w17 (p2.add j))∧∀w19,w19=storeRow w17 p2 (Ab dF dG gB dH gC)→∃bW bX dI bY dJ,Row w19 p2 (Ab bW bX dI bY dJ)∧K bW bX dI bY dJ true w19))
def m_M_j3 (p2 p3 p5:Addr) (r3:Int) (w:World) (K:Int→Int→Int→ByteArray→Bool→Bool→WP):Prop :=∃v7,w.cell? (p3.add 1)=some (vb v7)∧Br v7 (∃v8,w.cell? (p3.add 1)=some (vb v8)∧Br v8 ((∀j,j<5→zT w (p2.add j))∧∀w20,w20=storeRow w p2 (Ah 0 0 0 false)→∃bZ cA dK cB dL,Row w20 p2 (Ab bZ cA dK cB dL)∧K bZ cA dK cB dL false w20) (∃cY cZ gD dA gE,Row w p5 (Ab cY cZ gD dA gE)∧(∀j,j<5→zT w (p2.add j))∧∀w21,w21=storeRow w p2 (Ab cY cZ gD dA gE)→∃dM dN gF dO gG,Row w21 p2 (Ab dM dN gF dO gG)∧K dM dN gF dO gG true w21)) (m_M_j2 p2 p3 p5 r3 w K)
def m_M_j1 (t1:Int) (p2 p3 p5:Addr) (x1:Bool) (w:World) (K:Int→Int→Int→ByteArray→Bool→Bool→WP):Prop :=Br x1 (Calls prog 86 #[(vp (some p3)),(vi t1)] w (fun e w11=>∃bO bP dU bG dV,e=.returned (Af bO bP dU bG dV)∧(∀j,j<5→zT w11 (p5.add j))∧∀w12,w12=storeRow w11 p5 (Ab bO bP dU bG dV)→∃v5,w12.cell? (p3.add 1)=some (vb v5)∧Br v5 ((∀j,j<5→zT w12 (p2.add j))∧∀w13,w13=storeRow w12 p2 (Ah 0 0 0 false)→∃aU aV cC aW cD,Row w13 p2 (Ab aU aV cC aW cD)∧K aU aV cC aW cD false w13) (∃bB bC gH bD gI,Row w12 p5 (Ab bB bC gH bD gI)∧(∀j,j<5→zT w12 (p2.add j))∧∀w14,w14=storeRow w12 p2 (Ab bB bC gH bD gI)→∃cE cF dP cG dQ,Row w14 p2 (Ab cE cF dP cG dQ)∧K cE cF dP cG dQ true w14))) (Calls prog 87 #[(vp (some p3)),(vi t1)] w (fun e w15=>∃r2 r3,e=.returned (.tuple #[(vs r2),(vi r3)])∧∃v9,w15.cell? (p3.add 1)=some (vb v9)∧Br v9 (zT w15 (p3.add 1)∧∀w22,w22=w15.setCell (p3.add 1) (vb true)→m_M_j3 p2 p3 p5 r3 w22 K) (zT w15 (p3.add 1)∧∀w23,w23=w15.setCell (p3.add 1) (vb (!(decide (r2=(⟨#[102,117,108,108]⟩:ByteArray)))))→m_M_j3 p2 p3 p5 r3 w23 K)))
def m_M (p1:Option Addr) (t1:Int) (w:World) (K:Int→Int→Int→ByteArray→Bool→Bool→WP):Prop :=∀p2 w1,New w (.cells #[(vi 0),(vi 0),(vu 0),ve,(vb false)] 56) p2 w1→∀p3 w2,New w1 (.cells #[(vp p1),(vb false)] 141) p3 w2→Calls prog 61 #[(vp p1),(vi t1)] w2 (fun e w3=>∃aE aF aG aD aH aX aY r1,e=.returned (.tuple #[(Ae aE aF aG aD aH aX aY),(vb r1)])∧∀p4 w4,New w3 (.cells #[(vi 0),(vi 0),(vi 0),(vu 0),ve,(vi 0),(vi 0)] 103) p4 w4→(∀j,j<7→zT w4 (p4.add j))∧∀w5,w5=storeRow w4 p4 (Ac aE aF aG aD aH aX aY)→∀p5 w6,New w5 (.cells #[(vi 0),(vi 0),(vu 0),ve,(vb false)] 56) p5 w6→∃v1,w6.cell? p4=some (vi v1)∧Br (v1 == 7) (∃v2,w6.cell? (p4.add 1)=some (vi v2)∧∃v3,w6.cell? (p4.add 5)=some (vi v3)∧Calls prog 85 #[(vp (some p3)),(vi v2),(vi v3)] w6 (fun e w7=>∃bE bF bM aZ bN,e=.returned (Af bE bF bM aZ bN)∧(∀j,j<5→zT w7 (p5.add j))∧∀w8,w8=storeRow w7 p5 (Ab bE bF bM aZ bN)→∃v4,w8.cell? (p3.add 1)=some (vb v4)∧Br v4 ((∀j,j<5→zT w8 (p2.add j))∧∀w9,w9=storeRow w8 p2 (Ah 0 0 0 false)→∃aA aB cH aC cI,Row w9 p2 (Ab aA aB cH aC cI)∧K aA aB cH aC cI false w9) (∃aL aM gJ aN gK,Row w8 p5 (Ab aL aM gJ aN gK)∧(∀j,j<5→zT w8 (p2.add j))∧∀w10,w10=storeRow w8 p2 (Ab aL aM gJ aN gK)→∃aO aP cJ aQ cK,Row w10 p2 (Ab aO aP cJ aQ cK)∧K aO aP cJ aQ cK true w10))) (Br (v1 == 8) (m_M_j1 t1 p2 p3 p5 (v1 == 8) w6 K) (m_M_j1 t1 p2 p3 p5 (v1 == 9) w6 K)))
theorem w_M (p1 t1 w K) (h:m_M p1 t1 w K):
  Calls prog 40 #[(vp p1),(vi t1)] w (fun e w'=>∃cT cU fU cV fV r4,e=.returned (.tuple #[(Af cT cU fU cV fV),(vb r4)])∧K cT cU fU cV fV r4 w'):=by
 refine cw (args:=[(vp p1),(vi t1)]) func40 ntmps40 (eg (sn (O:=(.cells #[(vi 0),(vi 0),(vu 0),ve,(vb false)] 56)) (zI (zeroValue56 _) rfl) ?_))
 intro p2 w1 hn18
 have h:=h p2 w1 hn18
 refine q (ln (jGZ rfl (fun _ _ _ h=>h) (eg (q0 (vp p1) (q0 (.agg #[(vp p1),(vb false)]) (sn (O:=(.cells #[(vp p1),(vb false)] 141)) xb ?_))))))
 intro p3 w2 hn17
 have h:=h p3 w2 hn17
 refine q (ln (eg (qb (sc call61 (h.mono fun e w3 ⟨aE,aF,aG,aD,aH,aX,aY,r1,k,h⟩=>⟨_,k,?_⟩)))))
 refine qc (nw1 h (zI (zeroValue103 _) rfl) fun p4 w4 h=>sro (sizeOf103 _) h fun w5 h=>q (ln (eg (nw1 h (zI (zeroValue56 _) rfl) fun p5 w6 h=>ln (zB (jHA (zN (zB (eg (q0 (vp (some p4)) (ql (isAgg3 _) h fun v1 h=>ln (zL (eg (qb (ln (cbr h ?_ ?_))))))))))))))))<;>intro h
 refine rg (qb (ql (isAgg3 _) h fun v2 h=>q (ql (isAgg23 _) h fun v3 h=>sc call85 (h.mono fun e w7 ⟨bE,bF,bM,aZ,bN,k,h⟩=>⟨_,k,?_⟩))))
 refine sro (sizeOf56 _) h fun w8 h=>zC (xE (zN (zB (eg (qc (ql (isAgg4 _) h fun v4 h=>ln (cbr h ?_ ?_)))))))<;>intro h
 refine eg (q (sro (sizeOf56 _) h fun w9 h=>q (ln (er (vA ?_)))))
 obtain ⟨aA,aB,cH,aC,cI,hv1,h⟩:=h
 refine gg2 results40 (rva (isAgg56 _) (sizeOf56 _) hv1) (rvU (vb false)) ⟨aA,aB,cH,aC,cI,false,rfl,h⟩
 refine zD (zN (eg ?_))
 obtain ⟨aL,aM,gJ,aN,gK,hv3,h⟩:=h
 refine qa (isAgg56 _) (sizeOf56 _) hv3 (sro (sizeOf56 _) h fun w10 h=>q (ln (er ?_)))
 obtain ⟨aO,aP,cJ,aQ,cK,hv2,h⟩:=h
 refine gg2 results40 (rva (isAgg56 _) (sizeOf56 _) hv2) (rvU (vb true)) ⟨aO,aP,cJ,aQ,cK,true,rfl,h⟩
 refine qE (fun ρ w=>∃x1,Has ρ [(1,(vi t1)),(4,(vp (some p2))),(6,(vp (some p3))),(9,(vp (some p5))),(57,(vb x1))]∧m_M_j1 t1 p2 p3 p5 x1 w K) ?_ ?_
 rintro ρ w ⟨x1,hH,h⟩
 refine zQ hH (cbr h ?_ ?_)<;>intro h
 refine rg (qb (sc call86 (h.mono fun e w11 ⟨bO,bP,dU,bG,dV,k,h⟩=>⟨_,k,?_⟩)))
 refine sro (sizeOf56 _) h fun w12 h=>zC (xE (zN (zB (eg (qc (ql (isAgg4 _) h fun v5 h=>ln (cbr h ?_ ?_)))))))<;>intro h
 refine eg (q (sro (sizeOf56 _) h fun w13 h=>q (ln (er (vA ?_)))))
 obtain ⟨aU,aV,cC,aW,cD,hv7,h⟩:=h
 refine gg2 results40 (rva (isAgg56 _) (sizeOf56 _) hv7) (rvU (vb false)) ⟨aU,aV,cC,aW,cD,false,rfl,h⟩
 refine zD (zN (eg ?_))
 obtain ⟨bB,bC,gH,bD,gI,hv9,h⟩:=h
 refine qa (isAgg56 _) (sizeOf56 _) hv9 (sro (sizeOf56 _) h fun w14 h=>q (ln (er ?_)))
 obtain ⟨cE,cF,dP,cG,dQ,hv8,h⟩:=h
 refine gg2 results40 (rva (isAgg56 _) (sizeOf56 _) hv8) (rvU (vb true)) ⟨cE,cF,dP,cG,dQ,true,rfl,h⟩
 refine eg (qb (sc call87 (h.mono fun e w15 ⟨r2,r3,k,h⟩=>⟨_,k,?_⟩)))
 refine q (qd (ln (qE (fun ρ w=>Has ρ [(4,(vp (some p2))),(6,(vp (some p3))),(9,(vp (some p5))),(11,(vi r3))]∧m_M_j2 p2 p3 p5 r3 w K) ?_ ?_)))
 rintro ρ w ⟨hH,h⟩
 refine zQ hH (rg (qb (sc call88 (h.mono fun e w16 ⟨bH,bI,bK,aR,bJ,dB,dC,k,h⟩=>⟨_,k,?_⟩))))
 refine qb (sro (sizeOf56 _) h fun w17 h=>zC (xE (zN (zB (eg (qc (ql (isAgg4 _) h fun v6 h=>ln (cbr h ?_ ?_))))))))<;>intro h
 refine eg (q (sro (sizeOf56 _) h fun w18 h=>q (ln (er (vA ?_)))))
 obtain ⟨bT,bU,dD,bV,dE,hv11,h⟩:=h
 refine gg2 results40 (rva (isAgg56 _) (sizeOf56 _) hv11) (rvU (vb false)) ⟨bT,bU,dD,bV,dE,false,rfl,h⟩
 refine zD (zN (eg ?_))
 obtain ⟨dF,dG,gB,dH,gC,hv13,h⟩:=h
 refine qa (isAgg56 _) (sizeOf56 _) hv13 (sro (sizeOf56 _) h fun w19 h=>q (ln (er ?_)))
 obtain ⟨bW,bX,dI,bY,dJ,hv12,h⟩:=h
 refine gg2 results40 (rva (isAgg56 _) (sizeOf56 _) hv12) (rvU (vb true)) ⟨bW,bX,dI,bY,dJ,true,rfl,h⟩
 refine qE (fun ρ w=>Has ρ [(4,(vp (some p2))),(6,(vp (some p3))),(9,(vp (some p5))),(11,(vi r3))]∧m_M_j3 p2 p3 p5 r3 w K) ?_ ?_
 rintro ρ w ⟨hH,h⟩
 refine zQ hH (eg (qc (ql (isAgg4 _) h fun v7 h=>ln (cbr h ?_ ?_))))<;>intro h
 refine vQ (xG (xA (zN (zB (eg (q0 (vp (some p3)) (q0 (vp (some p3)) (q0 (vp (some (p3.add 1))) (ql (isAgg4 _) h fun v8 h=>ln (cbr h ?_ ?_))))))))))<;>intro h
 refine eg (q (sro (sizeOf56 _) h fun w20 h=>q (ln (er (vA ?_)))))
 obtain ⟨bZ,cA,dK,cB,dL,hv15,h⟩:=h
 refine gg2 results40 (rva (isAgg56 _) (sizeOf56 _) hv15) (rvU (vb false)) ⟨bZ,cA,dK,cB,dL,false,rfl,h⟩
 refine zD (zN (eg ?_))
 obtain ⟨cY,cZ,gD,dA,gE,hv17,h⟩:=h
 refine qa (isAgg56 _) (sizeOf56 _) hv17 (sro (sizeOf56 _) h fun w21 h=>q (ln (er ?_)))
 obtain ⟨dM,dN,gF,dO,gG,hv16,h⟩:=h
 refine gg2 results40 (rva (isAgg56 _) (sizeOf56 _) hv16) (rvU (vb true)) ⟨dM,dN,gF,dO,gG,true,rfl,h⟩
 refine zD (zN ⟨hm,h⟩)
 refine rg (qd (ql (isAgg4 _) h fun v9 h=>q ?_))
 obtain ⟨hg1,h⟩|⟨hg1,h⟩:=h.br
 refine sj2 34 hg1 (q2 (vb true) (xT hg1) (qb (st1 (sizeOf4 _) h fun w22 h=>ln ⟨hm,h⟩)))
 refine qk 34 hg1 (stq (v:=(vb (!(decide (r2=(⟨#[102,117,108,108]⟩:ByteArray)))))) (wy 34 hg1) (uO (by kernel_rfl) (by kernel_rfl)) (q2 (vb (!(decide (r2=(⟨#[102,117,108,108]⟩:ByteArray))))) (xF hg1) (qb (st1 (sizeOf4 _) h fun w23 h=>ln ⟨hm,h⟩))))
 refine eg (qb (ln (cbr h ?_ ?_)))<;>intro h
 refine zD (zN ⟨(v1 == 8),hm,h⟩)
 refine rg (qb (ln ⟨(v1 == 9),hm,h⟩))
def m_D3 (c1:Int) (text1:ByteArray) (w:World) (K:Int→Int→Int→Int→ByteArray→Sl→WP):Prop :=∀p1 w1,New w (.cells #[(vi 0),(vi 0),(vi 0),(vu 0),ve,Sl.nil.v] 28) p1 w1→Calls prog 95 #[(vs (⟨#[100,101,97,108]⟩:ByteArray))] w1 (fun e w2=>∃aE aF aG aD aH bL,e=.returned (Aa aE aF aG aD aH bL)∧Calls prog 96 #[(vu c1)] w2 (fun e w3=>∃bE bF bK aR aZ eX,e=.returned (Aa bE bF bK aR aZ eX)∧Calls prog 95 #[(vs text1)] w3 (fun e w4=>∃bO bP cW cX bG eY,e=.returned (Aa bO bP cW cX bG eY)∧Calls prog 94 #[(.agg #[(vi bE),(vi bF),(vi bK),(vu aR),(vs aZ),eX.v]),(.agg #[(vi bO),(vi bP),(vi cW),(vu cX),(vs bG),eY.v])] w4 (fun e w5=>∃bH bI fW fX bJ fY,e=.returned (Aa bH bI fW fX bJ fY)∧Calls prog 94 #[(.agg #[(vi aE),(vi aF),(vi aG),(vu aD),(vs aH),bL.v]),(.agg #[(vi bH),(vi bI),(vi fW),(vu fX),(vs bJ),fY.v])] w5 (fun e w6=>∃cT cU eZ fA cV fB,e=.returned (Aa cT cU eZ fA cV fB)∧(∀j,j<6→zT w6 (p1.add j))∧∀w7,w7=storeRow w6 p1 (Ad cT cU eZ fA cV fB)→∃aA aB aI aJ aC aK,Row w7 p1 (Ad aA aB aI aJ aC aK)∧K aA aB aI aJ aC aK w7)))))
theorem w_D3 (c1 text1 w K) (h:m_D3 c1 text1 w K):
  Calls prog 45 #[(vu c1),(vs text1)] w (fun e w'=>∃dW dX gL gM dY gN,e=.returned (Aa dW dX gL gM dY gN)∧K dW dX gL gM dY gN w'):=by
 refine cw (args:=[(vu c1),(vs text1)]) func45 ntmps45 (eg (sn (O:=(.cells #[(vi 0),(vi 0),(vi 0),(vu 0),ve,Sl.nil.v] 28)) (zI (zeroValue28 _) rfl) ?_))
 intro p1 w1 hn2
 have h:=h p1 w1 hn2
 refine ln (eg (sc call95 (h.mono fun e w2 ⟨aE,aF,aG,aD,aH,bL,k,h⟩=>⟨_,k,?_⟩)))
 refine q (sc call96 (h.mono fun e w3 ⟨bE,bF,bK,aR,aZ,eX,k,h⟩=>⟨_,k,?_⟩))
 refine q (sc call95 (h.mono fun e w4 ⟨bO,bP,cW,cX,bG,eY,k,h⟩=>⟨_,k,?_⟩))
 refine sc call94 (h.mono fun e w5 ⟨bH,bI,fW,fX,bJ,fY,k,h⟩=>⟨_,k,?_⟩)
 refine sc call94 (h.mono fun e w6 ⟨cT,cU,eZ,fA,cV,fB,k,h⟩=>⟨_,k,?_⟩)
 refine sro (sizeOf28 _) h fun w7 h=>ln (er ?_)
 obtain ⟨aA,aB,aI,aJ,aC,aK,hv1,h⟩:=h
 refine gg1 results45 (rva (isAgg28 _) (sizeOf28 _) hv1) ⟨aA,aB,aI,aJ,aC,aK,rfl,h⟩
def m_G2 (gO gP gQ:Int) (gR:ByteArray) (gS first1 second1:Bool) (w:World) (K:Int→Int→Int→Int→ByteArray→Sl→WP):Prop :=∀p1 w1,New w (.cells #[(vi gO),(vi gP),(vu gQ),(vs gR),(vb gS)] 56) p1 w1→∀p2 w2,New w1 (.cells #[(vi 0),(vi 0),(vi 0),(vu 0),ve,Sl.nil.v] 28) p2 w2→∃v1,w2.cell? (p1.add 2)=some (vu v1)∧∃v2,w2.cell? (p1.add 3)=some (vs v2)∧Calls prog 45 #[(vu v1),(vs v2)] w2 (fun e w3=>∃aE aF aG aD aH bL,e=.returned (Aa aE aF aG aD aH bL)∧∀p3 w4,New w3 (.cells #[(vi 0),(vi 0),(vi 0),(vu 0),ve,Sl.nil.v] 28) p3 w4→(∀j,j<6→zT w4 (p3.add j))∧∀w5,w5=storeRow w4 p3 (Ad aE aF aG aD aH bL)→∃v3,w5.cell? p1=some (vi v3)∧Br (v3 == 1) (∃v4,w5.cell? (p1.add 1)=some (vi v4)∧∃aL aM aS aT aN bA,Row w5 p3 (Ad aL aM aS aT aN bA)∧∃v5,w5.cell? (p1.add 4)=some (vb v5)∧Calls prog 130 #[(vi v4),(.agg #[(vi aL),(vi aM),(vi aS),(vu aT),(vs aN),bA.v]),(vb v5)] w5 (fun e w6=>∃bE bF bK aR aZ eX,e=.returned (Aa bE bF bK aR aZ eX)∧(∀j,j<6→zT w6 (p2.add j))∧∀w7,w7=storeRow w6 p2 (Ad bE bF bK aR aZ eX)→∃aA aB aI aJ aC aK,Row w7 p2 (Ad aA aB aI aJ aC aK)∧K aA aB aI aJ aC aK w7)) (Br (v3 == 2) (∃v6,w5.cell? (p1.add 1)=some (vi v6)∧∃bB bC bQ bR bD bS,Row w5 p3 (Ad bB bC bQ bR bD bS)∧Calls prog 131 #[(vi v6),(.agg #[(vi bB),(vi bC),(vi bQ),(vu bR),(vs bD),bS.v])] w5 (fun e w8=>∃bO bP cW cX bG eY,e=.returned (Aa bO bP cW cX bG eY)∧(∀j,j<6→zT w8 (p2.add j))∧∀w9,w9=storeRow w8 p2 (Ad bO bP cW cX bG eY)→∃aO aP cL cM aQ dR,Row w9 p2 (Ad aO aP cL cM aQ dR)∧K aO aP cL cM aQ dR w9)) (Br (v3 == 3) (∃C1:WP,C1 w5.drew∧∀w10,w10=w5.drew→∃v7,(∀w',C1 w'→w'.cell? (p1.add 2)=some (vu v7))∧Calls prog 95 #[(vs (⟨#[97,98,111,114,116]⟩:ByteArray))] w10 (fun e w11=>∃bH bI fW fX bJ fY,e=.returned (Aa bH bI fW fX bJ fY)∧C1 w11∧Calls prog 96 #[(vu v7)] w11 (fun e w12=>∃cT cU eZ fA cV fB,e=.returned (Aa cT cU eZ fA cV fB)∧Calls prog 94 #[(.agg #[(vi bH),(vi bI),(vi fW),(vu fX),(vs bJ),fY.v]),(.agg #[(vi cT),(vi cU),(vi eZ),(vu fA),(vs cV),fB.v])] w12 (fun e w13=>∃dW dX gL gM dY gN,e=.returned (Aa dW dX gL gM dY gN)∧Calls prog 131 #[(vi 0),(.agg #[(vi dW),(vi dX),(vi gL),(vu gM),(vs dY),gN.v])] w13 (fun e w14=>∃eI eJ jF jG eK jH,e=.returned (Aa eI eJ jF jG eK jH)∧(∀j,j<6→zT w14 (p2.add j))∧∀w15,w15=storeRow w14 p2 (Ad eI eJ jF jG eK jH)→∃aU aV dS dT aW gT,Row w15 p2 (Ad aU aV dS dT aW gT)∧K aU aV dS dT aW gT w15))))) (Br (v3 == 4) (∃C2:WP,C2 w5.drew∧∀w16,w16=w5.drew→∃v8,(∀w',C2 w'→w'.cell? (p1.add 1)=some (vi v8))∧∃dF dG gU gV dH gW,(∀w',C2 w'→Row w' p3 (Ad dF dG gU gV dH gW))∧∃v9,(∀w',C2 w'→w'.cell? (p1.add 4)=some (vb v9))∧∃cY cZ fC fD dA fE,(∀w',C2 w'→Row w' p3 (Ad cY cZ fC fD dA fE))∧∃v10,(∀w',C2 w'→w'.cell? (p1.add 4)=some (vb v10))∧Calls prog 95 #[(vs (⟨#[114,101,115,111,108,118,101]⟩:ByteArray))] w16 (fun e w17=>∃dZ eA gX gY eB gZ,e=.returned (Aa dZ eA gX gY eB gZ)∧C2 w17∧Br v9 (Calls prog 130 #[(vi 0),(.agg #[(vi dF),(vi dG),(vi gU),(vu gV),(vs dH),gW.v]),(vb first1)] w17 (fun e w18=>∃eL eM jI jJ eN jK,e=.returned (Aa eL eM jI jJ eN jK)∧C2 w18∧Br v10 (Calls prog 130 #[(vi 1),(.agg #[(vi cY),(vi cZ),(vi fC),(vu fD),(vs dA),fE.v]),(vb second1)] w18 (fun e w19=>∃eC eD lU lV eE lW,e=.returned (Aa eC eD lU lV eE lW)∧C2 w19∧Calls prog 94 #[(.agg #[(vi eL),(vi eM),(vi jI),(vu jJ),(vs eN),jK.v]),(.agg #[(vi eC),(vi eD),(vi lU),(vu lV),(vs eE),lW.v])] w19 (fun e w20=>∃fF fG lX lY fH lZ,e=.returned (Aa fF fG lX lY fH lZ)∧C2 w20∧Calls prog 94 #[(.agg #[(vi dZ),(vi eA),(vi gX),(vu gY),(vs eB),gZ.v]),(.agg #[(vi fF),(vi fG),(vi lX),(vu lY),(vs fH),lZ.v])] w20 (fun e w21=>∃fI fJ mA mB fK mC,e=.returned (Aa fI fJ mA mB fK mC)∧C2 w21∧Calls prog 131 #[(vi v8),(.agg #[(vi fI),(vi fJ),(vi mA),(vu mB),(vs fK),mC.v])] w21 (fun e w22=>∃eO eP jL jM eQ jN,e=.returned (Aa eO eP jL jM eQ jN)∧(∀j,j<6→zT w22 (p2.add j))∧∀w23,w23=storeRow w22 p2 (Ad eO eP jL jM eQ jN)→∃cE cF hA hB cG hD,Row w23 p2 (Ad cE cF hA hB cG hD)∧K cE cF hA hB cG hD w23))))) (Calls prog 130 #[(vi 1),(.agg #[(vi cY),(vi cZ),(vi fC),(vu fD),(vs dA),fE.v]),(vb false)] w18 (fun e w24=>∃fL fM mD mE fN mF,e=.returned (Aa fL fM mD mE fN mF)∧C2 w24∧Calls prog 94 #[(.agg #[(vi eL),(vi eM),(vi jI),(vu jJ),(vs eN),jK.v]),(.agg #[(vi fL),(vi fM),(vi mD),(vu mE),(vs fN),mF.v])] w24 (fun e w25=>∃eF eG mG mH eH mI,e=.returned (Aa eF eG mG mH eH mI)∧C2 w25∧Calls prog 94 #[(.agg #[(vi dZ),(vi eA),(vi gX),(vu gY),(vs eB),gZ.v]),(.agg #[(vi eF),(vi eG),(vi mG),(vu mH),(vs eH),mI.v])] w25 (fun e w26=>∃fO fP mJ mK fQ mL,e=.returned (Aa fO fP mJ mK fQ mL)∧C2 w26∧Calls prog 131 #[(vi v8),(.agg #[(vi fO),(vi fP),(vi mJ),(vu mK),(vs fQ),mL.v])] w26 (fun e w27=>∃eR eS jO jP eT jQ,e=.returned (Aa eR eS jO jP eT jQ)∧(∀j,j<6→zT w27 (p2.add j))∧∀w28,w28=storeRow w27 p2 (Ad eR eS jO jP eT jQ)→∃bT bU hE hF bV hG,Row w28 p2 (Ad bT bU hE hF bV hG)∧K bT bU hE hF bV hG w28))))))) (Calls prog 130 #[(vi 0),(.agg #[(vi dF),(vi dG),(vi gU),(vu gV),(vs dH),gW.v]),(vb false)] w17 (fun e w29=>∃eU eV jR jS eW jT,e=.returned (Aa eU eV jR jS eW jT)∧C2 w29∧Br v10 (Calls prog 130 #[(vi 1),(.agg #[(vi cY),(vi cZ),(vi fC),(vu fD),(vs dA),fE.v]),(vb second1)] w29 (fun e w30=>∃fR fS mM mN fT mO,e=.returned (Aa fR fS mM mN fT mO)∧C2 w30∧Calls prog 94 #[(.agg #[(vi eU),(vi eV),(vi jR),(vu jS),(vs eW),jT.v]),(.agg #[(vi fR),(vi fS),(vi mM),(vu mN),(vs fT),mO.v])] w30 (fun e w31=>∃hI hJ mP mQ hK mR,e=.returned (Aa hI hJ mP mQ hK mR)∧C2 w31∧Calls prog 94 #[(.agg #[(vi dZ),(vi eA),(vi gX),(vu gY),(vs eB),gZ.v]),(.agg #[(vi hI),(vi hJ),(vi mP),(vu mQ),(vs hK),mR.v])] w31 (fun e w32=>∃mS mT mU mV mW mX,e=.returned (Aa mS mT mU mV mW mX)∧C2 w32∧Calls prog 131 #[(vi v8),(.agg #[(vi mS),(vi mT),(vi mU),(vu mV),(vs mW),mX.v])] w32 (fun e w33=>∃jU jV jW jX jY jZ,e=.returned (Aa jU jV jW jX jY jZ)∧(∀j,j<6→zT w33 (p2.add j))∧∀w34,w34=storeRow w33 p2 (Ad jU jV jW jX jY jZ)→∃bW bX hL hM bY hN,Row w34 p2 (Ad bW bX hL hM bY hN)∧K bW bX hL hM bY hN w34))))) (Calls prog 130 #[(vi 1),(.agg #[(vi cY),(vi cZ),(vi fC),(vu fD),(vs dA),fE.v]),(vb false)] w29 (fun e w35=>∃mY mZ nA nB nC nD,e=.returned (Aa mY mZ nA nB nC nD)∧C2 w35∧Calls prog 94 #[(.agg #[(vi eU),(vi eV),(vi jR),(vu jS),(vs eW),jT.v]),(.agg #[(vi mY),(vi mZ),(vi nA),(vu nB),(vs nC),nD.v])] w35 (fun e w36=>∃nE nF nG nH nI nJ,e=.returned (Aa nE nF nG nH nI nJ)∧C2 w36∧Calls prog 94 #[(.agg #[(vi dZ),(vi eA),(vi gX),(vu gY),(vs eB),gZ.v]),(.agg #[(vi nE),(vi nF),(vi nG),(vu nH),(vs nI),nJ.v])] w36 (fun e w37=>∃nK nL nM nN nO nP,e=.returned (Aa nK nL nM nN nO nP)∧C2 w37∧Calls prog 131 #[(vi v8),(.agg #[(vi nK),(vi nL),(vi nM),(vu nN),(vs nO),nP.v])] w37 (fun e w38=>∃kA kB kC kD kE kF,e=.returned (Aa kA kB kC kD kE kF)∧(∀j,j<6→zT w38 (p2.add j))∧∀w39,w39=storeRow w38 p2 (Ad kA kB kC kD kE kF)→∃bZ cA hO hQ cB hR,Row w39 p2 (Ad bZ cA hO hQ cB hR)∧K bZ cA hO hQ cB hR w39))))))))) (Br (v3 == 5) (∃C3:WP,C3 w5.drew∧∀w40,w40=w5.drew→∃v11,(∀w',C3 w'→w'.cell? (p1.add 2)=some (vu v11))∧Calls prog 95 #[(vs (⟨#[97,98,111,114,116,101,100]⟩:ByteArray))] w40 (fun e w41=>∃nQ nR nS nT nU nV,e=.returned (Aa nQ nR nS nT nU nV)∧C3 w41∧Calls prog 96 #[(vu v11)] w41 (fun e w42=>∃nW nX nY nZ oA oB,e=.returned (Aa nW nX nY nZ oA oB)∧Calls prog 94 #[(.agg #[(vi nQ),(vi nR),(vi nS),(vu nT),(vs nU),nV.v]),(.agg #[(vi nW),(vi nX),(vi nY),(vu nZ),(vs oA),oB.v])] w42 (fun e w43=>∃oC oD oE oF oG oH,e=.returned (Aa oC oD oE oF oG oH)∧Calls prog 131 #[(vi 2),(.agg #[(vi oC),(vi oD),(vi oE),(vu oF),(vs oG),oH.v])] w43 (fun e w44=>∃kG kH kI kJ kK kL,e=.returned (Aa kG kH kI kJ kK kL)∧(∀j,j<6→zT w44 (p2.add j))∧∀w45,w45=storeRow w44 p2 (Ad kG kH kI kJ kK kL)→∃dM dN hS hT dO hU,Row w45 p2 (Ad dM dN hS hT dO hU)∧K dM dN hS hT dO hU w45))))) (Br (v3 == 6) (∃C4:WP,C4 w5.drew∧∀w46,w46=w5.drew→∃iZ jA jB jC jD jE,(∀w',C4 w'→Row w' p3 (Ad iZ jA jB jC jD jE))∧Calls prog 95 #[(vs (⟨#[105,110,115,116,101,97,100]⟩:ByteArray))] w46 (fun e w47=>∃oI oJ oK oL oM oN,e=.returned (Aa oI oJ oK oL oM oN)∧C4 w47∧Calls prog 94 #[(.agg #[(vi oI),(vi oJ),(vi oK),(vu oL),(vs oM),oN.v]),(.agg #[(vi iZ),(vi jA),(vi jB),(vu jC),(vs jD),jE.v])] w47 (fun e w48=>∃oO oP oQ oR oS oT,e=.returned (Aa oO oP oQ oR oS oT)∧Calls prog 131 #[(vi 2),(.agg #[(vi oO),(vi oP),(vi oQ),(vu oR),(vs oS),oT.v])] w48 (fun e w49=>∃kM kN kO kP kQ kR,e=.returned (Aa kM kN kO kP kQ kR)∧(∀j,j<6→zT w49 (p2.add j))∧∀w50,w50=storeRow w49 p2 (Ad kM kN kO kP kQ kR)→∃hV hW hX hY hZ iA,Row w50 p2 (Ad hV hW hX hY hZ iA)∧K hV hW hX hY hZ iA w50)))) (∃C5:WP,C5 w5.drew∧∀w51,w51=w5.drew→∃v12,(∀w',C5 w'→w'.cell? (p1.add 2)=some (vu v12))∧Calls prog 95 #[(vs (⟨#[102,117,108,108]⟩:ByteArray))] w51 (fun e w52=>∃oU oV oW oX oY oZ,e=.returned (Aa oU oV oW oX oY oZ)∧C5 w52∧Calls prog 96 #[(vu v12)] w52 (fun e w53=>∃pA pB pC pD pE pF,e=.returned (Aa pA pB pC pD pE pF)∧Calls prog 94 #[(.agg #[(vi oU),(vi oV),(vi oW),(vu oX),(vs oY),oZ.v]),(.agg #[(vi pA),(vi pB),(vi pC),(vu pD),(vs pE),pF.v])] w53 (fun e w54=>∃kS kT kU kV kW kX,e=.returned (Aa kS kT kU kV kW kX)∧(∀j,j<6→zT w54 (p2.add j))∧∀w55,w55=storeRow w54 p2 (Ad kS kT kU kV kW kX)→∃iB iC iD iE iF iG,Row w55 p2 (Ad iB iC iD iE iF iG)∧K iB iC iD iE iF iG w55))))))))))
theorem w_G2 (gO gP gQ gR gS first1 second1 w K) (h:m_G2 gO gP gQ gR gS first1 second1 w K):
  Calls prog 71 #[(.agg #[(vi gO),(vi gP),(vu gQ),(vs gR),(vb gS)]),(vb first1),(vb second1)] w (fun e w'=>∃pG pH pI pJ pK pL,e=.returned (Aa pG pH pI pJ pK pL)∧K pG pH pI pJ pK pL w'):=by
 refine cw (args:=[(Af gO gP gQ gR gS),(vb first1),(vb second1)]) func71 ntmps71 (eg (sn (O:=(.cells #[(vi gO),(vi gP),(vu gQ),(vs gR),(vb gS)] 56)) xb ?_))
 intro p1 w1 hn14
 have h:=h p1 w1 hn14
 refine nw1 h (zI (zeroValue28 _) rfl) fun p2 w2 h=>ln (eg (q (ql (isAgg26 _) h fun v1 h=>q (ql (isAgg9 _) h fun v2 h=>sc call45 (h.mono fun e w3 ⟨aE,aF,aG,aD,aH,bL,k,h⟩=>⟨_,k,?_⟩)))))
 refine nw1 h (zI (zeroValue28 _) rfl) fun p3 w4 h=>sro (sizeOf28 _) h fun w5 h=>ln (zB (eg (q (ql (isAgg3 _) h fun v3 h=>ln (zL (eg (qb (ln (cbr h ?_ ?_)))))))))<;>intro h
 refine eg (q (ql (isAgg3 _) h fun v4 h=>?_))
 obtain ⟨aL,aM,aS,aT,aN,bA,hv3,h⟩:=h
 refine qa (isAgg28 _) (sizeOf28 _) hv3 (q (ql (isAgg4 _) h fun v5 h=>sc call130 (h.mono fun e w6 ⟨bE,bF,bK,aR,aZ,eX,k,h⟩=>⟨_,k,?_⟩)))
 refine sro (sizeOf28 _) h fun w7 h=>ln (er (yC (vA ?_)))
 obtain ⟨aA,aB,aI,aJ,aC,aK,hv1,h⟩:=h
 refine gg1 results71 (rva (isAgg28 _) (sizeOf28 _) hv1) ⟨aA,aB,aI,aJ,aC,aK,rfl,h⟩
 refine eg (qb (ln (cbr h ?_ ?_)))<;>intro h
 refine eg (q (ql (isAgg3 _) h fun v6 h=>?_))
 obtain ⟨bB,bC,bQ,bR,bD,bS,hv6,h⟩:=h
 refine qa (isAgg28 _) (sizeOf28 _) hv6 (sc call131 (h.mono fun e w8 ⟨bO,bP,cW,cX,bG,eY,k,h⟩=>⟨_,k,?_⟩))
 refine sro (sizeOf28 _) h fun w9 h=>ln (er (yC (vA ?_)))
 obtain ⟨aO,aP,cL,cM,aQ,dR,hv5,h⟩:=h
 refine gg1 results71 (rva (isAgg28 _) (sizeOf28 _) hv5) ⟨aO,aP,cL,cM,aQ,dR,rfl,h⟩
 refine eg (qb (ln (cbr h ?_ ?_)))<;>intro h
 refine zB ?_
 obtain ⟨C1,hC,h⟩:=h
 refine dr1 C1 [0,3,4,5,6] [3,4,5,6] hC h fun w10 h=>qx 1 (vp (some (p1.add 2))) Kp1 (qg 2 ?_)
 obtain ⟨v7,hv9,h⟩:=h
 refine sy Kp2 (fun _ k=>xl (isAgg26 _) (hv9 _ k)) (lg 0 (slc Kp0 call95 (h.mono ?_)))
 rintro e w11 ⟨bH,bI,fW,fX,bJ,fY,rfl,hC,h⟩
 refine ⟨_,rfl,.inr hC,?_⟩
 refine lg 3 (slc Kp3 call96 (h.mono ?_))
 rintro e w12 ⟨cT,cU,eZ,fA,cV,fB,rfl,h⟩
 refine ⟨_,rfl,.inl (by kernel_rfl),?_⟩
 refine lg 4 (slc Kp4 call94 (h.mono ?_))
 rintro e w13 ⟨dW,dX,gL,gM,dY,gN,rfl,h⟩
 refine ⟨_,rfl,.inl (by kernel_rfl),?_⟩
 refine lg 5 (slc Kp5 call131 (h.mono ?_))
 rintro e w14 ⟨eI,eJ,jF,jG,eK,jH,rfl,h⟩
 refine ⟨_,rfl,.inl (by kernel_rfl),?_⟩
 refine lg 6 (slo Kp6 (sizeOf28 _) h fun w15 h=>⟨.inl (by kernel_rfl),?_⟩)
 refine wn (zN (er (yC (vA ?_))))
 obtain ⟨aU,aV,dS,dT,aW,gT,hv8,h⟩:=h
 refine gg1 results71 (rva (isAgg28 _) (sizeOf28 _) hv8) ⟨aU,aV,dS,dT,aW,gT,rfl,h⟩
 refine eg (qb (ln (cbr h ?_ ?_)))<;>intro h
 refine zB ?_
 obtain ⟨C2,hC,h⟩:=h
 refine dr1 C2 [2,9,16,17,18,19,20] [19,20] hC h fun w16 h=>qx 0 (vp (some (p1.add 1))) Kp0 (qg 1 ?_)
 obtain ⟨v8,hv18,h⟩:=h
 refine sy Kp1 (fun _ k=>xl (isAgg3 _) (hv18 _ k)) (qg 3 ?_)
 obtain ⟨dF,dG,gU,gV,dH,gW,hv17,h⟩:=h
 refine sy (v:=(Aa dF dG gU gV dH gW)) Kp3 (fun w' hw'=>(xa p3 (Ad dF dG gU gV dH gW) (isAgg28 _) (sizeOf28 _) (hv17 w' hw'))) (qx 4 (vp (some (p1.add 4))) Kp4 (qg 5 ?_))
 obtain ⟨v9,hv16,h⟩:=h
 refine sy Kp5 (fun _ k=>xl (isAgg4 _) (hv16 _ k)) (qg 10 ?_)
 obtain ⟨cY,cZ,fC,fD,dA,fE,hv15,h⟩:=h
 refine sy (v:=(Aa cY cZ fC fD dA fE)) (zG (S8 (zA (zA zF)))) (fun w' hw'=>(xa p3 (Ad cY cZ fC fD dA fE) (isAgg28 _) (sizeOf28 _) (hv15 w' hw'))) (qx 11 (vp (some (p1.add 4))) (zG (S8 (zA (zA (zA zF))))) (qg 12 ?_))
 obtain ⟨v10,hv14,h⟩:=h
 refine sy (zG (S8 (S4 zF))) (fun _ k=>xl (isAgg4 _) (hv14 _ k)) (lg 2 (slc Kp2 call95 (h.mono ?_)))
 rintro e w17 ⟨dZ,eA,gX,gY,eB,gZ,rfl,hC,h⟩
 refine ⟨_,rfl,.inr hC,?_⟩
 refine qx 6 (vb v9) Kp6 (qg 7 ?_)
 obtain ⟨hg1,h⟩|⟨hg1,h⟩:=h.br
 refine sz (v:=(vb first1)) Kp7 (wy 45 hg1) (fun _ _=>(by kernel_rfl)) (qz 8 (vb first1) Kp8 (fun _ _=>(xT hg1)) (lg 9 (slc Kp9 call130 (h.mono ?_))))
 rintro e w18 ⟨eL,eM,jI,jJ,eN,jK,rfl,hC,h⟩
 refine ⟨_,rfl,.inr hC,?_⟩
 refine qx 13 (vb v10) (zG (S8 (S4 (zA zF)))) (qg 14 ?_)
 obtain ⟨hg2,h⟩|⟨hg2,h⟩:=h.br
 refine sz (v:=(vb second1)) (zG (S8 (S4 (zA (zA zF))))) (wy 52 hg2) (fun _ _=>(by kernel_rfl)) (qz 15 (vb second1) (zG (S8 (S4 (zA (zA (zA zF)))))) (fun _ _=>(xT hg2)) (lg 16 (slc (zG (S8 (S8 zF))) call130 (h.mono ?_))))
 rintro e w19 ⟨eC,eD,lU,lV,eE,lW,rfl,hC,h⟩
 refine ⟨_,rfl,.inr hC,?_⟩
 refine lg 17 (slc (zG (S8 (S8 (zA zF)))) call94 (h.mono ?_))
 rintro e w20 ⟨fF,fG,lX,lY,fH,lZ,rfl,hC,h⟩
 refine ⟨_,rfl,.inr hC,?_⟩
 refine lg 18 (slc (zG (S8 (S8 (zA (zA zF))))) call94 (h.mono ?_))
 rintro e w21 ⟨fI,fJ,mA,mB,fK,mC,rfl,hC,h⟩
 refine ⟨_,rfl,.inr hC,?_⟩
 refine lg 19 (slc (zG (S8 (S8 (zA (zA (zA zF)))))) call131 (h.mono ?_))
 rintro e w22 ⟨eO,eP,jL,jM,eQ,jN,rfl,h⟩
 refine ⟨_,rfl,.inl (by kernel_rfl),?_⟩
 refine lg 20 (slo (zG (S8 (S8 (S4 zF)))) (sizeOf28 _) h fun w23 h=>⟨.inl (by kernel_rfl),?_⟩)
 refine wn (zN (er (yC (vA ?_))))
 obtain ⟨cE,cF,hA,hB,cG,hD,hv10,h⟩:=h
 refine gg1 results71 (rva (isAgg28 _) (sizeOf28 _) hv10) ⟨cE,cF,hA,hB,cG,hD,rfl,h⟩
 refine zV (zG (S8 (S4 (zA (zA zF))))) (zH rfl (yD 52 hg2) rfl) (qz 15 (vb false) (zG (S8 (S4 (zA (zA (zA zF)))))) (fun _ _=>(xF hg2)) (lg 16 (slc (zG (S8 (S8 zF))) call130 (h.mono ?_))))
 rintro e w24 ⟨fL,fM,mD,mE,fN,mF,rfl,hC,h⟩
 refine ⟨_,rfl,.inr hC,?_⟩
 refine lg 17 (slc (zG (S8 (S8 (zA zF)))) call94 (h.mono ?_))
 rintro e w25 ⟨eF,eG,mG,mH,eH,mI,rfl,hC,h⟩
 refine ⟨_,rfl,.inr hC,?_⟩
 refine lg 18 (slc (zG (S8 (S8 (zA (zA zF))))) call94 (h.mono ?_))
 rintro e w26 ⟨fO,fP,mJ,mK,fQ,mL,rfl,hC,h⟩
 refine ⟨_,rfl,.inr hC,?_⟩
 refine lg 19 (slc (zG (S8 (S8 (zA (zA (zA zF)))))) call131 (h.mono ?_))
 rintro e w27 ⟨eR,eS,jO,jP,eT,jQ,rfl,h⟩
 refine ⟨_,rfl,.inl (by kernel_rfl),?_⟩
 refine lg 20 (slo (zG (S8 (S8 (S4 zF)))) (sizeOf28 _) h fun w28 h=>⟨.inl (by kernel_rfl),?_⟩)
 refine wn (zN (er (yC (vA ?_))))
 obtain ⟨bT,bU,hE,hF,bV,hG,hv11,h⟩:=h
 refine gg1 results71 (rva (isAgg28 _) (sizeOf28 _) hv11) ⟨bT,bU,hE,hF,bV,hG,rfl,h⟩
 refine zV Kp7 (zH rfl (yD 45 hg1) rfl) (qz 8 (vb false) Kp8 (fun _ _=>(xF hg1)) (lg 9 (slc Kp9 call130 (h.mono ?_))))
 rintro e w29 ⟨eU,eV,jR,jS,eW,jT,rfl,hC,h⟩
 refine ⟨_,rfl,.inr hC,?_⟩
 refine qx 13 (vb v10) (zG (S8 (S4 (zA zF)))) (qg 14 ?_)
 obtain ⟨hg3,h⟩|⟨hg3,h⟩:=h.br
 refine sz (v:=(vb second1)) (zG (S8 (S4 (zA (zA zF))))) (wy 52 hg3) (fun _ _=>(by kernel_rfl)) (qz 15 (vb second1) (zG (S8 (S4 (zA (zA (zA zF)))))) (fun _ _=>(xT hg3)) (lg 16 (slc (zG (S8 (S8 zF))) call130 (h.mono ?_))))
 rintro e w30 ⟨fR,fS,mM,mN,fT,mO,rfl,hC,h⟩
 refine ⟨_,rfl,.inr hC,?_⟩
 refine lg 17 (slc (zG (S8 (S8 (zA zF)))) call94 (h.mono ?_))
 rintro e w31 ⟨hI,hJ,mP,mQ,hK,mR,rfl,hC,h⟩
 refine ⟨_,rfl,.inr hC,?_⟩
 refine lg 18 (slc (zG (S8 (S8 (zA (zA zF))))) call94 (h.mono ?_))
 rintro e w32 ⟨mS,mT,mU,mV,mW,mX,rfl,hC,h⟩
 refine ⟨_,rfl,.inr hC,?_⟩
 refine lg 19 (slc (zG (S8 (S8 (zA (zA (zA zF)))))) call131 (h.mono ?_))
 rintro e w33 ⟨jU,jV,jW,jX,jY,jZ,rfl,h⟩
 refine ⟨_,rfl,.inl (by kernel_rfl),?_⟩
 refine lg 20 (slo (zG (S8 (S8 (S4 zF)))) (sizeOf28 _) h fun w34 h=>⟨.inl (by kernel_rfl),?_⟩)
 refine wn (zN (er (yC (vA ?_))))
 obtain ⟨bW,bX,hL,hM,bY,hN,hv12,h⟩:=h
 refine gg1 results71 (rva (isAgg28 _) (sizeOf28 _) hv12) ⟨bW,bX,hL,hM,bY,hN,rfl,h⟩
 refine zV (zG (S8 (S4 (zA (zA zF))))) (zH rfl (yD 52 hg3) rfl) (qz 15 (vb false) (zG (S8 (S4 (zA (zA (zA zF)))))) (fun _ _=>(xF hg3)) (lg 16 (slc (zG (S8 (S8 zF))) call130 (h.mono ?_))))
 rintro e w35 ⟨mY,mZ,nA,nB,nC,nD,rfl,hC,h⟩
 refine ⟨_,rfl,.inr hC,?_⟩
 refine lg 17 (slc (zG (S8 (S8 (zA zF)))) call94 (h.mono ?_))
 rintro e w36 ⟨nE,nF,nG,nH,nI,nJ,rfl,hC,h⟩
 refine ⟨_,rfl,.inr hC,?_⟩
 refine lg 18 (slc (zG (S8 (S8 (zA (zA zF))))) call94 (h.mono ?_))
 rintro e w37 ⟨nK,nL,nM,nN,nO,nP,rfl,hC,h⟩
 refine ⟨_,rfl,.inr hC,?_⟩
 refine lg 19 (slc (zG (S8 (S8 (zA (zA (zA zF)))))) call131 (h.mono ?_))
 rintro e w38 ⟨kA,kB,kC,kD,kE,kF,rfl,h⟩
 refine ⟨_,rfl,.inl (by kernel_rfl),?_⟩
 refine lg 20 (slo (zG (S8 (S8 (S4 zF)))) (sizeOf28 _) h fun w39 h=>⟨.inl (by kernel_rfl),?_⟩)
 refine wn (zN (er (yC (vA ?_))))
 obtain ⟨bZ,cA,hO,hQ,cB,hR,hv13,h⟩:=h
 refine gg1 results71 (rva (isAgg28 _) (sizeOf28 _) hv13) ⟨bZ,cA,hO,hQ,cB,hR,rfl,h⟩
 refine eg (qb (ln (cbr h ?_ ?_)))<;>intro h
 refine zB ?_
 obtain ⟨C3,hC,h⟩:=h
 refine dr1 C3 [0,3,4,5,6] [3,4,5,6] hC h fun w40 h=>qx 1 (vp (some (p1.add 2))) Kp1 (qg 2 ?_)
 obtain ⟨v11,hv20,h⟩:=h
 refine sy Kp2 (fun _ k=>xl (isAgg26 _) (hv20 _ k)) (lg 0 (slc Kp0 call95 (h.mono ?_)))
 rintro e w41 ⟨nQ,nR,nS,nT,nU,nV,rfl,hC,h⟩
 refine ⟨_,rfl,.inr hC,?_⟩
 refine lg 3 (slc Kp3 call96 (h.mono ?_))
 rintro e w42 ⟨nW,nX,nY,nZ,oA,oB,rfl,h⟩
 refine ⟨_,rfl,.inl (by kernel_rfl),?_⟩
 refine lg 4 (slc Kp4 call94 (h.mono ?_))
 rintro e w43 ⟨oC,oD,oE,oF,oG,oH,rfl,h⟩
 refine ⟨_,rfl,.inl (by kernel_rfl),?_⟩
 refine lg 5 (slc Kp5 call131 (h.mono ?_))
 rintro e w44 ⟨kG,kH,kI,kJ,kK,kL,rfl,h⟩
 refine ⟨_,rfl,.inl (by kernel_rfl),?_⟩
 refine lg 6 (slo Kp6 (sizeOf28 _) h fun w45 h=>⟨.inl (by kernel_rfl),?_⟩)
 refine wn (zN (er (yC (vA ?_))))
 obtain ⟨dM,dN,hS,hT,dO,hU,hv19,h⟩:=h
 refine gg1 results71 (rva (isAgg28 _) (sizeOf28 _) hv19) ⟨dM,dN,hS,hT,dO,hU,rfl,h⟩
 refine eg (qb (ln (cbr h ?_ ?_)))<;>intro h
 refine zB ?_
 obtain ⟨C4,hC,h⟩:=h
 refine dr1 C4 [0,2,3,4] [2,3,4] hC h fun w46 h=>qg 1 ?_
 obtain ⟨iZ,jA,jB,jC,jD,jE,hv22,h⟩:=h
 refine sy (v:=(Aa iZ jA jB jC jD jE)) Kp1 (fun w' hw'=>(xa p3 (Ad iZ jA jB jC jD jE) (isAgg28 _) (sizeOf28 _) (hv22 w' hw'))) (lg 0 (slc Kp0 call95 (h.mono ?_)))
 rintro e w47 ⟨oI,oJ,oK,oL,oM,oN,rfl,hC,h⟩
 refine ⟨_,rfl,.inr hC,?_⟩
 refine lg 2 (slc Kp2 call94 (h.mono ?_))
 rintro e w48 ⟨oO,oP,oQ,oR,oS,oT,rfl,h⟩
 refine ⟨_,rfl,.inl (by kernel_rfl),?_⟩
 refine lg 3 (slc Kp3 call131 (h.mono ?_))
 rintro e w49 ⟨kM,kN,kO,kP,kQ,kR,rfl,h⟩
 refine ⟨_,rfl,.inl (by kernel_rfl),?_⟩
 refine lg 4 (slo Kp4 (sizeOf28 _) h fun w50 h=>⟨.inl (by kernel_rfl),?_⟩)
 refine wn (zN (er (yC (vA ?_))))
 obtain ⟨hV,hW,hX,hY,hZ,iA,hv21,h⟩:=h
 refine gg1 results71 (rva (isAgg28 _) (sizeOf28 _) hv21) ⟨hV,hW,hX,hY,hZ,iA,rfl,h⟩
 refine zD (xE (zN (zB ?_)))
 obtain ⟨C5,hC,h⟩:=h
 refine dr1 C5 [0,3,4,5] [3,4,5] hC h fun w51 h=>qx 1 (vp (some (p1.add 2))) Kp1 (qg 2 ?_)
 obtain ⟨v12,hv24,h⟩:=h
 refine sy Kp2 (fun _ k=>xl (isAgg26 _) (hv24 _ k)) (lg 0 (slc Kp0 call95 (h.mono ?_)))
 rintro e w52 ⟨oU,oV,oW,oX,oY,oZ,rfl,hC,h⟩
 refine ⟨_,rfl,.inr hC,?_⟩
 refine lg 3 (slc Kp3 call96 (h.mono ?_))
 rintro e w53 ⟨pA,pB,pC,pD,pE,pF,rfl,h⟩
 refine ⟨_,rfl,.inl (by kernel_rfl),?_⟩
 refine lg 4 (slc Kp4 call94 (h.mono ?_))
 rintro e w54 ⟨kS,kT,kU,kV,kW,kX,rfl,h⟩
 refine ⟨_,rfl,.inl (by kernel_rfl),?_⟩
 refine lg 5 (slo Kp5 (sizeOf28 _) h fun w55 h=>⟨.inl (by kernel_rfl),?_⟩)
 refine wn (zN (er ?_))
 obtain ⟨iB,iC,iD,iE,iF,iG,hv23,h⟩:=h
 refine gg1 results71 (rva (isAgg28 _) (sizeOf28 _) hv23) ⟨iB,iC,iD,iE,iF,iG,rfl,h⟩
def m_B_j7 (who1:Int) (p1 a1 a2:Addr) (w:World) (K:Int→Int→Int→ByteArray→Bool→WP):Prop :=∃v1,w.cell? (a1.add 2)=some (vu v1)∧∃v2,w.cell? (a1.add 3)=some (vs v2)∧∃v3,w.cell? (a1.add 4)=some (vb v3)∧Br v3 ((∀j,j<5→zT w (p1.add j))∧∀w14,w14=storeRow w p1 (Ab 4 who1 v1 v2 true)→∃bT bU dD bV dE,Row w14 p1 (Ab bT bU dD bV dE)∧K bT bU dD bV dE w14) (∃v4,w.cell? (a2.add 4)=some (vb v4)∧(∀j,j<5→zT w (p1.add j))∧∀w15,w15=storeRow w p1 (Ab 4 who1 v1 v2 v4)→∃bW bX dI bY dJ,Row w15 p1 (Ab bW bX dI bY dJ)∧K bW bX dI bY dJ w15)
def m_B_j10 (r1:Option Addr) (who1:Int) (p1 a1 a2:Addr) (x8:Bool) (w:World) (K:Int→Int→Int→ByteArray→Bool→WP):Prop :=Br x8 (∃a4,r1=some a4∧zT w (a4.add 1)∧∀w16,w16=w.setCell (a4.add 1) (vb true)→m_B_j7 who1 p1 a1 a2 w16 K) (∃v6,w.cell? (a1.add 3)=some (vs v6)∧∃v7,w.cell? (a2.add 3)=some (vs v7)∧∃a5,r1=some a5∧zT w (a5.add 1)∧∀w17,w17=w.setCell (a5.add 1) (vb (!(decide (v6=v7))))→m_B_j7 who1 p1 a1 a2 w17 K)
def m_B_j9 (r1:Option Addr) (who1:Int) (p1 a1 a2:Addr) (x7:Bool) (w:World) (K:Int→Int→Int→ByteArray→Bool→WP):Prop :=Br x7 (m_B_j10 r1 who1 p1 a1 a2 true w K) (∃v8,w.cell? (a1.add 2)=some (vu v8)∧∃v9,w.cell? (a2.add 2)=some (vu v9)∧m_B_j10 r1 who1 p1 a1 a2 (v8 != v9) w K)
def m_B_j8 (r1:Option Addr) (who1:Int) (p1 a1 a2:Addr) (x6:Bool) (w:World) (K:Int→Int→Int→ByteArray→Bool→WP):Prop :=Br x6 (m_B_j9 r1 who1 p1 a1 a2 true w K) (∃v10,w.cell? (a2.add 1)=some (vi v10)∧m_B_j9 r1 who1 p1 a1 a2 (v10 != 1) w K)
def m_B_j6 (r1:Option Addr) (who1:Int) (p1 a1 a2:Addr) (w:World) (K:Int→Int→Int→ByteArray→Bool→WP):Prop :=∃a3,r1=some a3∧∃v5,w.cell? (a3.add 1)=some (vb v5)∧Br v5 (m_B_j8 r1 who1 p1 a1 a2 true w K) (∃v11,w.cell? (a1.add 1)=some (vi v11)∧m_B_j8 r1 who1 p1 a1 a2 (v11 != 0) w K)
def m_B_j5 (r1:Option Addr) (who1:Int) (p1:Addr) (r3:Int) (x5:Bool) (w:World) (K:Int→Int→Int→ByteArray→Bool→WP):Prop :=Br x5 (Calls prog 88 #[(vp r1),(vi r3),(vi 4)] w (fun e w11=>∃bO bP cW cX bG fZ gA,e=.returned (Ae bO bP cW cX bG fZ gA)∧∀p2 w12,New w11 (.cells #[(vi 0),(vi 0),(vi 0),(vu 0),ve,(vi 0),(vi 0)] 103) p2 w12→(∀j,j<7→zT w12 (p2.add j))∧∀w13,w13=storeRow w12 p2 (Ac bO bP cW cX bG fZ gA)→∃C1:WP,C1 w13.drew∧∀w18,w18=w13.drew→∃v12,(∀w',C1 w'→w'.cell? (p2.add 5)=some (vi v12))∧∃v13,(∀w',C1 w'→w'.cell? (p2.add 6)=some (vi v13))∧(Calls prog 86 #[(vp r1),(vi v12)] w18 (fun e w19=>∃bH bI bM bJ bN,e=.returned (Af bH bI bM bJ bN)∧C1 w19∧(Calls prog 86 #[(vp r1),(vi v13)] w19 (fun e w20=>∃cT cU dU cV dV,e=.returned (Af cT cU dU cV dV)∧(∀p3 w21,New w20 (.cells #[(vi 0),(vi 0),(vu 0),ve,(vb false)] 56) p3 w21→C1 w21∧∀p4 w22,New w21 (.cells #[(vi 0),(vi 0),(vu 0),ve,(vb false)] 56) p4 w22→C1 w22∧(∀j,j<5→zT w22 (p3.add j))∧∀w23,w23=storeRow w22 p3 (Ab bH bI bM bJ bN)→(∀j,j<5→zT w23 (p4.add j))∧∀w24,w24=storeRow w23 p4 (Ab cT cU dU cV dV)→m_B_j6 r1 who1 p1 p3 p4 w24 K)∧(∀p5 w25,New w20 (.cells #[(vi 0),(vi 0),(vu 0),ve,(vb false)] 56) p5 w25→C1 w25∧∀p6 w26,New w25 (.cells #[(vi 0),(vi 0),(vu 0),ve,(vb false)] 56) p6 w26→C1 w26∧(∀j,j<5→zT w26 (p6.add j))∧∀w27,w27=storeRow w26 p6 (Ab bH bI bM bJ bN)→(∀j,j<5→zT w27 (p5.add j))∧∀w28,w28=storeRow w27 p5 (Ab cT cU dU cV dV)→m_B_j6 r1 who1 p1 p6 p5 w28 K)))∧(∀p7 w29,New w19 (.cells #[(vi 0),(vi 0),(vu 0),ve,(vb false)] 56) p7 w29→C1 w29∧(Calls prog 86 #[(vp r1),(vi v13)] w29 (fun e w30=>∃dW dX fU dY fV,e=.returned (Af dW dX fU dY fV)∧∀p8 w31,New w30 (.cells #[(vi 0),(vi 0),(vu 0),ve,(vb false)] 56) p8 w31→C1 w31∧(∀j,j<5→zT w31 (p7.add j))∧∀w32,w32=storeRow w31 p7 (Ab bH bI bM bJ bN)→(∀j,j<5→zT w32 (p8.add j))∧∀w33,w33=storeRow w32 p8 (Ab dW dX fU dY fV)→m_B_j6 r1 who1 p1 p7 p8 w33 K))∧(∀p9 w34,New w29 (.cells #[(vi 0),(vi 0),(vu 0),ve,(vb false)] 56) p9 w34→C1 w34∧Calls prog 86 #[(vp r1),(vi v13)] w34 (fun e w35=>∃eI eJ kY eK kZ,e=.returned (Af eI eJ kY eK kZ)∧(∀j,j<5→zT w35 (p7.add j))∧∀w36,w36=storeRow w35 p7 (Ab bH bI bM bJ bN)→(∀j,j<5→zT w36 (p9.add j))∧∀w37,w37=storeRow w36 p9 (Ab eI eJ kY eK kZ)→m_B_j6 r1 who1 p1 p7 p9 w37 K)))∧(∀p10 w38,New w19 (.cells #[(vi 0),(vi 0),(vu 0),ve,(vb false)] 56) p10 w38→C1 w38∧(Calls prog 86 #[(vp r1),(vi v13)] w38 (fun e w39=>∃dZ eA lA eB lB,e=.returned (Af dZ eA lA eB lB)∧∀p11 w40,New w39 (.cells #[(vi 0),(vi 0),(vu 0),ve,(vb false)] 56) p11 w40→C1 w40∧(∀j,j<5→zT w40 (p11.add j))∧∀w41,w41=storeRow w40 p11 (Ab bH bI bM bJ bN)→(∀j,j<5→zT w41 (p10.add j))∧∀w42,w42=storeRow w41 p10 (Ab dZ eA lA eB lB)→m_B_j6 r1 who1 p1 p11 p10 w42 K))∧(∀p12 w43,New w38 (.cells #[(vi 0),(vi 0),(vu 0),ve,(vb false)] 56) p12 w43→C1 w43∧Calls prog 86 #[(vp r1),(vi v13)] w43 (fun e w44=>∃eL eM lC eN lD,e=.returned (Af eL eM lC eN lD)∧(∀j,j<5→zT w44 (p12.add j))∧∀w45,w45=storeRow w44 p12 (Ab bH bI bM bJ bN)→(∀j,j<5→zT w45 (p10.add j))∧∀w46,w46=storeRow w45 p10 (Ab eL eM lC eN lD)→m_B_j6 r1 who1 p1 p12 p10 w46 K)))))∧(∀p13 w47,New w18 (.cells #[(vi 0),(vi 0),(vu 0),ve,(vb false)] 56) p13 w47→C1 w47∧(Calls prog 86 #[(vp r1),(vi v12)] w47 (fun e w48=>∃eC eD iH eE iI,e=.returned (Af eC eD iH eE iI)∧C1 w48∧(Calls prog 86 #[(vp r1),(vi v13)] w48 (fun e w49=>∃fF fG lE fH lF,e=.returned (Af fF fG lE fH lF)∧∀p14 w50,New w49 (.cells #[(vi 0),(vi 0),(vu 0),ve,(vb false)] 56) p14 w50→C1 w50∧(∀j,j<5→zT w50 (p13.add j))∧∀w51,w51=storeRow w50 p13 (Ab eC eD iH eE iI)→(∀j,j<5→zT w51 (p14.add j))∧∀w52,w52=storeRow w51 p14 (Ab fF fG lE fH lF)→m_B_j6 r1 who1 p1 p13 p14 w52 K))∧(∀p15 w53,New w48 (.cells #[(vi 0),(vi 0),(vu 0),ve,(vb false)] 56) p15 w53→C1 w53∧Calls prog 86 #[(vp r1),(vi v13)] w53 (fun e w54=>∃fI fJ lG fK lH,e=.returned (Af fI fJ lG fK lH)∧(∀j,j<5→zT w54 (p13.add j))∧∀w55,w55=storeRow w54 p13 (Ab eC eD iH eE iI)→(∀j,j<5→zT w55 (p15.add j))∧∀w56,w56=storeRow w55 p15 (Ab fI fJ lG fK lH)→m_B_j6 r1 who1 p1 p13 p15 w56 K))))∧(∀p16 w57,New w47 (.cells #[(vi 0),(vi 0),(vu 0),ve,(vb false)] 56) p16 w57→C1 w57∧Calls prog 86 #[(vp r1),(vi v12)] w57 (fun e w58=>∃eO eP lI eQ lJ,e=.returned (Af eO eP lI eQ lJ)∧C1 w58∧Calls prog 86 #[(vp r1),(vi v13)] w58 (fun e w59=>∃fL fM lK fN lL,e=.returned (Af fL fM lK fN lL)∧(∀j,j<5→zT w59 (p13.add j))∧∀w60,w60=storeRow w59 p13 (Ab eO eP lI eQ lJ)→(∀j,j<5→zT w60 (p16.add j))∧∀w61,w61=storeRow w60 p16 (Ab fL fM lK fN lL)→m_B_j6 r1 who1 p1 p13 p16 w61 K))))∧(∀p17 w62,New w18 (.cells #[(vi 0),(vi 0),(vu 0),ve,(vb false)] 56) p17 w62→C1 w62∧(Calls prog 86 #[(vp r1),(vi v12)] w62 (fun e w63=>∃eF eG iJ eH iK,e=.returned (Af eF eG iJ eH iK)∧C1 w63∧(Calls prog 86 #[(vp r1),(vi v13)] w63 (fun e w64=>∃fO fP lM fQ lN,e=.returned (Af fO fP lM fQ lN)∧∀p18 w65,New w64 (.cells #[(vi 0),(vi 0),(vu 0),ve,(vb false)] 56) p18 w65→C1 w65∧(∀j,j<5→zT w65 (p18.add j))∧∀w66,w66=storeRow w65 p18 (Ab eF eG iJ eH iK)→(∀j,j<5→zT w66 (p17.add j))∧∀w67,w67=storeRow w66 p17 (Ab fO fP lM fQ lN)→m_B_j6 r1 who1 p1 p18 p17 w67 K))∧(∀p19 w68,New w63 (.cells #[(vi 0),(vi 0),(vu 0),ve,(vb false)] 56) p19 w68→C1 w68∧Calls prog 86 #[(vp r1),(vi v13)] w68 (fun e w69=>∃eR eS lO eT lP,e=.returned (Af eR eS lO eT lP)∧(∀j,j<5→zT w69 (p19.add j))∧∀w70,w70=storeRow w69 p19 (Ab eF eG iJ eH iK)→(∀j,j<5→zT w70 (p17.add j))∧∀w71,w71=storeRow w70 p17 (Ab eR eS lO eT lP)→m_B_j6 r1 who1 p1 p19 p17 w71 K))))∧(∀p20 w72,New w62 (.cells #[(vi 0),(vi 0),(vu 0),ve,(vb false)] 56) p20 w72→C1 w72∧Calls prog 86 #[(vp r1),(vi v12)] w72 (fun e w73=>∃eU eV lQ eW lR,e=.returned (Af eU eV lQ eW lR)∧C1 w73∧Calls prog 86 #[(vp r1),(vi v13)] w73 (fun e w74=>∃fR fS lS fT lT,e=.returned (Af fR fS lS fT lT)∧(∀j,j<5→zT w74 (p20.add j))∧∀w75,w75=storeRow w74 p20 (Ab eU eV lQ eW lR)→(∀j,j<5→zT w75 (p17.add j))∧∀w76,w76=storeRow w75 p17 (Ab fR fS lS fT lT)→m_B_j6 r1 who1 p1 p20 p17 w76 K)))))) (∃a6,r1=some a6∧zT w (a6.add 1)∧∀w77,w77=w.setCell (a6.add 1) (vb true)→(∀j,j<5→zT w77 (p1.add j))∧∀w78,w78=storeRow w77 p1 (Ah 0 0 0 false)→∃bZ cA dK cB dL,Row w78 p1 (Ab bZ cA dK cB dL)∧K bZ cA dK cB dL w78)
def m_B_j4 (r1:Option Addr) (who1 body1:Int) (p1:Addr) (r2:ByteArray) (r3:Int) (x4:Bool) (w:World) (K:Int→Int→Int→ByteArray→Bool→WP):Prop :=Br x4 (Calls prog 91 #[(vp r1),(vi body1)] w (fun e w9=>∃r6 r7,e=.returned (.tuple #[(vu r6),(vs r7)])∧(∀j,j<5→zT w9 (p1.add j))∧∀w10,w10=storeRow w9 p1 (Ab 2 who1 r6 r7 false)→∃cE cF dP cG dQ,Row w10 p1 (Ab cE cF dP cG dQ)∧K cE cF dP cG dQ w10)) (Br (decide (r2=(⟨#[114,101,115,111,108,118,101]⟩:ByteArray))) (m_B_j5 r1 who1 p1 r3 (decide (who1≤1)) w K) (m_B_j5 r1 who1 p1 r3 false w K))
def m_B_j3 (r1:Option Addr) (who1 body1:Int) (p1:Addr) (r2:ByteArray) (r3:Int) (x3:Bool) (w:World) (K:Int→Int→Int→ByteArray→Bool→WP):Prop :=Br x3 (Calls prog 91 #[(vp r1),(vi r3)] w (fun e w7=>∃r4 r5,e=.returned (.tuple #[(vu r4),(vs r5)])∧(∀j,j<5→zT w7 (p1.add j))∧∀w8,w8=storeRow w7 p1 (Ab 6 0 r4 r5 false)→∃aU aV cC aW cD,Row w8 p1 (Ab aU aV cC aW cD)∧K aU aV cC aW cD w8)) (Br (decide (r2=(⟨#[100,101,97,108]⟩:ByteArray))) (m_B_j4 r1 who1 body1 p1 r2 r3 (decide (who1≤1)) w K) (m_B_j4 r1 who1 body1 p1 r2 r3 false w K))
def m_B_j2 (r1:Option Addr) (who1 body1:Int) (p1:Addr) (r2:ByteArray) (r3:Int) (x2:Bool) (w:World) (K:Int→Int→Int→ByteArray→Bool→WP):Prop :=Br x2 (Calls prog 88 #[(vp r1),(vi r3),(vi 2)] w (fun e w5=>∃bE bF bK aR aZ dB dC,e=.returned (Ae bE bF bK aR aZ dB dC)∧(∀j,j<5→zT w5 (p1.add j))∧∀w6,w6=storeRow w5 p1 (Ah 5 0 aR false)→∃aO aP cJ aQ cK,Row w6 p1 (Ab aO aP cJ aQ cK)∧K aO aP cJ aQ cK w6)) (Br (decide (r2=(⟨#[105,110,115,116,101,97,100]⟩:ByteArray))) (m_B_j3 r1 who1 body1 p1 r2 r3 (who1 == 2) w K) (m_B_j3 r1 who1 body1 p1 r2 r3 false w K))
def m_B_j1 (r1:Option Addr) (who1 body1:Int) (p1:Addr) (r2:ByteArray) (r3:Int) (x1:Bool) (w:World) (K:Int→Int→Int→ByteArray→Bool→WP):Prop :=Br x1 (Calls prog 88 #[(vp r1),(vi r3),(vi 2)] w (fun e w3=>∃aE aF aG aD aH aX aY,e=.returned (Ae aE aF aG aD aH aX aY)∧(∀j,j<5→zT w3 (p1.add j))∧∀w4,w4=storeRow w3 p1 (Ah 3 0 aD false)→∃aA aB cH aC cI,Row w4 p1 (Ab aA aB cH aC cI)∧K aA aB cH aC cI w4)) (Br (decide (r2=(⟨#[97,98,111,114,116,101,100]⟩:ByteArray))) (m_B_j2 r1 who1 body1 p1 r2 r3 (who1 == 2) w K) (m_B_j2 r1 who1 body1 p1 r2 r3 false w K))
def m_B (r1:Option Addr) (who1 body1:Int) (w:World) (K:Int→Int→Int→ByteArray→Bool→WP):Prop :=∀p1 w1,New w (.cells #[(vi 0),(vi 0),(vu 0),ve,(vb false)] 56) p1 w1→Calls prog 87 #[(vp r1),(vi body1)] w1 (fun e w2=>∃r2 r3,e=.returned (.tuple #[(vs r2),(vi r3)])∧Br (decide (r2=(⟨#[97,98,111,114,116]⟩:ByteArray))) (m_B_j1 r1 who1 body1 p1 r2 r3 (who1 == 0) w2 K) (m_B_j1 r1 who1 body1 p1 r2 r3 false w2 K))
theorem w_B (r1 who1 body1 w K) (h:m_B r1 who1 body1 w K):
  Calls prog 85 #[(vp r1),(vi who1),(vi body1)] w (fun e w'=>∃hI hJ pM hK pN,e=.returned (Af hI hJ pM hK pN)∧K hI hJ pM hK pN w'):=by
 refine cw (args:=[(vp r1),(vi who1),(vi body1)]) func85 ntmps85 (eg (sn (O:=(.cells #[(vi 0),(vi 0),(vu 0),ve,(vb false)] 56)) (zI (zeroValue56 _) rfl) ?_))
 intro p1 w1 hn55
 have h:=h p1 w1 hn55
 refine ln (eg (qb (sc call87 (h.mono fun e w2 ⟨r2,r3,k,h⟩=>⟨_,k,?_⟩))))
 refine q (qd (ln (zB (zL (qE (fun ρ w=>∃x1,Has ρ [(0,(vp r1)),(1,(vi who1)),(2,(vi body1)),(6,(vp (some p1))),(7,(vs r2)),(8,(vi r3)),(22,(vb x1))]∧m_B_j1 r1 who1 body1 p1 r2 r3 x1 w K) ?_ ?_)))))
 rintro ρ w ⟨x1,hH,h⟩
 refine zQ hH (cbr h ?_ ?_)<;>intro h
 refine eg (qb (sc call88 (h.mono fun e w3 ⟨aE,aF,aG,aD,aH,aX,aY,k,h⟩=>⟨_,k,?_⟩)))
 refine qb (sro (sizeOf56 _) h fun w4 h=>ln (er (yC (vA ?_))))
 obtain ⟨aA,aB,cH,aC,cI,hv1,h⟩:=h
 refine gg1 results85 (rva (isAgg56 _) (sizeOf56 _) hv1) ⟨aA,aB,cH,aC,cI,rfl,h⟩
 refine qE (fun ρ w=>∃x2,Has ρ [(0,(vp r1)),(1,(vi who1)),(2,(vi body1)),(6,(vp (some p1))),(7,(vs r2)),(8,(vi r3)),(34,(vb x2))]∧m_B_j2 r1 who1 body1 p1 r2 r3 x2 w K) ?_ ?_
 rintro ρ w ⟨x2,hH,h⟩
 refine zQ hH (cbr h ?_ ?_)<;>intro h
 refine eg (qb (sc call88 (h.mono fun e w5 ⟨bE,bF,bK,aR,aZ,dB,dC,k,h⟩=>⟨_,k,?_⟩)))
 refine qb (sro (sizeOf56 _) h fun w6 h=>ln (er (yC (vA ?_))))
 obtain ⟨aO,aP,cJ,aQ,cK,hv2,h⟩:=h
 refine gg1 results85 (rva (isAgg56 _) (sizeOf56 _) hv2) ⟨aO,aP,cJ,aQ,cK,rfl,h⟩
 refine qE (fun ρ w=>∃x3,Has ρ [(0,(vp r1)),(1,(vi who1)),(2,(vi body1)),(6,(vp (some p1))),(7,(vs r2)),(8,(vi r3)),(46,(vb x3))]∧m_B_j3 r1 who1 body1 p1 r2 r3 x3 w K) ?_ ?_
 rintro ρ w ⟨x3,hH,h⟩
 refine zQ hH (cbr h ?_ ?_)<;>intro h
 refine eg (qb (sc call91 (h.mono fun e w7 ⟨r4,r5,k,h⟩=>⟨_,k,?_⟩)))
 refine q (qd (ln (eg (qc (sro (sizeOf56 _) h fun w8 h=>ln (er (yC (vA ?_))))))))
 obtain ⟨aU,aV,cC,aW,cD,hv3,h⟩:=h
 refine gg1 results85 (rva (isAgg56 _) (sizeOf56 _) hv3) ⟨aU,aV,cC,aW,cD,rfl,h⟩
 refine qE (fun ρ w=>∃x4,Has ρ [(0,(vp r1)),(1,(vi who1)),(2,(vi body1)),(6,(vp (some p1))),(7,(vs r2)),(8,(vi r3)),(62,(vb x4))]∧m_B_j4 r1 who1 body1 p1 r2 r3 x4 w K) ?_ ?_
 rintro ρ w ⟨x4,hH,h⟩
 refine zQ hH (cbr h ?_ ?_)<;>intro h
 refine eg (qb (sc call91 (h.mono fun e w9 ⟨r6,r7,k,h⟩=>⟨_,k,?_⟩)))
 refine q (qd (ln (eg (qc (q (sro (sizeOf56 _) h fun w10 h=>ln (er (yC (vA ?_)))))))))
 obtain ⟨cE,cF,dP,cG,dQ,hv4,h⟩:=h
 refine gg1 results85 (rva (isAgg56 _) (sizeOf56 _) hv4) ⟨cE,cF,dP,cG,dQ,rfl,h⟩
 refine qE (fun ρ w=>∃x5,Has ρ [(0,(vp r1)),(1,(vi who1)),(6,(vp (some p1))),(8,(vi r3)),(79,(vb x5))]∧m_B_j5 r1 who1 p1 r3 x5 w K) ?_ ?_
 rintro ρ w ⟨x5,hH,h⟩
 refine zQ hH (cbr h ?_ ?_)<;>intro h
 refine eg (qb (sc call88 (h.mono fun e w11 ⟨bO,bP,cW,cX,bG,fZ,gA,k,h⟩=>⟨_,k,?_⟩)))
 refine nw1 h (zI (zeroValue103 _) rfl) fun p2 w12 h=>sro (sizeOf103 _) h fun w13 h=>ln (qE (fun ρ w=>∃a1 a2:Addr,Has ρ [(0,(vp r1)),(1,(vi who1)),(6,(vp (some p1))),(14,(vp (some a1))),(15,(vp (some a2)))]∧m_B_j6 r1 who1 p1 a1 a2 w K) ?_ ?_)
 rintro ρ w ⟨a1,a2,hH,h⟩
 refine zQ hH (qE (fun ρ w=>Has ρ [(1,(vi who1)),(6,(vp (some p1))),(14,(vp (some a1))),(15,(vp (some a2)))]∧m_B_j7 who1 p1 a1 a2 w K) ?_ ?_)
 rintro ρ w ⟨hH,h⟩
 refine zQ hH (eg (qb (ql (isAgg26 _) h fun v1 h=>q (ql (isAgg9 _) h fun v2 h=>q (ql (isAgg4 _) h fun v3 h=>q ?_)))))
 obtain ⟨hg1,h⟩|⟨hg1,h⟩:=h.br
 refine sj2 135 hg1 (q2 (vb true) (xT hg1) (q (sro (sizeOf56 _) h fun w14 h=>ln (er (yC (vA ?_))))))
 obtain ⟨bT,bU,dD,bV,dE,hv5,h⟩:=h
 refine gg1 results85 (rva (isAgg56 _) (sizeOf56 _) hv5) ⟨bT,bU,dD,bV,dE,rfl,h⟩
 refine qk 135 hg1 ?_
 obtain ⟨v4,hv7,h⟩:=h
 refine q4 135 hg1 (xl (isAgg4 _) hv7) (q2 (vb v4) (xF hg1) (q (sro (sizeOf56 _) h fun w15 h=>ln (er (yC (vA ?_))))))
 obtain ⟨bW,bX,dI,bY,dJ,hv6,h⟩:=h
 refine gg1 results85 (rva (isAgg56 _) (sizeOf56 _) hv6) ⟨bW,bX,dI,bY,dJ,rfl,h⟩
 refine rg (qb (qm h fun a3 h=>q (ql (isAgg4 _) h fun v5 h=>q (zK 4 (fun ρ w=>∃x6,Has ρ [(1,(vi who1)),(6,(vp (some p1))),(14,(vp (some a1))),(15,(vp (some a2))),(97,(vp r1)),(106,(vb x6))]∧m_B_j8 r1 who1 p1 a1 a2 x6 w K) ?_ ?_))))
 rintro ρ w ⟨x6,hH,h⟩
 refine zP hH (q (zK 4 (fun ρ w=>∃x7,Has ρ [(1,(vi who1)),(6,(vp (some p1))),(14,(vp (some a1))),(15,(vp (some a2))),(97,(vp r1)),(111,(vb x7))]∧m_B_j9 r1 who1 p1 a1 a2 x7 w K) ?_ ?_))
 rintro ρ w ⟨x7,hH,h⟩
 refine zP hH (q (zK 6 (fun ρ w=>∃x8,Has ρ [(1,(vi who1)),(6,(vp (some p1))),(14,(vp (some a1))),(15,(vp (some a2))),(97,(vp r1)),(118,(vb x8))]∧m_B_j10 r1 who1 p1 a1 a2 x8 w K) ?_ ?_))
 rintro ρ w ⟨x8,hH,h⟩
 refine zP hH (q ?_)
 obtain ⟨hg2,h⟩|⟨hg2,h⟩:=h.br
 refine sj5 119 hg2 (q2 (vb true) (xT hg2) (qm h fun a4 h=>q (st1 (sizeOf4 _) h fun w16 h=>ln ⟨hm,h⟩)))
 refine qk 119 hg2 ?_
 obtain ⟨v6,hv12,h⟩:=h
 refine q4 119 hg2 (xl (isAgg9 _) hv12) (qk 119 hg2 ?_)
 obtain ⟨v7,hv11,h⟩:=h
 refine q4 119 hg2 (xl (isAgg9 _) hv11) (stq (v:=(vb (!(decide (v6=v7))))) (wy 119 hg2) (uO (by kernel_rfl) (by kernel_rfl)) (q2 (vb (!(decide (v6=v7)))) (xF hg2) (qm h fun a5 h=>q (st1 (sizeOf4 _) h fun w17 h=>ln ⟨hm,h⟩))))
 obtain ⟨hg3,h⟩|⟨hg3,h⟩:=h.br
 refine sj5 112 hg3 (q2 (vb true) (xT hg3) (zC ⟨true,hm,h⟩))
 refine qk 112 hg3 ?_
 obtain ⟨v8,hv14,h⟩:=h
 refine q4 112 hg3 (xl (isAgg26 _) hv14) (qk 112 hg3 ?_)
 obtain ⟨v9,hv13,h⟩:=h
 refine q4 112 hg3 (xl (isAgg26 _) hv13) (qk 112 hg3 (q2 (vb (v8 != v9)) (xF hg3) (zC ⟨(v8 != v9),hm,h⟩)))
 obtain ⟨hg4,h⟩|⟨hg4,h⟩:=h.br
 refine sj3 107 hg4 (q2 (vb true) (xT hg4) (zC ⟨true,hm,h⟩))
 refine qk 107 hg4 ?_
 obtain ⟨v10,hv15,h⟩:=h
 refine q4 107 hg4 (xl (isAgg3 _) hv15) (qk 107 hg4 (q2 (vb (v10 != 1)) (xF hg4) (zC ⟨(v10 != 1),hm,h⟩)))
 obtain ⟨hg5,h⟩|⟨hg5,h⟩:=h.br
 refine sj3 102 hg5 (q2 (vb true) (xT hg5) (zC ⟨true,hm,h⟩))
 refine qk 102 hg5 ?_
 obtain ⟨v11,hv16,h⟩:=h
 refine q4 102 hg5 (xl (isAgg3 _) hv16) (qk 102 hg5 (q2 (vb (v11 != 0)) (xF hg5) (zC ⟨(v11 != 0),hm,h⟩)))
 obtain ⟨C1,hC,h⟩:=h
 refine dr1 C1 [3,7,8,9,10,11] [7,10,11] hC h fun w18 h=>qx 0 (vp r1) Kp0 (qx 1 (vp (some (p2.add 5))) Kp1 (qg 2 ?_))
 obtain ⟨v12,hv19,h⟩:=h
 refine sy Kp2 (fun _ k=>xl (isAgg23 _) (hv19 _ k)) (qx 4 (vp r1) Kp4 (qx 5 (vp (some (p2.add 6))) Kp5 (qg 6 ?_)))
 obtain ⟨v13,hv18,h⟩:=h
 refine sy Kp6 (fun _ k=>xl (isAgg23 _) (hv18 _ k)) (lgo3 (k:=3) (k':=8) (k'':=9) (by kernel_rfl) ?_ ?_ ?_)
 have h:=h.1
 refine slc Kp3 call86 (h.mono ?_)
 rintro e w19 ⟨bH,bI,bM,bJ,bN,rfl,hC,h⟩
 refine ⟨_,rfl,.inr hC,?_⟩
 refine lgo3 (k:=7) (k':=8) (k'':=9) (by kernel_rfl) ?_ ?_ ?_
 have h:=h.1
 refine slc Kp7 call86 (h.mono ?_)
 rintro e w20 ⟨cT,cU,dU,cV,dV,rfl,h⟩
 refine ⟨_,rfl,.inl (by kernel_rfl),?_⟩
 refine jRE (k:=8) (k':=9) (by kernel_rfl) ?_ ?_
 have h:=h.1
 refine qL (O:=(.cells #[(vi 0),(vi 0),(vu 0),ve,(vb false)] 56)) (fun p=>.pointer (some p)) Kp8 (zJ rfl) (by kernel_rfl) (zI (zeroValue56 _) rfl) ?_
 intro p3 w21 hn13
 have h:=h p3 w21 hn13
 refine ⟨.inr h.1,?_⟩
 have h:=h.2
 refine lg 9 (qL (O:=(.cells #[(vi 0),(vi 0),(vu 0),ve,(vb false)] 56)) (fun p=>.pointer (some p)) Kp9 (zJ rfl) (by kernel_rfl) (zI (zeroValue56 _) rfl) ?_)
 intro p4 w22 hn12
 have h:=h p4 w22 hn12
 refine ⟨.inr h.1,?_⟩
 have h:=h.2
 refine lg 10 (slo (zG (S8 (zA (zA zF)))) (sizeOf56 _) h fun w23 h=>⟨.inl (by kernel_rfl),?_⟩)
 refine lg 11 (slo (zG (S8 (zA (zA (zA zF))))) (sizeOf56 _) h fun w24 h=>⟨.inl (by kernel_rfl),?_⟩)
 refine wn (zN ⟨p3,p4,hm,h⟩)
 have h:=h.2
 refine qL (O:=(.cells #[(vi 0),(vi 0),(vu 0),ve,(vb false)] 56)) (fun p=>.pointer (some p)) Kp9 (zJ rfl) (by kernel_rfl) (zI (zeroValue56 _) rfl) ?_
 intro p5 w25 hn17
 have h:=h p5 w25 hn17
 refine ⟨.inr h.1,?_⟩
 have h:=h.2
 refine lg 8 (qL (O:=(.cells #[(vi 0),(vi 0),(vu 0),ve,(vb false)] 56)) (fun p=>.pointer (some p)) Kp8 (zJ rfl) (by kernel_rfl) (zI (zeroValue56 _) rfl) ?_)
 intro p6 w26 hn16
 have h:=h p6 w26 hn16
 refine ⟨.inr h.1,?_⟩
 have h:=h.2
 refine lg 10 (slo (zG (S8 (zA (zA zF)))) (sizeOf56 _) h fun w27 h=>⟨.inl (by kernel_rfl),?_⟩)
 refine lg 11 (slo (zG (S8 (zA (zA (zA zF))))) (sizeOf56 _) h fun w28 h=>⟨.inl (by kernel_rfl),?_⟩)
 refine wn (zN ⟨p6,p5,hm,h⟩)
 have h:=h.2.1
 refine qL (O:=(.cells #[(vi 0),(vi 0),(vu 0),ve,(vb false)] 56)) (fun p=>.pointer (some p)) Kp8 (zJ rfl) (by kernel_rfl) (zI (zeroValue56 _) rfl) ?_
 intro p7 w29 hn24
 have h:=h p7 w29 hn24
 refine ⟨.inr h.1,?_⟩
 have h:=h.2
 refine jRE (k:=7) (k':=9) (by kernel_rfl) ?_ ?_
 have h:=h.1
 refine slc Kp7 call86 (h.mono ?_)
 rintro e w30 ⟨dW,dX,fU,dY,fV,rfl,h⟩
 refine ⟨_,rfl,.inl (by kernel_rfl),?_⟩
 refine lg 9 (qL (O:=(.cells #[(vi 0),(vi 0),(vu 0),ve,(vb false)] 56)) (fun p=>.pointer (some p)) Kp9 (zJ rfl) (by kernel_rfl) (zI (zeroValue56 _) rfl) ?_)
 intro p8 w31 hn20
 have h:=h p8 w31 hn20
 refine ⟨.inr h.1,?_⟩
 have h:=h.2
 refine lg 10 (slo (zG (S8 (zA (zA zF)))) (sizeOf56 _) h fun w32 h=>⟨.inl (by kernel_rfl),?_⟩)
 refine lg 11 (slo (zG (S8 (zA (zA (zA zF))))) (sizeOf56 _) h fun w33 h=>⟨.inl (by kernel_rfl),?_⟩)
 refine wn (zN ⟨p7,p8,hm,h⟩)
 have h:=h.2
 refine qL (O:=(.cells #[(vi 0),(vi 0),(vu 0),ve,(vb false)] 56)) (fun p=>.pointer (some p)) Kp9 (zJ rfl) (by kernel_rfl) (zI (zeroValue56 _) rfl) ?_
 intro p9 w34 hn23
 have h:=h p9 w34 hn23
 refine ⟨.inr h.1,?_⟩
 have h:=h.2
 refine lg 7 (slc Kp7 call86 (h.mono ?_))
 rintro e w35 ⟨eI,eJ,kY,eK,kZ,rfl,h⟩
 refine ⟨_,rfl,.inl (by kernel_rfl),?_⟩
 refine lg 10 (slo (zG (S8 (zA (zA zF)))) (sizeOf56 _) h fun w36 h=>⟨.inl (by kernel_rfl),?_⟩)
 refine lg 11 (slo (zG (S8 (zA (zA (zA zF))))) (sizeOf56 _) h fun w37 h=>⟨.inl (by kernel_rfl),?_⟩)
 refine wn (zN ⟨p7,p9,hm,h⟩)
 have h:=h.2.2
 refine qL (O:=(.cells #[(vi 0),(vi 0),(vu 0),ve,(vb false)] 56)) (fun p=>.pointer (some p)) Kp9 (zJ rfl) (by kernel_rfl) (zI (zeroValue56 _) rfl) ?_
 intro p10 w38 hn31
 have h:=h p10 w38 hn31
 refine ⟨.inr h.1,?_⟩
 have h:=h.2
 refine jRE (k:=7) (k':=8) (by kernel_rfl) ?_ ?_
 have h:=h.1
 refine slc Kp7 call86 (h.mono ?_)
 rintro e w39 ⟨dZ,eA,lA,eB,lB,rfl,h⟩
 refine ⟨_,rfl,.inl (by kernel_rfl),?_⟩
 refine lg 8 (qL (O:=(.cells #[(vi 0),(vi 0),(vu 0),ve,(vb false)] 56)) (fun p=>.pointer (some p)) Kp8 (zJ rfl) (by kernel_rfl) (zI (zeroValue56 _) rfl) ?_)
 intro p11 w40 hn27
 have h:=h p11 w40 hn27
 refine ⟨.inr h.1,?_⟩
 have h:=h.2
 refine lg 10 (slo (zG (S8 (zA (zA zF)))) (sizeOf56 _) h fun w41 h=>⟨.inl (by kernel_rfl),?_⟩)
 refine lg 11 (slo (zG (S8 (zA (zA (zA zF))))) (sizeOf56 _) h fun w42 h=>⟨.inl (by kernel_rfl),?_⟩)
 refine wn (zN ⟨p11,p10,hm,h⟩)
 have h:=h.2
 refine qL (O:=(.cells #[(vi 0),(vi 0),(vu 0),ve,(vb false)] 56)) (fun p=>.pointer (some p)) Kp8 (zJ rfl) (by kernel_rfl) (zI (zeroValue56 _) rfl) ?_
 intro p12 w43 hn30
 have h:=h p12 w43 hn30
 refine ⟨.inr h.1,?_⟩
 have h:=h.2
 refine lg 7 (slc Kp7 call86 (h.mono ?_))
 rintro e w44 ⟨eL,eM,lC,eN,lD,rfl,h⟩
 refine ⟨_,rfl,.inl (by kernel_rfl),?_⟩
 refine lg 10 (slo (zG (S8 (zA (zA zF)))) (sizeOf56 _) h fun w45 h=>⟨.inl (by kernel_rfl),?_⟩)
 refine lg 11 (slo (zG (S8 (zA (zA (zA zF))))) (sizeOf56 _) h fun w46 h=>⟨.inl (by kernel_rfl),?_⟩)
 refine wn (zN ⟨p12,p10,hm,h⟩)
 have h:=h.2.1
 refine qL (O:=(.cells #[(vi 0),(vi 0),(vu 0),ve,(vb false)] 56)) (fun p=>.pointer (some p)) Kp8 (zJ rfl) (by kernel_rfl) (zI (zeroValue56 _) rfl) ?_
 intro p13 w47 hn41
 have h:=h p13 w47 hn41
 refine ⟨.inr h.1,?_⟩
 have h:=h.2
 refine jRE (k:=3) (k':=9) (by kernel_rfl) ?_ ?_
 have h:=h.1
 refine slc Kp3 call86 (h.mono ?_)
 rintro e w48 ⟨eC,eD,iH,eE,iI,rfl,hC,h⟩
 refine ⟨_,rfl,.inr hC,?_⟩
 refine jRE (k:=7) (k':=9) (by kernel_rfl) ?_ ?_
 have h:=h.1
 refine slc Kp7 call86 (h.mono ?_)
 rintro e w49 ⟨fF,fG,lE,fH,lF,rfl,h⟩
 refine ⟨_,rfl,.inl (by kernel_rfl),?_⟩
 refine lg 9 (qL (O:=(.cells #[(vi 0),(vi 0),(vu 0),ve,(vb false)] 56)) (fun p=>.pointer (some p)) Kp9 (zJ rfl) (by kernel_rfl) (zI (zeroValue56 _) rfl) ?_)
 intro p14 w50 hn34
 have h:=h p14 w50 hn34
 refine ⟨.inr h.1,?_⟩
 have h:=h.2
 refine lg 10 (slo (zG (S8 (zA (zA zF)))) (sizeOf56 _) h fun w51 h=>⟨.inl (by kernel_rfl),?_⟩)
 refine lg 11 (slo (zG (S8 (zA (zA (zA zF))))) (sizeOf56 _) h fun w52 h=>⟨.inl (by kernel_rfl),?_⟩)
 refine wn (zN ⟨p13,p14,hm,h⟩)
 have h:=h.2
 refine qL (O:=(.cells #[(vi 0),(vi 0),(vu 0),ve,(vb false)] 56)) (fun p=>.pointer (some p)) Kp9 (zJ rfl) (by kernel_rfl) (zI (zeroValue56 _) rfl) ?_
 intro p15 w53 hn37
 have h:=h p15 w53 hn37
 refine ⟨.inr h.1,?_⟩
 have h:=h.2
 refine lg 7 (slc Kp7 call86 (h.mono ?_))
 rintro e w54 ⟨fI,fJ,lG,fK,lH,rfl,h⟩
 refine ⟨_,rfl,.inl (by kernel_rfl),?_⟩
 refine lg 10 (slo (zG (S8 (zA (zA zF)))) (sizeOf56 _) h fun w55 h=>⟨.inl (by kernel_rfl),?_⟩)
 refine lg 11 (slo (zG (S8 (zA (zA (zA zF))))) (sizeOf56 _) h fun w56 h=>⟨.inl (by kernel_rfl),?_⟩)
 refine wn (zN ⟨p13,p15,hm,h⟩)
 have h:=h.2
 refine qL (O:=(.cells #[(vi 0),(vi 0),(vu 0),ve,(vb false)] 56)) (fun p=>.pointer (some p)) Kp9 (zJ rfl) (by kernel_rfl) (zI (zeroValue56 _) rfl) ?_
 intro p16 w57 hn40
 have h:=h p16 w57 hn40
 refine ⟨.inr h.1,?_⟩
 have h:=h.2
 refine lg 3 (slc Kp3 call86 (h.mono ?_))
 rintro e w58 ⟨eO,eP,lI,eQ,lJ,rfl,hC,h⟩
 refine ⟨_,rfl,.inr hC,?_⟩
 refine lg 7 (slc Kp7 call86 (h.mono ?_))
 rintro e w59 ⟨fL,fM,lK,fN,lL,rfl,h⟩
 refine ⟨_,rfl,.inl (by kernel_rfl),?_⟩
 refine lg 10 (slo (zG (S8 (zA (zA zF)))) (sizeOf56 _) h fun w60 h=>⟨.inl (by kernel_rfl),?_⟩)
 refine lg 11 (slo (zG (S8 (zA (zA (zA zF))))) (sizeOf56 _) h fun w61 h=>⟨.inl (by kernel_rfl),?_⟩)
 refine wn (zN ⟨p13,p16,hm,h⟩)
 have h:=h.2.2
 refine qL (O:=(.cells #[(vi 0),(vi 0),(vu 0),ve,(vb false)] 56)) (fun p=>.pointer (some p)) Kp9 (zJ rfl) (by kernel_rfl) (zI (zeroValue56 _) rfl) ?_
 intro p17 w62 hn51
 have h:=h p17 w62 hn51
 refine ⟨.inr h.1,?_⟩
 have h:=h.2
 refine jRE (k:=3) (k':=8) (by kernel_rfl) ?_ ?_
 have h:=h.1
 refine slc Kp3 call86 (h.mono ?_)
 rintro e w63 ⟨eF,eG,iJ,eH,iK,rfl,hC,h⟩
 refine ⟨_,rfl,.inr hC,?_⟩
 refine jRE (k:=7) (k':=8) (by kernel_rfl) ?_ ?_
 have h:=h.1
 refine slc Kp7 call86 (h.mono ?_)
 rintro e w64 ⟨fO,fP,lM,fQ,lN,rfl,h⟩
 refine ⟨_,rfl,.inl (by kernel_rfl),?_⟩
 refine lg 8 (qL (O:=(.cells #[(vi 0),(vi 0),(vu 0),ve,(vb false)] 56)) (fun p=>.pointer (some p)) Kp8 (zJ rfl) (by kernel_rfl) (zI (zeroValue56 _) rfl) ?_)
 intro p18 w65 hn44
 have h:=h p18 w65 hn44
 refine ⟨.inr h.1,?_⟩
 have h:=h.2
 refine lg 10 (slo (zG (S8 (zA (zA zF)))) (sizeOf56 _) h fun w66 h=>⟨.inl (by kernel_rfl),?_⟩)
 refine lg 11 (slo (zG (S8 (zA (zA (zA zF))))) (sizeOf56 _) h fun w67 h=>⟨.inl (by kernel_rfl),?_⟩)
 refine wn (zN ⟨p18,p17,hm,h⟩)
 have h:=h.2
 refine qL (O:=(.cells #[(vi 0),(vi 0),(vu 0),ve,(vb false)] 56)) (fun p=>.pointer (some p)) Kp8 (zJ rfl) (by kernel_rfl) (zI (zeroValue56 _) rfl) ?_
 intro p19 w68 hn47
 have h:=h p19 w68 hn47
 refine ⟨.inr h.1,?_⟩
 have h:=h.2
 refine lg 7 (slc Kp7 call86 (h.mono ?_))
 rintro e w69 ⟨eR,eS,lO,eT,lP,rfl,h⟩
 refine ⟨_,rfl,.inl (by kernel_rfl),?_⟩
 refine lg 10 (slo (zG (S8 (zA (zA zF)))) (sizeOf56 _) h fun w70 h=>⟨.inl (by kernel_rfl),?_⟩)
 refine lg 11 (slo (zG (S8 (zA (zA (zA zF))))) (sizeOf56 _) h fun w71 h=>⟨.inl (by kernel_rfl),?_⟩)
 refine wn (zN ⟨p19,p17,hm,h⟩)
 have h:=h.2
 refine qL (O:=(.cells #[(vi 0),(vi 0),(vu 0),ve,(vb false)] 56)) (fun p=>.pointer (some p)) Kp8 (zJ rfl) (by kernel_rfl) (zI (zeroValue56 _) rfl) ?_
 intro p20 w72 hn50
 have h:=h p20 w72 hn50
 refine ⟨.inr h.1,?_⟩
 have h:=h.2
 refine lg 3 (slc Kp3 call86 (h.mono ?_))
 rintro e w73 ⟨eU,eV,lQ,eW,lR,rfl,hC,h⟩
 refine ⟨_,rfl,.inr hC,?_⟩
 refine lg 7 (slc Kp7 call86 (h.mono ?_))
 rintro e w74 ⟨fR,fS,lS,fT,lT,rfl,h⟩
 refine ⟨_,rfl,.inl (by kernel_rfl),?_⟩
 refine lg 10 (slo (zG (S8 (zA (zA zF)))) (sizeOf56 _) h fun w75 h=>⟨.inl (by kernel_rfl),?_⟩)
 refine lg 11 (slo (zG (S8 (zA (zA (zA zF))))) (sizeOf56 _) h fun w76 h=>⟨.inl (by kernel_rfl),?_⟩)
 refine wn (zN ⟨p20,p17,hm,h⟩)
 refine zD (xE (zN (eg (q (qm h fun a6 h=>q (st1 (sizeOf4 _) h fun w77 h=>ln (eg (q (sro (sizeOf56 _) h fun w78 h=>ln (er ?_))))))))))
 obtain ⟨bZ,cA,dK,cB,dL,hv20,h⟩:=h
 refine gg1 results85 (rva (isAgg56 _) (sizeOf56 _) hv20) ⟨bZ,cA,dK,cB,dL,rfl,h⟩
 refine rg (q (q2 (vb (decide (r2=(⟨#[114,101,115,111,108,118,101]⟩:ByteArray)))) (jAO (by kernel_rfl) (by kernel_rfl)) (q ?_)))
 obtain ⟨hg6,h⟩|⟨hg6,h⟩:=h.br
 refine qk 82 hg6 (qk 82 hg6 (q2 (vb (decide (who1≤1))) (xT hg6) (q (ln ⟨(decide (who1≤1)),hm,h⟩))))
 refine sj2 82 hg6 (q2 (vb false) (xF hg6) (q (ln ⟨false,hm,h⟩)))
 refine rg (q (q2 (vb (decide (r2=(⟨#[100,101,97,108]⟩:ByteArray)))) (jAO (by kernel_rfl) (by kernel_rfl)) (q ?_)))
 obtain ⟨hg7,h⟩|⟨hg7,h⟩:=h.br
 refine qk 65 hg7 (qk 65 hg7 (q2 (vb (decide (who1≤1))) (xT hg7) (q (ln ⟨(decide (who1≤1)),hm,h⟩))))
 refine sj2 65 hg7 (q2 (vb false) (xF hg7) (q (ln ⟨false,hm,h⟩)))
 refine rg (q (q2 (vb (decide (r2=(⟨#[105,110,115,116,101,97,100]⟩:ByteArray)))) (jAO (by kernel_rfl) (by kernel_rfl)) (q ?_)))
 obtain ⟨hg8,h⟩|⟨hg8,h⟩:=h.br
 refine qk 49 hg8 (qk 49 hg8 (q2 (vb (who1 == 2)) (xT hg8) (q (ln ⟨(who1 == 2),hm,h⟩))))
 refine sj2 49 hg8 (q2 (vb false) (xF hg8) (q (ln ⟨false,hm,h⟩)))
 refine rg (q (q2 (vb (decide (r2=(⟨#[97,98,111,114,116,101,100]⟩:ByteArray)))) (jAO (by kernel_rfl) (by kernel_rfl)) (q ?_)))
 obtain ⟨hg9,h⟩|⟨hg9,h⟩:=h.br
 refine qk 37 hg9 (qk 37 hg9 (q2 (vb (who1 == 2)) (xT hg9) (q (ln ⟨(who1 == 2),hm,h⟩))))
 refine sj2 37 hg9 (q2 (vb false) (xF hg9) (q (ln ⟨false,hm,h⟩)))
 refine rg (q (q2 (vb (decide (r2=(⟨#[97,98,111,114,116]⟩:ByteArray)))) (jAO (by kernel_rfl) (by kernel_rfl)) (q ?_)))
 obtain ⟨hg10,h⟩|⟨hg10,h⟩:=h.br
 refine qk 25 hg10 (qk 25 hg10 (q2 (vb (who1 == 0)) (xT hg10) (q (ln ⟨(who1 == 0),hm,h⟩))))
 refine sj2 25 hg10 (q2 (vb false) (xF hg10) (q (ln ⟨false,hm,h⟩)))
def m_N_j1 (r1:Option Addr) (p1 p2:Addr) (w:World) (K:Int→Int→Int→ByteArray→Bool→WP):Prop :=∃v2,w.cell? (p2.add 5)=some (vi v2)∧Calls prog 91 #[(vp r1),(vi v2)] w (fun e w5=>∃r3 r4,e=.returned (.tuple #[(vu r3),(vs r4)])∧∃v3,w5.cell? (p2.add 1)=some (vi v3)∧∃v4,w5.cell? p2=some (vi v4)∧(∀j,j<5→zT w5 (p1.add j))∧∀w6,w6=storeRow w5 p1 (Ab 1 v3 r3 r4 (v4 == 9))→∃aA aB cH aC cI,Row w6 p1 (Ab aA aB cH aC cI)∧K aA aB cH aC cI w6)
def m_N_j3 (r1:Option Addr) (p1 p2:Addr) (x2:Bool) (w:World) (K:Int→Int→Int→ByteArray→Bool→WP):Prop :=Br x2 (∃a2,r1=some a2∧zT w (a2.add 1)∧∀w7,w7=w.setCell (a2.add 1) (vb true)→(∀j,j<5→zT w7 (p1.add j))∧∀w8,w8=storeRow w7 p1 (Ah 0 0 0 false)→∃aO aP cJ aQ cK,Row w8 p1 (Ab aO aP cJ aQ cK)∧K aO aP cJ aQ cK w8) (∃v6,w.cell? (p2.add 2)=some (vi v6)∧∃v7,w.cell? (p2.add 1)=some (vi v7)∧Br (v6 != (q6.wrap (1 - v7))) (∃a3,r1=some a3∧zT w (a3.add 1)∧∀w9,w9=w.setCell (a3.add 1) (vb true)→(∀j,j<5→zT w9 (p1.add j))∧∀w10,w10=storeRow w9 p1 (Ah 0 0 0 false)→∃aU aV cC aW cD,Row w10 p1 (Ab aU aV cC aW cD)∧K aU aV cC aW cD w10) (m_N_j1 r1 p1 p2 w K))
def m_N_j2 (r1:Option Addr) (p1 p2:Addr) (x1:Bool) (w:World) (K:Int→Int→Int→ByteArray→Bool→WP):Prop :=Br x1 (m_N_j3 r1 p1 p2 true w K) (∃v8,w.cell? (p2.add 1)=some (vi v8)∧m_N_j3 r1 p1 p2 (decide (v8>1)) w K)
def m_N (r1:Option Addr) (t1:Int) (w:World) (K:Int→Int→Int→ByteArray→Bool→WP):Prop :=∀p1 w1,New w (.cells #[(vi 0),(vi 0),(vu 0),ve,(vb false)] 56) p1 w1→∃a1,r1=some a1∧∃v1,w1.cell? a1=some (vp v1)∧Calls prog 61 #[(vp v1),(vi t1)] w1 (fun e w2=>∃aE aF aG aD aH aX aY r2,e=.returned (.tuple #[(Ae aE aF aG aD aH aX aY),(vb r2)])∧∀p2 w3,New w2 (.cells #[(vi 0),(vi 0),(vi 0),(vu 0),ve,(vi 0),(vi 0)] 103) p2 w3→(∀j,j<7→zT w3 (p2.add j))∧∀w4,w4=storeRow w3 p2 (Ac aE aF aG aD aH aX aY)→∃v5,w4.cell? p2=some (vi v5)∧Br (v5 != 8) (∃v9,w4.cell? p2=some (vi v9)∧m_N_j2 r1 p1 p2 (v9 != 9) w4 K) (m_N_j2 r1 p1 p2 false w4 K))
theorem w_N (r1 t1 w K) (h:m_N r1 t1 w K):
  Calls prog 86 #[(vp r1),(vi t1)] w (fun e w'=>∃bE bF bM aZ bN,e=.returned (Af bE bF bM aZ bN)∧K bE bF bM aZ bN w'):=by
 refine cw (args:=[(vp r1),(vi t1)]) func86 ntmps86 (eg (sn (O:=(.cells #[(vi 0),(vi 0),(vu 0),ve,(vb false)] 56)) (zI (zeroValue56 _) rfl) ?_))
 intro p1 w1 hn8
 have h:=h p1 w1 hn8
 refine ln (eg (q (qm h fun a1 h=>q (ql (isAgg29 _) h fun v1 h=>q (sc call61 (h.mono fun e w2 ⟨aE,aF,aG,aD,aH,aX,aY,r2,k,h⟩=>⟨_,k,?_⟩))))))
 refine qc (nw1 h (zI (zeroValue103 _) rfl) fun p2 w3 h=>sro (sizeOf103 _) h fun w4 h=>q (ln (qE (fun ρ w=>Has ρ [(0,(vp r1)),(4,(vp (some p1))),(5,(vp (some p2)))]∧m_N_j1 r1 p1 p2 w K) ?_ ?_)))
 rintro ρ w ⟨hH,h⟩
 refine zQ hH (eg (qb (ql (isAgg23 _) h fun v2 h=>sc call91 (h.mono fun e w5 ⟨r3,r4,k,h⟩=>⟨_,k,?_⟩))))
 refine q (qd (ln (eg (q (ql (isAgg3 _) h fun v3 h=>qc (ql (isAgg3 _) h fun v4 h=>qb (sro (sizeOf56 _) h fun w6 h=>ln (er ?_))))))))
 obtain ⟨aA,aB,cH,aC,cI,hv1,h⟩:=h
 refine gg1 results86 (rva (isAgg56 _) (sizeOf56 _) hv1) ⟨aA,aB,cH,aC,cI,rfl,h⟩
 refine eg (q (ql (isAgg3 _) h fun v5 h=>qb (zK 4 (fun ρ w=>∃x1,Has ρ [(0,(vp r1)),(4,(vp (some p1))),(5,(vp (some p2))),(25,(vb x1))]∧m_N_j2 r1 p1 p2 x1 w K) ?_ ?_)))
 rintro ρ w ⟨x1,hH,h⟩
 refine zP hH (q (zK 4 (fun ρ w=>∃x2,Has ρ [(0,(vp r1)),(4,(vp (some p1))),(5,(vp (some p2))),(30,(vb x2))]∧m_N_j3 r1 p1 p2 x2 w K) ?_ ?_))
 rintro ρ w ⟨x2,hH,h⟩
 refine zP hH (q ?_)
 obtain ⟨hg1,h⟩|⟨hg1,h⟩:=h.br
 refine sj 31 hg1 (sj5 31 hg1 (q2 (vb true) (xT hg1) (ln (yI (by kernel_rfl) (eg (q (qm h fun a2 h=>q (st1 (sizeOf4 _) h fun w7 h=>ln (eg (q (sro (sizeOf56 _) h fun w8 h=>ln (er (vA ?_)))))))))))))
 obtain ⟨aO,aP,cJ,aQ,cK,hv5,h⟩:=h
 refine gg1 results86 (rva (isAgg56 _) (sizeOf56 _) hv5) ⟨aO,aP,cJ,aQ,cK,rfl,h⟩
 refine qk 31 hg1 ?_
 obtain ⟨v6,hv8,h⟩:=h
 refine q4 31 hg1 (xl (isAgg3 _) hv8) (qk 31 hg1 ?_)
 obtain ⟨v7,hv7,h⟩:=h
 refine q4 31 hg1 (xl (isAgg3 _) hv7) (qk 31 hg1 (qk 31 hg1 (q2 (vb (v6 != (q6.wrap (1 - v7)))) (xF hg1) (ln (cbr h ?_ ?_)))))<;>intro h
 refine eg (q (qm h fun a3 h=>q (st1 (sizeOf4 _) h fun w9 h=>ln (eg (q (sro (sizeOf56 _) h fun w10 h=>ln (er (vA ?_))))))))
 obtain ⟨aU,aV,cC,aW,cD,hv6,h⟩:=h
 refine gg1 results86 (rva (isAgg56 _) (sizeOf56 _) hv6) ⟨aU,aV,cC,aW,cD,rfl,h⟩
 refine zD (zN ⟨hm,h⟩)
 obtain ⟨hg2,h⟩|⟨hg2,h⟩:=h.br
 refine sj3 26 hg2 (q2 (vb true) (xT hg2) (zC ⟨true,hm,h⟩))
 refine qk 26 hg2 ?_
 obtain ⟨v8,hv9,h⟩:=h
 refine q4 26 hg2 (xl (isAgg3 _) hv9) (qk 26 hg2 (q2 (vb (decide (v8>1))) (xF hg2) (zC ⟨(decide (v8>1)),hm,h⟩)))
 obtain ⟨hg3,h⟩|⟨hg3,h⟩:=h.br
 refine qk 21 hg3 ?_
 obtain ⟨v9,hv10,h⟩:=h
 refine q4 21 hg3 (xl (isAgg3 _) hv10) (qk 21 hg3 (q2 (vb (v9 != 9)) (xT hg3) (zC ⟨(v9 != 9),hm,h⟩)))
 refine sj3 21 hg3 (q2 (vb false) (xF hg3) (zC ⟨false,hm,h⟩))
def m_H2 (r1:Option Addr) (t1:Int) (w:World) (K:ByteArray→Int→WP):Prop :=Calls prog 88 #[(vp r1),(vi t1),(vi 4)] w (fun e w1=>∃aE aF aG aD aH aX aY,e=.returned (Ae aE aF aG aD aH aX aY)∧∀p1 w2,New w1 (.cells #[(vi 0),(vi 0),(vi 0),(vu 0),ve,(vi 0),(vi 0)] 103) p1 w2→(∀j,j<7→zT w2 (p1.add j))∧∀w3,w3=storeRow w2 p1 (Ac aE aF aG aD aH aX aY)→∃C1:WP,C1 w3.drew∧∀w4,w4=w3.drew→∃v1,(∀w',C1 w'→w'.cell? (p1.add 5)=some (vi v1))∧∃v2,(∀w',C1 w'→w'.cell? (p1.add 6)=some (vi v2))∧Calls prog 88 #[(vp r1),(vi v1),(vi 3)] w4 (fun e w5=>∃bE bF bK aR aZ dB dC,e=.returned (Ae bE bF bK aR aZ dB dC)∧C1 w5∧K aZ v2 w5))
theorem w_H2 (r1 t1 w K) (h:m_H2 r1 t1 w K):
  Calls prog 87 #[(vp r1),(vi t1)] w (fun e w'=>∃r2 r3,e=.returned (.tuple #[(vs r2),(vi r3)])∧K r2 r3 w'):=by
 refine cw (args:=[(vp r1),(vi t1)]) func87 ntmps87 (eg (q0 ve (q0 (vi 0) (ln (eg (q0 (vp r1) (q0 (vi t1) ?_)))))))
 refine sc call88 (h.mono fun e w1 ⟨aE,aF,aG,aD,aH,aX,aY,k,h⟩=>⟨_,k,?_⟩)
 refine nw1 h (zI (zeroValue103 _) rfl) fun p1 w2 h=>sro (sizeOf103 _) h fun w3 h=>ln (zB ?_)
 obtain ⟨C1,hC,h⟩:=h
 refine dr1 C1 [3] [] hC h fun w4 h=>qx 0 (vp r1) Kp0 (qx 1 (vp (some (p1.add 5))) Kp1 (qg 2 ?_))
 obtain ⟨v1,hv2,h⟩:=h
 refine sy Kp2 (fun _ k=>xl (isAgg23 _) (hv2 _ k)) (qx 5 (vp (some (p1.add 6))) Kp5 (qg 6 ?_))
 obtain ⟨v2,hv1,h⟩:=h
 refine sy Kp6 (fun _ k=>xl (isAgg23 _) (hv1 _ k)) (lg 3 (slc Kp3 call88 (h.mono ?_)))
 rintro e w5 ⟨bE,bF,bK,aR,aZ,dB,dC,rfl,hC,h⟩
 refine ⟨_,rfl,.inr hC,?_⟩
 refine qx 4 (vs aZ) Kp4 (qx 7 (vs aZ) Kp7 (qx 8 (vi v2) Kp8 (wn (zN (er (xC (.inl rfl) results87 (v:=(vs aZ)) (by kernel_rfl) (v':=(vi v2)) (by kernel_rfl) ⟨aZ,v2,rfl,h⟩))))))
def m_I2 (r1:Option Addr) (t1 kind1:Int) (w:World) (K:Int→Int→Int→Int→ByteArray→Int→Int→WP):Prop :=∀p1 w1,New w (.cells #[(vi 0),(vi 0),(vi 0),(vu 0),ve,(vi 0),(vi 0)] 103) p1 w1→∃a1,r1=some a1∧∃v1,w1.cell? a1=some (vp v1)∧Calls prog 61 #[(vp v1),(vi t1)] w1 (fun e w2=>∃aE aF aG aD aH aX aY r2,e=.returned (.tuple #[(Ae aE aF aG aD aH aX aY),(vb r2)])∧∀p2 w3,New w2 (.cells #[(vi 0),(vi 0),(vi 0),(vu 0),ve,(vi 0),(vi 0)] 103) p2 w3→(∀j,j<7→zT w3 (p2.add j))∧∀w4,w4=storeRow w3 p2 (Ac aE aF aG aD aH aX aY)→Br (!r2) (∃a2,r1=some a2∧zT w4 (a2.add 1)∧∀w5,w5=w4.setCell (a2.add 1) (vb true)→(∀j,j<7→zT w5 (p1.add j))∧∀w6,w6=storeRow w5 p1 (Ai 0 0 0 0 0 0)→∃aA aB aI aJ aC iL iM,Row w6 p1 (Ac aA aB aI aJ aC iL iM)∧K aA aB aI aJ aC iL iM w6) (∃v2,w4.cell? p2=some (vi v2)∧Br (v2 != kind1) (∃a3,r1=some a3∧zT w4 (a3.add 1)∧∀w7,w7=w4.setCell (a3.add 1) (vb true)→(∀j,j<7→zT w7 (p1.add j))∧∀w8,w8=storeRow w7 p1 (Ai 0 0 0 0 0 0)→∃aO aP cL cM aQ iN iO,Row w8 p1 (Ac aO aP cL cM aQ iN iO)∧K aO aP cL cM aQ iN iO w8) (∃aL aM aS aT aN iP iQ,Row w4 p2 (Ac aL aM aS aT aN iP iQ)∧(∀j,j<7→zT w4 (p1.add j))∧∀w9,w9=storeRow w4 p1 (Ac aL aM aS aT aN iP iQ)→∃aU aV dS dT aW iR iS,Row w9 p1 (Ac aU aV dS dT aW iR iS)∧K aU aV dS dT aW iR iS w9)))
theorem w_I2 (r1 t1 kind1 w K) (h:m_I2 r1 t1 kind1 w K):
  Calls prog 88 #[(vp r1),(vi t1),(vi kind1)] w (fun e w'=>∃bE bF bK aR aZ dB dC,e=.returned (Ae bE bF bK aR aZ dB dC)∧K bE bF bK aR aZ dB dC w'):=by
 refine cw (args:=[(vp r1),(vi t1),(vi kind1)]) func88 ntmps88 (eg (sn (O:=(.cells #[(vi 0),(vi 0),(vi 0),(vu 0),ve,(vi 0),(vi 0)] 103)) (zI (zeroValue103 _) rfl) ?_))
 intro p1 w1 hn8
 have h:=h p1 w1 hn8
 refine ln (eg (q (qm h fun a1 h=>q (ql (isAgg29 _) h fun v1 h=>q (sc call61 (h.mono fun e w2 ⟨aE,aF,aG,aD,aH,aX,aY,r2,k,h⟩=>⟨_,k,?_⟩))))))
 refine qc (nw1 h (zI (zeroValue103 _) rfl) fun p2 w3 h=>sro (sizeOf103 _) h fun w4 h=>q (ln (zB (eg (qc ?_)))))
 obtain ⟨hg1,h⟩|⟨hg1,h⟩:=h.br
 refine sj4 20 hg1 (q2 (vb true) (xT hg1) (ln (yI (by kernel_rfl) (eg (q0 (vp r1) (qm h fun a2 h=>q (st1 (sizeOf4 _) h fun w5 h=>ln (eg (q (sro (sizeOf103 _) h fun w6 h=>ln (er (vA ?_))))))))))))
 obtain ⟨aA,aB,aI,aJ,aC,iL,iM,hv1,h⟩:=h
 refine gg1 results88 (rva (isAgg103 _) (sizeOf103 _) hv1) ⟨aA,aB,aI,aJ,aC,iL,iM,rfl,h⟩
 refine qk 20 hg1 ?_
 obtain ⟨v2,hv5,h⟩:=h
 refine q4 20 hg1 (xl (isAgg3 _) hv5) (qk 20 hg1 (qk 20 hg1 (q2 (vb (v2 != kind1)) (xF hg1) (ln (cbr h ?_ ?_)))))<;>intro h
 refine eg (q (qm h fun a3 h=>q (st1 (sizeOf4 _) h fun w7 h=>ln (eg (q (sro (sizeOf103 _) h fun w8 h=>ln (er (vA ?_))))))))
 obtain ⟨aO,aP,cL,cM,aQ,iN,iO,hv2,h⟩:=h
 refine gg1 results88 (rva (isAgg103 _) (sizeOf103 _) hv2) ⟨aO,aP,cL,cM,aQ,iN,iO,rfl,h⟩
 refine zD (zN (eg ?_))
 obtain ⟨aL,aM,aS,aT,aN,iP,iQ,hv4,h⟩:=h
 refine qa (isAgg103 _) (sizeOf103 _) hv4 (sro (sizeOf103 _) h fun w9 h=>ln (er ?_))
 obtain ⟨aU,aV,dS,dT,aW,iR,iS,hv3,h⟩:=h
 refine gg1 results88 (rva (isAgg103 _) (sizeOf103 _) hv3) ⟨aU,aV,dS,dT,aW,iR,iS,rfl,h⟩
def m_A1_j1 (r1:Option Addr) (p1:Addr) (w:World) (K:Int→ByteArray→WP):Prop :=∃C1:WP,C1 w.drew∧∀w5,w5=w.drew→∃v1,(∀w',C1 w'→w'.cell? (p1.add 5)=some (vi v1))∧∃v2,(∀w',C1 w'→w'.cell? (p1.add 6)=some (vi v2))∧Calls prog 88 #[(vp r1),(vi v1),(vi 2)] w5 (fun e w6=>∃bE bF bK aR aZ dB dC,e=.returned (Ae bE bF bK aR aZ dB dC)∧C1 w6∧Calls prog 88 #[(vp r1),(vi v2),(vi 3)] w6 (fun e w7=>∃bO bP cW cX bG fZ gA,e=.returned (Ae bO bP cW cX bG fZ gA)∧C1 w7∧K aR bG w7))
def m_A1 (r1:Option Addr) (t1:Int) (w:World) (K:Int→ByteArray→WP):Prop :=Calls prog 87 #[(vp r1),(vi t1)] w (fun e w1=>∃r2 r3,e=.returned (.tuple #[(vs r2),(vi r3)])∧Calls prog 88 #[(vp r1),(vi r3),(vi 4)] w1 (fun e w2=>∃aE aF aG aD aH aX aY,e=.returned (Ae aE aF aG aD aH aX aY)∧∀p1 w3,New w2 (.cells #[(vi 0),(vi 0),(vi 0),(vu 0),ve,(vi 0),(vi 0)] 103) p1 w3→(∀j,j<7→zT w3 (p1.add j))∧∀w4,w4=storeRow w3 p1 (Ac aE aF aG aD aH aX aY)→∃a1,r1=some a1∧∃v3,w4.cell? (a1.add 1)=some (vb v3)∧Br v3 (∃a2,r1=some a2∧zT w4 (a2.add 1)∧∀w8,w8=w4.setCell (a2.add 1) (vb true)→m_A1_j1 r1 p1 w8 K) (∃a3,r1=some a3∧zT w4 (a3.add 1)∧∀w9,w9=w4.setCell (a3.add 1) (vb (!(decide (r2=(⟨#[100,101,97,108]⟩:ByteArray)))))→m_A1_j1 r1 p1 w9 K)))
theorem w_A1 (r1 t1 w K) (h:m_A1 r1 t1 w K):
  Calls prog 91 #[(vp r1),(vi t1)] w (fun e w'=>∃r4 r5,e=.returned (.tuple #[(vu r4),(vs r5)])∧K r4 r5 w'):=by
 refine cw (args:=[(vp r1),(vi t1)]) func91 ntmps91 (eg (q0 (vu 0) (q0 ve (ln (eg (q0 (vp r1) (q0 (vi t1) ?_)))))))
 refine sc call87 (h.mono fun e w1 ⟨r2,r3,k,h⟩=>⟨_,k,?_⟩)
 refine q (qd (ln (eg (qb (sc call88 (h.mono fun e w2 ⟨aE,aF,aG,aD,aH,aX,aY,k,h⟩=>⟨_,k,?_⟩))))))
 refine nw1 h (zI (zeroValue103 _) rfl) fun p1 w3 h=>sro (sizeOf103 _) h fun w4 h=>ln (qE (fun ρ w=>Has ρ [(0,(vp r1)),(8,(vp (some p1)))]∧m_A1_j1 r1 p1 w K) ?_ ?_)
 rintro ρ w ⟨hH,h⟩
 refine zQ hH (zB ?_)
 obtain ⟨C1,hC,h⟩:=h
 refine dr1 C1 [3,8] [] hC h fun w5 h=>qx 0 (vp r1) Kp0 (qx 1 (vp (some (p1.add 5))) Kp1 (qg 2 ?_))
 obtain ⟨v1,hv2,h⟩:=h
 refine sy Kp2 (fun _ k=>xl (isAgg23 _) (hv2 _ k)) (qx 5 (vp r1) Kp5 (qx 6 (vp (some (p1.add 6))) Kp6 (qg 7 ?_)))
 obtain ⟨v2,hv1,h⟩:=h
 refine sy Kp7 (fun _ k=>xl (isAgg23 _) (hv1 _ k)) (lg 3 (slc Kp3 call88 (h.mono ?_)))
 rintro e w6 ⟨bE,bF,bK,aR,aZ,dB,dC,rfl,hC,h⟩
 refine ⟨_,rfl,.inr hC,?_⟩
 refine qx 4 (vu aR) Kp4 (lg 8 (slc Kp8 call88 (h.mono ?_)))
 rintro e w7 ⟨bO,bP,cW,cX,bG,fZ,gA,rfl,hC,h⟩
 refine ⟨_,rfl,.inr hC,?_⟩
 refine qx 9 (vs bG) Kp9 (qx 10 (vu aR) (zG (S8 (zA (zA zF)))) (qx 11 (vs bG) (zG (S8 (zA (zA (zA zF))))) (wn (zN (er (xC (.inl rfl) results91 (v:=(vu aR)) (by kernel_rfl) (v':=(vs bG)) (by kernel_rfl) ⟨aR,bG,rfl,h⟩))))))
 refine rg (qb (qm h fun a1 h=>q (ql (isAgg4 _) h fun v3 h=>q ?_)))
 obtain ⟨hg1,h⟩|⟨hg1,h⟩:=h.br
 refine sj2 23 hg1 (q2 (vb true) (xT hg1) (qm h fun a2 h=>q (st1 (sizeOf4 _) h fun w8 h=>ln ⟨hm,h⟩)))
 refine qk 23 hg1 (stq (v:=(vb (!(decide (r2=(⟨#[100,101,97,108]⟩:ByteArray)))))) (wy 23 hg1) (uO (by kernel_rfl) (by kernel_rfl)) (q2 (vb (!(decide (r2=(⟨#[100,101,97,108]⟩:ByteArray))))) (xF hg1) (qm h fun a3 h=>q (st1 (sizeOf4 _) h fun w9 h=>ln ⟨hm,h⟩))))
def m_E3 (cN cO:Int) (cP cQ:Int) (cR:ByteArray) (cS:Sl) (iT iU:Int) (iV iW:Int) (iX:ByteArray) (iY:Sl) (w:World) (K:Int→Int→Int→Int→ByteArray→Sl→WP):Prop :=∀p1 w1,New w (.cells #[(vi cN),(vi cO),(vi cP),(vu cQ),(vs cR),cS.v] 28) p1 w1→∀p2 w2,New w1 (.cells #[(vi iT),(vi iU),(vi iV),(vu iW),(vs iX),iY.v] 28) p2 w2→∀p3 w3,New w2 (.cells #[(vi 0),(vi 0),(vi 0),(vu 0),ve,Sl.nil.v] 28) p3 w3→∃aL aM aS aT aN bA,Row w3 p1 (Ad aL aM aS aT aN bA)∧∃bB bC bQ bR bD bS,Row w3 p2 (Ad bB bC bQ bR bD bS)∧∀p4 w4,New w3 (.cells #[(vi aL),(vi aM),(vi aS),(vu aT),(vs aN),bA.v,(vi bB),(vi bC),(vi bQ),(vu bR),(vs bD),bS.v] 28) p4 w4→(∀j,j<6→zT w4 (p3.add j))∧∀w5,w5=storeRow w4 p3 [(vi 4),(vi 0),(vi 0),(vu 0),ve,(Sl.mk (some p4) 2 2).v]→∃aA aB aI aJ aC aK,Row w5 p3 (Ad aA aB aI aJ aC aK)∧K aA aB aI aJ aC aK w5
theorem w_E3 (cN cO cP cQ cR cS iT iU iV iW iX iY w K) (h:m_E3 cN cO cP cQ cR cS iT iU iV iW iX iY w K):
  Calls prog 94 #[(.agg #[(vi cN),(vi cO),(vi cP),(vu cQ),(vs cR),cS.v]),(.agg #[(vi iT),(vi iU),(vi iV),(vu iW),(vs iX),iY.v])] w (fun e w'=>∃aE aF aG aD aH bL,e=.returned (Aa aE aF aG aD aH bL)∧K aE aF aG aD aH bL w'):=by
 refine cw (args:=[(Aa cN cO cP cQ cR cS),(Aa iT iU iV iW iX iY)]) func94 ntmps94 (eg (sn (O:=(.cells #[(vi cN),(vi cO),(vi cP),(vu cQ),(vs cR),cS.v] 28)) xb ?_))
 intro p1 w1 hn5
 have h:=h p1 w1 hn5
 refine nw1 h xb fun p2 w2 h=>nw1 h (zI (zeroValue28 _) rfl) fun p3 w3 h=>ln (eg ?_)
 obtain ⟨aL,aM,aS,aT,aN,bA,hv3,h⟩:=h
 refine qa (isAgg28 _) (sizeOf28 _) hv3 ?_
 obtain ⟨bB,bC,bQ,bR,bD,bS,hv2,h⟩:=h
 refine qa (isAgg28 _) (sizeOf28 _) hv2 (nw4 (fun p=>(Sl.mk (some p) 2 2).v) h fun p4 w4 h=>q (sro (sizeOf28 _) h fun w5 h=>ln (er ?_)))
 obtain ⟨aA,aB,aI,aJ,aC,aK,hv1,h⟩:=h
 refine gg1 results94 (rva (isAgg28 _) (sizeOf28 _) hv1) ⟨aA,aB,aI,aJ,aC,aK,rfl,h⟩
def m_F3 (s1:ByteArray) (w:World) (K:Int→Int→Int→Int→ByteArray→Sl→WP):Prop :=∀p1 w1,New w (.cells #[(vi 0),(vi 0),(vi 0),(vu 0),ve,Sl.nil.v] 28) p1 w1→(∀j,j<6→zT w1 (p1.add j))∧∀w2,w2=storeRow w1 p1 [(vi 3),(vi 0),(vi 0),(vu 0),(vs s1),Sl.nil.v]→∃aA aB aI aJ aC aK,Row w2 p1 (Ad aA aB aI aJ aC aK)∧K aA aB aI aJ aC aK w2
theorem w_F3 (s1 w K) (h:m_F3 s1 w K):
  Calls prog 95 #[(vs s1)] w (fun e w'=>∃aE aF aG aD aH bL,e=.returned (Aa aE aF aG aD aH bL)∧K aE aF aG aD aH bL w'):=by
 refine cw (args:=[(vs s1)]) func95 ntmps95 (eg (sn (O:=(.cells #[(vi 0),(vi 0),(vi 0),(vu 0),ve,Sl.nil.v] 28)) (zI (zeroValue28 _) rfl) ?_))
 intro p1 w1 hn2
 have h:=h p1 w1 hn2
 refine ln (eg (qb (sro (sizeOf28 _) h fun w2 h=>ln (er ?_))))
 obtain ⟨aA,aB,aI,aJ,aC,aK,hv1,h⟩:=h
 refine gg1 results95 (rva (isAgg28 _) (sizeOf28 _) hv1) ⟨aA,aB,aI,aJ,aC,aK,rfl,h⟩
def m_G3 (n1:Int) (w:World) (K:Int→Int→Int→Int→ByteArray→Sl→WP):Prop :=∀p1 w1,New w (.cells #[(vi 0),(vi 0),(vi 0),(vu 0),ve,Sl.nil.v] 28) p1 w1→(∀j,j<6→zT w1 (p1.add j))∧∀w2,w2=storeRow w1 p1 [(vi 2),(vi 0),(vi 0),(vu n1),ve,Sl.nil.v]→∃aA aB aI aJ aC aK,Row w2 p1 (Ad aA aB aI aJ aC aK)∧K aA aB aI aJ aC aK w2
theorem w_G3 (n1 w K) (h:m_G3 n1 w K):
  Calls prog 96 #[(vu n1)] w (fun e w'=>∃aE aF aG aD aH bL,e=.returned (Aa aE aF aG aD aH bL)∧K aE aF aG aD aH bL w'):=by
 refine cw (args:=[(vu n1)]) func96 ntmps96 (eg (sn (O:=(.cells #[(vi 0),(vi 0),(vi 0),(vu 0),ve,Sl.nil.v] 28)) (zI (zeroValue28 _) rfl) ?_))
 intro p1 w1 hn2
 have h:=h p1 w1 hn2
 refine ln (eg (qb (sro (sizeOf28 _) h fun w2 h=>ln (er ?_))))
 obtain ⟨aA,aB,aI,aJ,aC,aK,hv1,h⟩:=h
 refine gg1 results96 (rva (isAgg28 _) (sizeOf28 _) hv1) ⟨aA,aB,aI,aJ,aC,aK,rfl,h⟩
def m_H3 (who1 cN:Int) (cO cP cQ:Int) (cR:ByteArray) (cS:Sl) (fake1:Bool) (w:World) (K:Int→Int→Int→Int→ByteArray→Sl→WP):Prop :=∀p1 w1,New w (.cells #[(vi cN),(vi cO),(vi cP),(vu cQ),(vs cR),cS.v] 28) p1 w1→∀p2 w2,New w1 (.cells #[(vi 0),(vi 0),(vi 0),(vu 0),ve,Sl.nil.v] 28) p2 w2→Br fake1 (∃aL aM aS aT aN bA,Row w2 p1 (Ad aL aM aS aT aN bA)∧∀p3 w3,New w2 (.cells #[(vi aL),(vi aM),(vi aS),(vu aT),(vs aN),bA.v] 28) p3 w3→(∀j,j<6→zT w3 (p2.add j))∧∀w4,w4=storeRow w3 p2 [(vi 9),(vi who1),(vi (q6.wrap (1 - who1))),(vu 0),ve,(Sl.mk (some p3) 1 1).v]→∃aA aB aI aJ aC aK,Row w4 p2 (Ad aA aB aI aJ aC aK)∧K aA aB aI aJ aC aK w4) (∃bB bC bQ bR bD bS,Row w2 p1 (Ad bB bC bQ bR bD bS)∧∀p4 w5,New w2 (.cells #[(vi bB),(vi bC),(vi bQ),(vu bR),(vs bD),bS.v] 28) p4 w5→(∀j,j<6→zT w5 (p2.add j))∧∀w6,w6=storeRow w5 p2 [(vi 8),(vi who1),(vi (q6.wrap (1 - who1))),(vu 0),ve,(Sl.mk (some p4) 1 1).v]→∃aO aP cL cM aQ dR,Row w6 p2 (Ad aO aP cL cM aQ dR)∧K aO aP cL cM aQ dR w6)
theorem w_H3 (who1 cN cO cP cQ cR cS fake1 w K) (h:m_H3 who1 cN cO cP cQ cR cS fake1 w K):
  Calls prog 130 #[(vi who1),(.agg #[(vi cN),(vi cO),(vi cP),(vu cQ),(vs cR),cS.v]),(vb fake1)] w (fun e w'=>∃aE aF aG aD aH bL,e=.returned (Aa aE aF aG aD aH bL)∧K aE aF aG aD aH bL w'):=by
 refine cw (args:=[(vi who1),(Aa cN cO cP cQ cR cS),(vb fake1)]) func130 ntmps130 (eg (sn (O:=(.cells #[(vi cN),(vi cO),(vi cP),(vu cQ),(vs cR),cS.v] 28)) xb ?_))
 intro p1 w1 hn6
 have h:=h p1 w1 hn6
 refine nw1 h (zI (zeroValue28 _) rfl) fun p2 w2 h=>ln (eg (q (ln (zB (eg (q (zC (zN (cbr h ?_ ?_)))))))))<;>intro h
 refine rg (q (ln (eg (qd ?_))))
 obtain ⟨aL,aM,aS,aT,aN,bA,hv2,h⟩:=h
 refine qa (isAgg28 _) (sizeOf28 _) hv2 (nw4 (fun p=>(Sl.mk (some p) 1 1).v) h fun p3 w3 h=>q (sro (sizeOf28 _) h fun w4 h=>ln (er ?_)))
 obtain ⟨aA,aB,aI,aJ,aC,aK,hv1,h⟩:=h
 refine gg1 results130 (rva (isAgg28 _) (sizeOf28 _) hv1) ⟨aA,aB,aI,aJ,aC,aK,rfl,h⟩
 refine zD (zN (eg (qd ?_)))
 obtain ⟨bB,bC,bQ,bR,bD,bS,hv4,h⟩:=h
 refine qa (isAgg28 _) (sizeOf28 _) hv4 (nw4 (fun p=>(Sl.mk (some p) 1 1).v) h fun p4 w5 h=>q (sro (sizeOf28 _) h fun w6 h=>ln (er ?_)))
 obtain ⟨aO,aP,cL,cM,aQ,dR,hv3,h⟩:=h
 refine gg1 results130 (rva (isAgg28 _) (sizeOf28 _) hv3) ⟨aO,aP,cL,cM,aQ,dR,rfl,h⟩
def m_I3 (who1 cN:Int) (cO cP cQ:Int) (cR:ByteArray) (cS:Sl) (w:World) (K:Int→Int→Int→Int→ByteArray→Sl→WP):Prop :=∀p1 w1,New w (.cells #[(vi cN),(vi cO),(vi cP),(vu cQ),(vs cR),cS.v] 28) p1 w1→∀p2 w2,New w1 (.cells #[(vi 0),(vi 0),(vi 0),(vu 0),ve,Sl.nil.v] 28) p2 w2→∃aL aM aS aT aN bA,Row w2 p1 (Ad aL aM aS aT aN bA)∧∀p3 w3,New w2 (.cells #[(vi aL),(vi aM),(vi aS),(vu aT),(vs aN),bA.v] 28) p3 w3→(∀j,j<6→zT w3 (p2.add j))∧∀w4,w4=storeRow w3 p2 [(vi 7),(vi who1),(vi 0),(vu 0),ve,(Sl.mk (some p3) 1 1).v]→∃aA aB aI aJ aC aK,Row w4 p2 (Ad aA aB aI aJ aC aK)∧K aA aB aI aJ aC aK w4
theorem w_I3 (who1 cN cO cP cQ cR cS w K) (h:m_I3 who1 cN cO cP cQ cR cS w K):
  Calls prog 131 #[(vi who1),(.agg #[(vi cN),(vi cO),(vi cP),(vu cQ),(vs cR),cS.v])] w (fun e w'=>∃aE aF aG aD aH bL,e=.returned (Aa aE aF aG aD aH bL)∧K aE aF aG aD aH bL w'):=by
 refine cw (args:=[(vi who1),(Aa cN cO cP cQ cR cS)]) func131 ntmps131 (eg (sn (O:=(.cells #[(vi cN),(vi cO),(vi cP),(vu cQ),(vs cR),cS.v] 28)) xb ?_))
 intro p1 w1 hn4
 have h:=h p1 w1 hn4
 refine nw1 h (zI (zeroValue28 _) rfl) fun p2 w2 h=>ln (eg (q ?_))
 obtain ⟨aL,aM,aS,aT,aN,bA,hv2,h⟩:=h
 refine qa (isAgg28 _) (sizeOf28 _) hv2 (nw4 (fun p=>(Sl.mk (some p) 1 1).v) h fun p3 w3 h=>q (sro (sizeOf28 _) h fun w4 h=>ln (er ?_)))
 obtain ⟨aA,aB,aI,aJ,aC,aK,hv1,h⟩:=h
 refine gg1 results131 (rva (isAgg28 _) (sizeOf28 _) hv1) ⟨aA,aB,aI,aJ,aC,aK,rfl,h⟩
end Go.Proofs
end
section
open Go Go.SE
namespace Go.Sp
def yR (x:ByteArray):Tree:=.mk 3 0 0 0 x []
def jGH (n:Int):Tree:=.mk 2 0 0 n ⟨#[]⟩ []
def xH (a b:Tree):Tree:=.mk 4 0 0 0 ⟨#[]⟩ [a,b]
def jDU (n:Int) (a:Tree):Tree:=.mk 7 n 0 0 ⟨#[]⟩ [a]
def tI (n:Int) (a:Tree) (fake:Bool):Tree:=.mk (if fake then 9 else 8) n (1 - n) 0 ⟨#[]⟩ [a]
def jBC:ByteArray:=⟨#[100,101,97,108]⟩
def yB (c:Int) (x:ByteArray):Tree:=xH (yR jBC) (xH (jGH c) (yR x))
end Go.Sp
namespace Go.Proofs
open Tryz
attribute [local irreducible] Calls
theorem TreeAt.leaf {S:NP} {w:World} {k f t u:Int} {x:ByteArray}:TreeAt S w Sl.nil (.mk k f t u x []) :=
 .mk k f t u x [] Sl.nil (fun _=>Sl.nil) rfl (by simp) (fun i h=>by simp at h) (fun i h=>by simp at h)
theorem TreeAt.one {S:NP} {w:World} {k f t u:Int} {x:ByteArray} {p:Addr} {A:Sp.Tree} {sa:Sl} {T:TypeId} (hB:Box w p (yV A sa) T) (hS:S p.block) (hA:TreeAt S w sa A):TreeAt S w ⟨some p,1,1⟩ (.mk k f t u x [A]):=by
 refine .mk k f t u x [A] _ (fun _=>sa) rfl (by simp) (fun i h=>?_) (fun i h=>?_)
 ·have:i=0:=by simpa using h
  subst this;exact ⟨p,⟨by omega,by simp,p,rfl,rfl⟩,hS,hB.row⟩
 ·have:i=0:=by simpa using h
  subst this;exact hA
theorem TreeAt.pair {S:NP} {w:World} {k f t u:Int} {x:ByteArray} {p:Addr} {A B:Sp.Tree} {sa sb:Sl} {T:TypeId} (hB:Box w p (yV A sa++yV B sb) T) (hS:S p.block) (hA:TreeAt S w sa A) (hB2:TreeAt S w sb B):TreeAt S w ⟨some p,2,2⟩ (.mk k f t u x [A,B]):=by
 refine .mk k f t u x [A,B] _ (fun i=>if i=0 then sa else sb) rfl (by simp) (fun i h=>?_) (fun i h=>?_)
 ·have:i=0∨i=1:=by simp at h;omega
  rcases this with rfl | rfl
  ·refine ⟨p,⟨by omega,by simp,p,rfl,rfl⟩,hS,fun i hi=>?_⟩;have:=hB.row i (by simp [yV] at hi ⊢;omega);have hi':i<6:=by simpa [yV] using hi
   rw [this];exact List.getElem?_append_left (by simp [yV];omega)
  ·refine ⟨p.add (1*6),⟨by omega,by simp,p,rfl,rfl⟩,by rw [zR];exact hS,fun i hi=>?_⟩;have hi':i<6:=by simpa [yV] using hi
   have:=hB.row (6+i) (by simp [yV];omega);rw [xB,this,List.getElem?_append_right (by simp [yV])];simp [yV]
 ·have:i=0∨i=1:=by simp at h;omega
  rcases this with rfl | rfl
  ·exact hA
  ·exact hB2
abbrev RetT (n0:Nat) (w:World) (T:Sp.Tree) (e:Ending) (w':World):Prop:=∃s,e=.returned (.agg (yV T s).toArray)∧TreeAt (n0≤·) w' s T∧Pure w w'
theorem qZ (n0:Nat) (x:ByteArray) (w:World) (h0:n0≤w.heap.size):Calls prog 95 #[.string x] w (RetT n0 w (Sp.yR x)):=by
 refine (w_F3 x w (fun k f t u y s w'=>(⟨k,f,t,u,y,0,0⟩:Sp.Node)=(Sp.yR x).node∧TreeAt (n0≤·) w' s (Sp.yR x)∧Pure w w') ?_).mono ?_
 ·unfold m_F3;intro p1 w1 h1;exact bx 6 (Box.of_new h1) rfl rfl (fun w' b E=>⟨_,_,_,_,_,Sl.nil,b.row,rfl,TreeAt.leaf,Ext.own (Ext.new h1) (New.own (Ext.refl w) h1) E⟩)
 ·rintro _ w' ⟨k,f,t,u,y,s,rfl,hn,hT,E⟩;cases hn;exact ⟨s,rfl,hT,E⟩
theorem uH (n0:Nat) (n:Int) (w:World) (h0:n0≤w.heap.size):Calls prog 96 #[.int .u64 n] w (RetT n0 w (Sp.jGH n)):=by
 refine (w_G3 n w (fun k f t u y s w'=>(⟨k,f,t,u,y,0,0⟩:Sp.Node)=(Sp.jGH n).node∧TreeAt (n0≤·) w' s (Sp.jGH n)∧Pure w w') ?_).mono ?_
 ·unfold m_G3;intro p1 w1 h1;exact bx 6 (Box.of_new h1) rfl rfl (fun w' b E=>⟨_,_,_,_,_,Sl.nil,b.row,rfl,TreeAt.leaf,Ext.own (Ext.new h1) (New.own (Ext.refl w) h1) E⟩)
 ·rintro _ w' ⟨k,f,t,u,y,s,rfl,hn,hT,E⟩;cases hn;exact ⟨s,rfl,hT,E⟩
theorem qR (n0:Nat) (A B:Sp.Tree) (sa sb:Sl) (w:World) (h0:n0≤w.heap.size) (hA:TreeAt (n0≤·) w sa A) (hB:TreeAt (n0≤·) w sb B) :
  Calls prog 94 #[.agg (yV A sa).toArray,.agg (yV B sb).toArray] w (RetT n0 w (Sp.xH A B)):=by
 refine (w_E3 _ _ _ _ _ sa _ _ _ _ _ sb w (fun k f t u y s w'=>(⟨k,f,t,u,y,0,0⟩:Sp.Node)=(Sp.xH A B).node∧TreeAt (n0≤·) w' s (Sp.xH A B)∧Pure w w') ?_).mono ?_
 ·unfold m_E3
  intro p1 w1 h1 p2 w2 h2 p3 w3 h3
  have E1:Pure w w1:=Ext.new h1
  have E2:=E1.trans (Ext.new h2)
  have E3:Pure w w3:=E2.trans (Ext.new h3)
  have b1:=((Box.of_new h1).pure (Ext.new h2)).pure (Ext.new h3:Pure w2 w3)
  have b2:=(Box.of_new h2).pure (Ext.new h3:Pure w2 w3)
  refine ⟨_,_,_,_,_,sa,b1.row,_,_,_,_,_,sb,b2.row,?_⟩
  intro p4 w4 h4
  have o3:=New.own E2 h3
  have n34:p3.block≠p4.block:=New.ne h4 (Box.of_new h3).blk
  have E4:Pure w w4:=E3.trans (Ext.new h4)
  have o4:=New.own E3 h4
  refine bx 6 ((Box.of_new h3).pure (Ext.new h4)) rfl rfl (fun w' b E=>⟨_,_,_,_,_,_,b.row,rfl,?_,E4.own o3 E⟩)
  have b4:=(Box.of_new h4).ext E n34.symm
  have E5:=E4.own o3 E
  refine TreeAt.pair (A:=A) (B:=B) (sa:=sa) (sb:=sb) b4 (by show n0≤_;omega) (hA.pure E5) (hB.pure E5)
 ·rintro _ w' ⟨k,f,t,u,y,s,rfl,hn,hT,E⟩
  cases hn;exact ⟨s,rfl,hT,E⟩
theorem uM (n0:Nat) (n:Int) (A:Sp.Tree) (sa:Sl) (w:World) (h0:n0≤w.heap.size) (hA:TreeAt (n0≤·) w sa A) :
  Calls prog 131 #[.int .i64 n,.agg (yV A sa).toArray] w (RetT n0 w (Sp.jDU n A)):=by
 refine (w_I3 n _ _ _ _ _ sa w (fun k f t u y s w'=>(⟨k,f,t,u,y,0,0⟩:Sp.Node)=(Sp.jDU n A).node∧TreeAt (n0≤·) w' s (Sp.jDU n A)∧Pure w w') ?_).mono ?_
 ·unfold m_I3
  intro p1 w1 h1 p3 w3 h3
  have E1:Pure w w1:=Ext.new h1
  have E3:Pure w w3:=E1.trans (Ext.new h3)
  have b1:=(Box.of_new h1).pure (Ext.new h3:Pure w1 w3)
  refine ⟨_,_,_,_,_,sa,b1.row,?_⟩
  intro p4 w4 h4
  have o3:=New.own E1 h3
  have n34:p3.block≠p4.block:=New.ne h4 (Box.of_new h3).blk
  have E4:Pure w w4:=E3.trans (Ext.new h4)
  have o4:=New.own E3 h4
  refine bx 6 ((Box.of_new h3).pure (Ext.new h4)) rfl rfl (fun w' b E=>⟨_,_,_,_,_,_,b.row,rfl,?_,E4.own o3 E⟩)
  have b4:=(Box.of_new h4).ext E n34.symm
  have E5:=E4.own o3 E
  exact TreeAt.one (A:=A) (sa:=sa) b4 (by show n0≤_;omega) (hA.pure E5)
 ·rintro _ w' ⟨k,f,t,u,y,s,rfl,hn,hT,E⟩
  cases hn;exact ⟨s,rfl,hT,E⟩
theorem qY (n0:Nat) (n:Int) (hn1:n=0∨n=1) (A:Sp.Tree) (fake:Bool) (sa:Sl) (w:World) (h0:n0≤w.heap.size) (hA:TreeAt (n0≤·) w sa A) :
  Calls prog 130 #[.int .i64 n,.agg (yV A sa).toArray,.bool fake] w (RetT n0 w (Sp.tI n A fake)):=by
 refine (w_H3 n _ _ _ _ _ sa fake w (fun k f t u y s w'=>(⟨k,f,t,u,y,0,0⟩:Sp.Node)=(Sp.tI n A fake).node∧TreeAt (n0≤·) w' s (Sp.tI n A fake)∧Pure w w') ?_).mono ?_
 ·unfold m_H3
  intro p1 w1 h1 p3 w3 h3
  have E1:Pure w w1:=Ext.new h1
  have E3:Pure w w3:=E1.trans (Ext.new h3)
  have b1:=(Box.of_new h1).pure (Ext.new h3:Pure w1 w3)
  have hw:IntKind.i64.wrap (1 - n)=1 - n:=i64 (by omega) (by omega)
  rw [hw]
  refine ⟨fun h=>⟨_,_,_,_,_,sa,b1.row,?_⟩,fun h=>⟨_,_,_,_,_,sa,b1.row,?_⟩⟩
  all_goals
   intro p4 w4 h4
   have o3:=New.own E1 h3
   have n34:p3.block≠p4.block:=New.ne h4 (Box.of_new h3).blk
   have E4:Pure w w4:=E3.trans (Ext.new h4)
   have o4:=New.own E3 h4
   refine bx 6 ((Box.of_new h3).pure (Ext.new h4)) rfl rfl (fun w' b E=>⟨_,_,_,_,_,_,b.row,by rw [h];rfl,?_,E4.own o3 E⟩)
   have b4:=(Box.of_new h4).ext E n34.symm
   have E5:=E4.own o3 E
   exact TreeAt.one (A:=A) (sa:=sa) b4 (by show n0≤_;omega) (hA.pure E5)
 ·rintro _ w' ⟨k,f,t,u,y,s,rfl,hn,hT,E⟩
  cases hn;exact ⟨s,rfl,hT,E⟩
theorem jIR (n0:Nat) (c:Int) (x:ByteArray) (w:World) (h0:n0≤w.heap.size):Calls prog 45 #[.int .u64 c,.string x] w (RetT n0 w (Sp.yB c x)):=by
 refine (w_D3 c x w (fun k f t u y s w'=>(⟨k,f,t,u,y,0,0⟩:Sp.Node)=(Sp.yB c x).node∧TreeAt (n0≤·) w' s (Sp.yB c x)∧Pure w w') ?_).mono ?_
 ·unfold m_D3;intro p1 w1 h1;have E1:Pure w w1:=Ext.new h1;have o1:=New.own (Ext.refl w) h1;have s1:w.heap.size≤w1.heap.size:=E1.size;refine (qZ w1.heap.size _ w1 (by omega)).mono ?_;rintro _ w2 ⟨sa,rfl,hA,E2⟩;have s2:=E2.size;refine ⟨_,_,_,_,_,sa,rfl,?_⟩;refine (uH w1.heap.size c w2 (by omega)).mono ?_;rintro _ w3 ⟨sb,rfl,hB,E3⟩;have s3:=E3.size;refine ⟨_,_,_,_,_,sb,rfl,?_⟩;refine (qZ w1.heap.size x w3 (by omega)).mono ?_;rintro _ w4 ⟨sc,rfl,hC,E4⟩;have s4:=E4.size;refine ⟨_,_,_,_,_,sc,rfl,?_⟩;refine (qR w1.heap.size (Sp.jGH c) (Sp.yR x) sb sc w4 (by omega) (hB.pure E4) hC).mono ?_;rintro _ w5 ⟨sd,rfl,hD,E5⟩;have s5:=E5.size;refine ⟨_,_,_,_,_,sd,rfl,?_⟩;refine (qR w1.heap.size (Sp.yR Sp.jBC) (Sp.xH (Sp.jGH c) (Sp.yR x)) sa sd w5 (by omega) (((hA.pure E3).pure E4).pure E5) hD).mono ?_;rintro _ w6 ⟨se,rfl,hE,E6⟩;have E:Pure w1 w6:=(((E2.trans E3).trans E4).trans E5).trans E6;refine ⟨_,_,_,_,_,se,rfl,?_⟩;refine bx 6 ((Box.of_new h1).pure E) rfl rfl (fun w' b E'=>⟨_,_,_,_,_,se,b.row,rfl,?_,(E1.trans E).own o1 E'⟩);exact (hE.ext E' (fun b hb e=>by have:=(Box.of_new h1).lt;have:w1.heap.size≤b:=hb;omega)).mono (fun b hb=>by show n0≤b;have:w1.heap.size≤b:=hb;omega)
 ·rintro _ w' ⟨k,f,t,u,y,s,rfl,hn,hT,E⟩;cases hn;exact ⟨s,rfl,hT,E⟩
end Go.Proofs
end
section
open Go Go.SE
namespace Go.Sp
structure Letter where
 kind:Int
 frm:Int
 c:Int
 text:ByteArray
 fake:Bool
deriving DecidableEq
def xO:Letter:=⟨0,0,0,⟨#[]⟩,false⟩
def xK:ByteArray:=⟨#[97,98,111,114,116]⟩
def yL:ByteArray:=⟨#[114,101,115,111,108,118,101]⟩
def yA:ByteArray:=⟨#[97,98,111,114,116,101,100]⟩
def yM:ByteArray:=⟨#[105,110,115,116,101,97,100]⟩
def jJO:ByteArray:=⟨#[102,117,108,108]⟩
def vW (l:Letter) (first second:Bool):Tree :=
 if l.kind=1 then tI l.frm (yB l.c l.text) l.fake
 else if l.kind=2 then jDU l.frm (yB l.c l.text)
 else if l.kind=3 then jDU 0 (xH (yR xK) (jGH l.c))
 else if l.kind=4 then jDU l.frm (xH (yR yL) (xH (tI 0 (yB l.c l.text) (l.fake && first)) (tI 1 (yB l.c l.text) (l.fake && second))))
 else if l.kind=5 then jDU 2 (xH (yR yA) (jGH l.c))
 else if l.kind=6 then jDU 2 (xH (yR yM) (yB l.c l.text))
 else xH (yR jJO) (jGH l.c)
end Go.Sp
namespace Go.Proofs
open Tryz
attribute [local irreducible] Calls
theorem jIQ (n0:Nat) (k f c:Int) (x:ByteArray) (fake first second:Bool) (w:World) (h0:n0≤w.heap.size) (hf:f=0∨f=1) :
  Calls prog 71 #[.agg #[.int .i64 k,.int .i64 f,.int .u64 c,.string x,.bool fake],.bool first,.bool second] w (RetT n0 w (Sp.vW ⟨k,f,c,x,fake⟩ first second)):=by
 generalize hR:Sp.vW ⟨k,f,c,x,fake⟩ first second=R
 suffices key:∀K:Int→Int→Int→Int→ByteArray→Sl→WP,(∀s w',TreeAt (n0≤·) w' s R∧Pure w w'→K R.node.kind R.node.frm R.node.to R.node.num R.node.text s w')→m_G2 k f c x fake first second w K by
  refine (w_G2 k f c x fake first second w (fun k f t u y s w'=>(k=R.node.kind∧f=R.node.frm∧t=R.node.to∧u=R.node.num∧y=R.node.text)∧TreeAt (n0≤·) w' s R∧Pure w w') (key _ (fun s w' h=>⟨⟨rfl,rfl,rfl,rfl,rfl⟩,h⟩))).mono ?_;rintro _ w' ⟨k,f,t,u,y,s,rfl,⟨rfl,rfl,rfl,rfl,rfl⟩,hT,E⟩;exact ⟨s,rfl,hT,E⟩
 intro K hK
 unfold m_G2
 intro p1 w1 h1 p2 w2 h2
 have E1:Pure w w1:=Ext.new h1
 have E2:Pure w w2:=E1.trans (Ext.new h2)
 have o2:=New.own E1 h2
 have a1:=(Box.of_new h1).pure (Ext.new h2:Pure w1 w2)
 have a2:=Box.of_new h2
 have l1:=a1.lt
 have l2:=a2.lt
 have s2:=E2.size
 clear h1 h2
 refine ⟨_,a1.cell rfl,_,a1.cell rfl,?_⟩
 refine (jIR w2.heap.size c x w2 (Nat.le_refl _)).mono ?_
 rintro _ w3 ⟨sd,rfl,hD,E3⟩
 refine ⟨_,_,_,_,_,sd,rfl,?_⟩
 intro p3 w4 h4
 have o3:=New.own (Ext.refl w3) h4
 refine bx 6 (Box.of_new h4) rfl rfl (fun w5 b3 E'=>?_)
 have E5:Pure w3 w5:=Ext.own (Ext.new h4) o3 E'
 have hD5:=hD.pure E5
 have E25:Pure w2 w5:=E3.trans E5
 have s5:=E25.size
 have b1:=a1.pure E25
 have b3:Box w5 p3 (yV (Sp.yB c x) sd) 28:=b3
 clear E' h4 E5 hD E3
 have fin : ∀ (T : Sp.Tree) (s : Sl) (w' : World), Pure w5 w' → TreeAt (w2.heap.size ≤ ·) w' s T → T = R →
   (∀j,j<6→zT w' (p2.add j))∧∀w'':World,w''=storeRow w' p2 (yV T s) →
   ∃qKind1:Int,∃qFrom1:Int,∃qTo1:Int,∃qNum1:Int,∃qText1:ByteArray,∃qKids1:Sl,Row w'' p2 [(.int .i64 qKind1),(.int .i64 qFrom1),(.int .i64 qTo1),(.int .u64 qNum1),(.string qText1),qKids1.v]∧K qKind1 qFrom1 qTo1 qNum1 qText1 qKids1 w'':=by
  rintro T s w' E hT rfl
  refine bx 6 (a2.pure (E25.trans E)) rfl rfl (fun w'' b E'=>⟨_,_,_,_,_,s,b.row,hK s w'' ⟨?_,(E2.trans (E25.trans E)).own o2 E'⟩⟩)
  exact (hT.ext E' (fun b hb e=>by have:w2.heap.size≤b:=hb;omega)).mono (fun b hb=>by show n0≤b;have:w2.heap.size≤b:=hb;omega)
 have drawn:∃C:WP,C w5.drew∧(∀w' w'',Pure w' w''→C w'→C w'')∧(∀w',C w'→Box w' p1 [.int .i64 k,.int .i64 f,.int .u64 c,.string x,.bool fake] 56∧Box w' p3 (yV (Sp.yB c x) sd) 28) :=
  ⟨fun w'=>Box w' p1 [.int .i64 k,.int .i64 f,.int .u64 c,.string x,.bool fake] 56∧Box w' p3 (yV (Sp.yB c x) sd) 28,⟨b1.pure (Ext.drew w5),b3.pure (Ext.drew w5)⟩,fun _ _ E h=>⟨h.1.pure E,h.2.pure E⟩,fun _ h=>h⟩
 obtain ⟨C,hC,hCp,hCb⟩:=drawn
 refine ⟨k,b1.cell0,fun hk=>?_,fun hk1=>⟨fun hk=>?_,fun hk2=>⟨fun hk=>?_,fun hk3=>⟨fun hk=>?_,fun hk4=>⟨fun hk=>?_,fun hk5=>⟨fun hk=>?_,fun hk6=>?_⟩⟩⟩⟩⟩⟩
 ·have hk:k=1:=by simpa using hk
  refine ⟨f,b1.cell rfl,_,_,_,_,_,sd,b3.row,fake,b1.cell rfl,?_⟩
  refine (qY w2.heap.size f hf (Sp.yB c x) fake sd w5 s5 hD5).mono ?_
  rintro _ w6 ⟨s,rfl,hT,E6⟩
  exact ⟨_,_,_,_,_,s,rfl,fin _ s w6 E6 hT (by rw [← hR];simp only [Sp.vW];rw [if_pos hk])⟩
 ·have hk:k=2:=by simpa using hk
  refine ⟨f,b1.cell rfl,_,_,_,_,_,sd,b3.row,?_⟩
  refine (uM w2.heap.size f (Sp.yB c x) sd w5 s5 hD5).mono ?_
  rintro _ w6 ⟨s,rfl,hT,E6⟩
  exact ⟨_,_,_,_,_,s,rfl,fin _ s w6 E6 hT (by rw [← hR];simp only [Sp.vW];rw [if_neg (by omega),if_pos hk])⟩
 ·have hk:k=3:=by simpa using hk
  refine ⟨C,hC,?_⟩
  intro w10 hw10
  have E10:Pure w5 w10:=by rw [hw10];exact Ext.drew w5
  have hC10:C w10:=by rw [hw10];exact hC
  clear hw10
  have s10:=E10.size
  refine ⟨c,fun w' h=>(hCb w' h).1.cell rfl,?_⟩
  refine (qZ w2.heap.size _ w10 (by omega)).mono ?_
  rintro _ w11 ⟨sa,rfl,hA,E11⟩
  have s11:=E11.size
  refine ⟨_,_,_,_,_,sa,rfl,hCp _ _ E11 hC10,?_⟩
  refine (uH w2.heap.size c w11 (by omega)).mono ?_
  rintro _ w12 ⟨sb,rfl,hB,E12⟩
  have s12:=E12.size
  refine ⟨_,_,_,_,_,sb,rfl,?_⟩
  refine (qR w2.heap.size (Sp.yR Sp.xK) (Sp.jGH c) sa sb w12 (by omega) (hA.pure E12) hB).mono ?_
  rintro _ w13 ⟨se,rfl,hE,E13⟩
  have s13:=E13.size
  refine ⟨_,_,_,_,_,se,rfl,?_⟩
  refine (uM w2.heap.size 0 (Sp.xH (Sp.yR Sp.xK) (Sp.jGH c)) se w13 (by omega) hE).mono ?_
  rintro _ w14 ⟨s,rfl,hT,E14⟩
  exact ⟨_,_,_,_,_,s,rfl,fin _ s w14 ((((E10.trans E11).trans E12).trans E13).trans E14) hT (by rw [← hR];simp only [Sp.vW];rw [if_neg (by omega),if_neg (by omega),if_pos hk])⟩
 ·have hk:k=4:=by simpa using hk
  refine ⟨C,hC,?_⟩
  intro w10 hw10
  have E10:Pure w5 w10:=by rw [hw10];exact Ext.drew w5
  have hC10:C w10:=by rw [hw10];exact hC
  clear hw10
  have s10:=E10.size
  refine ⟨f,fun w' h=>(hCb w' h).1.cell rfl,_,_,_,_,_,sd,fun w' h=>(hCb w' h).2.row,fake,fun w' h=>(hCb w' h).1.cell rfl,_,_,_,_,_,sd,fun w' h=>(hCb w' h).2.row,fake,fun w' h=>(hCb w' h).1.cell rfl,?_⟩
  refine (qZ w2.heap.size _ w10 (by omega)).mono ?_
  rintro _ w11 ⟨sa,rfl,hA,E11⟩
  have s11:=E11.size
  have hD11:=hD5.pure (E10.trans E11)
  have hC11:=hCp _ _ E11 hC10
  refine ⟨_,_,_,_,_,sa,rfl,hC11,?_⟩
  have rest : ∀ (u v : Bool) (sx sy : Sl) (w' : World), u = (fake && first) → v = (fake && second) → Pure w11 w' → TreeAt (w2.heap.size ≤ ·) w' sx (Sp.tI 0 (Sp.yB c x) u) → TreeAt (w2.heap.size ≤ ·) w' sy (Sp.tI 1 (Sp.yB c x) v) →
    Calls prog 94 #[.agg (yV (Sp.tI 0 (Sp.yB c x) u) sx).toArray,.agg (yV (Sp.tI 1 (Sp.yB c x) v) sy).toArray] w' (fun e wa=>∃k1 f1 t1 u1 y1,∃s1:Sl,e=.returned (.agg #[.int .i64 k1,.int .i64 f1,.int .i64 t1,.int .u64 u1,.string y1,s1.v])∧C wa ∧
     Calls prog 94 #[.agg (yV (Sp.yR Sp.yL) sa).toArray,.agg #[.int .i64 k1,.int .i64 f1,.int .i64 t1,.int .u64 u1,.string y1,s1.v]] wa (fun e wb=>∃k1 f1 t1 u1 y1,∃s1:Sl,e=.returned (.agg #[.int .i64 k1,.int .i64 f1,.int .i64 t1,.int .u64 u1,.string y1,s1.v])∧C wb ∧
      Calls prog 131 #[.int .i64 f,.agg #[.int .i64 k1,.int .i64 f1,.int .i64 t1,.int .u64 u1,.string y1,s1.v]] wb (fun e wc=>∃k1 f1 t1 u1 y1,∃s1:Sl,e=.returned (.agg #[.int .i64 k1,.int .i64 f1,.int .i64 t1,.int .u64 u1,.string y1,s1.v]) ∧
       (∀j,j<6→zT wc (p2.add j))∧∀w'':World,w''=storeRow wc p2 [.int .i64 k1,.int .i64 f1,.int .i64 t1,.int .u64 u1,.string y1,s1.v] →
   ∃qKind1:Int,∃qFrom1:Int,∃qTo1:Int,∃qNum1:Int,∃qText1:ByteArray,∃qKids1:Sl,Row w'' p2 [(.int .i64 qKind1),(.int .i64 qFrom1),(.int .i64 qTo1),(.int .u64 qNum1),(.string qText1),qKids1.v]∧K qKind1 qFrom1 qTo1 qNum1 qText1 qKids1 w''))):=by
   intro u v sx sy w' hu hv E hX hY
   have s':=E.size
   refine (qR w2.heap.size (Sp.tI 0 (Sp.yB c x) u) (Sp.tI 1 (Sp.yB c x) v) sx sy w' (by omega) hX hY).mono ?_
   rintro _ wa ⟨s1,rfl,h1,Ea⟩
   have sa':=Ea.size
   refine ⟨_,_,_,_,_,s1,rfl,hCp _ _ (E.trans Ea) hC11,?_⟩
   refine (qR w2.heap.size (Sp.yR Sp.yL) (Sp.xH (Sp.tI 0 (Sp.yB c x) u) (Sp.tI 1 (Sp.yB c x) v)) sa s1 wa (by omega) (hA.pure (E.trans Ea)) h1).mono ?_
   rintro _ wb ⟨s2,rfl,h2,Eb⟩
   have sb':=Eb.size
   refine ⟨_,_,_,_,_,s2,rfl,hCp _ _ ((E.trans Ea).trans Eb) hC11,?_⟩
   refine (uM w2.heap.size f (Sp.xH (Sp.yR Sp.yL) (Sp.xH (Sp.tI 0 (Sp.yB c x) u) (Sp.tI 1 (Sp.yB c x) v))) s2 wb (by omega) h2).mono ?_
   rintro _ wc ⟨s3,rfl,h3,Ec⟩
   exact ⟨_,_,_,_,_,s3,rfl,fin _ s3 wc (((((E10.trans E11).trans E).trans Ea).trans Eb).trans Ec) h3 (by rw [← hR,hu,hv];simp only [Sp.vW];rw [if_neg (by omega),if_neg (by omega),if_neg (by omega),if_pos hk])⟩
  refine ⟨fun hfk=>?_,fun hfk=>?_⟩
  ·refine (qY w2.heap.size 0 (.inl rfl) (Sp.yB c x) first sd w11 (by omega) hD11).mono ?_
   rintro _ w12 ⟨sx,rfl,hX,E12⟩
   have s12:=E12.size
   refine ⟨_,_,_,_,_,sx,rfl,hCp _ _ E12 hC11,Br.t hfk ?_⟩
   refine (qY w2.heap.size 1 (.inr rfl) (Sp.yB c x) second sd w12 (by omega) (hD11.pure E12)).mono ?_
   rintro _ w13 ⟨sy,rfl,hY,E13⟩
   exact ⟨_,_,_,_,_,sy,rfl,hCp _ _ (E12.trans E13) hC11,rest first second sx sy w13 (by rw [hfk];rfl) (by rw [hfk];rfl) (E12.trans E13) (hX.pure E13) hY⟩
  ·refine (qY w2.heap.size 0 (.inl rfl) (Sp.yB c x) false sd w11 (by omega) hD11).mono ?_
   rintro _ w12 ⟨sx,rfl,hX,E12⟩
   have s12:=E12.size
   refine ⟨_,_,_,_,_,sx,rfl,hCp _ _ E12 hC11,Br.f hfk ?_⟩
   refine (qY w2.heap.size 1 (.inr rfl) (Sp.yB c x) false sd w12 (by omega) (hD11.pure E12)).mono ?_
   rintro _ w13 ⟨sy,rfl,hY,E13⟩
   exact ⟨_,_,_,_,_,sy,rfl,hCp _ _ (E12.trans E13) hC11,rest false false sx sy w13 (by rw [hfk];rfl) (by rw [hfk];rfl) (E12.trans E13) (hX.pure E13) hY⟩
 ·have hk:k=5:=by simpa using hk
  refine ⟨C,hC,?_⟩
  intro w10 hw10
  have E10:Pure w5 w10:=by rw [hw10];exact Ext.drew w5
  have hC10:C w10:=by rw [hw10];exact hC
  clear hw10
  have s10:=E10.size
  refine ⟨c,fun w' h=>(hCb w' h).1.cell rfl,?_⟩
  refine (qZ w2.heap.size _ w10 (by omega)).mono ?_
  rintro _ w11 ⟨sa,rfl,hA,E11⟩
  have s11:=E11.size
  refine ⟨_,_,_,_,_,sa,rfl,hCp _ _ E11 hC10,?_⟩
  refine (uH w2.heap.size c w11 (by omega)).mono ?_
  rintro _ w12 ⟨sb,rfl,hB,E12⟩
  have s12:=E12.size
  refine ⟨_,_,_,_,_,sb,rfl,?_⟩
  refine (qR w2.heap.size (Sp.yR Sp.yA) (Sp.jGH c) sa sb w12 (by omega) (hA.pure E12) hB).mono ?_
  rintro _ w13 ⟨se,rfl,hE,E13⟩
  have s13:=E13.size
  refine ⟨_,_,_,_,_,se,rfl,?_⟩
  refine (uM w2.heap.size 2 (Sp.xH (Sp.yR Sp.yA) (Sp.jGH c)) se w13 (by omega) hE).mono ?_
  rintro _ w14 ⟨s,rfl,hT,E14⟩
  exact ⟨_,_,_,_,_,s,rfl,fin _ s w14 ((((E10.trans E11).trans E12).trans E13).trans E14) hT (by rw [← hR];simp only [Sp.vW];rw [if_neg (by omega),if_neg (by omega),if_neg (by omega),if_neg (by omega),if_pos hk])⟩
 ·have hk:k=6:=by simpa using hk
  refine ⟨C,hC,?_⟩
  intro w10 hw10
  have E10:Pure w5 w10:=by rw [hw10];exact Ext.drew w5
  have hC10:C w10:=by rw [hw10];exact hC
  clear hw10
  have s10:=E10.size
  refine ⟨_,_,_,_,_,sd,fun w' h=>(hCb w' h).2.row,?_⟩
  refine (qZ w2.heap.size _ w10 (by omega)).mono ?_
  rintro _ w11 ⟨sa,rfl,hA,E11⟩
  have s11:=E11.size
  refine ⟨_,_,_,_,_,sa,rfl,hCp _ _ E11 hC10,?_⟩
  refine (qR w2.heap.size (Sp.yR Sp.yM) (Sp.yB c x) sa sd w11 (by omega) hA (hD5.pure (E10.trans E11))).mono ?_
  rintro _ w13 ⟨se,rfl,hE,E13⟩
  have s13:=E13.size
  refine ⟨_,_,_,_,_,se,rfl,?_⟩
  refine (uM w2.heap.size 2 (Sp.xH (Sp.yR Sp.yM) (Sp.yB c x)) se w13 (by omega) hE).mono ?_
  rintro _ w14 ⟨s,rfl,hT,E14⟩
  exact ⟨_,_,_,_,_,s,rfl,fin _ s w14 (((E10.trans E11).trans E13).trans E14) hT (by rw [← hR];simp only [Sp.vW];rw [if_neg (by omega),if_neg (by omega),if_neg (by omega),if_neg (by omega),if_neg (by omega),if_pos hk])⟩
 ·have hk1:k≠1:=by simpa using hk1
  have hk2:k≠2:=by simpa using hk2
  have hk3:k≠3:=by simpa using hk3
  have hk4:k≠4:=by simpa using hk4
  have hk5:k≠5:=by simpa using hk5
  have hk6:k≠6:=by simpa using hk6
  refine ⟨C,hC,?_⟩
  intro w10 hw10
  have E10:Pure w5 w10:=by rw [hw10];exact Ext.drew w5
  have hC10:C w10:=by rw [hw10];exact hC
  clear hw10
  have s10:=E10.size
  refine ⟨c,fun w' h=>(hCb w' h).1.cell rfl,?_⟩
  refine (qZ w2.heap.size _ w10 (by omega)).mono ?_
  rintro _ w11 ⟨sa,rfl,hA,E11⟩
  have s11:=E11.size
  refine ⟨_,_,_,_,_,sa,rfl,hCp _ _ E11 hC10,?_⟩
  refine (uH w2.heap.size c w11 (by omega)).mono ?_
  rintro _ w12 ⟨sb,rfl,hB,E12⟩
  have s12:=E12.size
  refine ⟨_,_,_,_,_,sb,rfl,?_⟩
  refine (qR w2.heap.size (Sp.yR Sp.jJO) (Sp.jGH c) sa sb w12 (by omega) (hA.pure E12) hB).mono ?_
  rintro _ w13 ⟨s,rfl,hT,E13⟩
  exact ⟨_,_,_,_,_,s,rfl,fin _ s w13 (((E10.trans E11).trans E12).trans E13) hT (by rw [← hR];simp only [Sp.vW];rw [if_neg hk1,if_neg hk2,if_neg hk3,if_neg hk4,if_neg hk5,if_neg hk6])⟩
end Go.Proofs
end
section
namespace Go.Sp
theorem qS {L:Pool} {i:Nat} (hi:i<L.length):nodeOf L ((i:Int)+1)=L[i].node:=by
 have h:inP L ((i:Int)+1)=true:=vB.2 ⟨by omega,by omega⟩;have e:((i:Int)+1 - 1).toNat=i:=by omega
 simp [nodeOf,get,h,e,hi]
theorem jBR {L:Pool} {t:Int} (h:inP L t=true):∃i:Nat,i<L.length∧t=(i:Int)+1:=by
 have:=vB.1 h;exact ⟨(t - 1).toNat,by omega,by omega⟩
theorem jLI {L:Pool} {i:Nat} (hi:i<L.length):get L ((i:Int)+1)=some L[i]:=by
 have h:inP L ((i:Int)+1)=true:=vB.2 ⟨by omega,by omega⟩;have e:((i:Int)+1 - 1).toNat=i:=by omega
 simp [get,h,e,hi]
structure Wf (L:Pool):Prop where
 ok:Ok L
 each:∀i (hi:i<L.length),check (L.take i) L[i].node=(L[i].size,L[i].depth,0)
theorem Wf.nil:Wf []:=⟨Ok.nil,fun i hi=>by simp at hi⟩
theorem jNA {L:Pool} {n:Node} (h:(check L n).2.2=0):vG n=0∧((shapeOf n.kind).kids<1→n.a=0)∧((shapeOf n.kind).kids<2→n.b=0)∧zZ (shapeOf n.kind) n=0∧(∀t∈zM n,inP L t=true) ∧
  (check L n).1=1+((zM n).map (sizeOf L)).sum∧(check L n).2.1=(zM n).foldl (fun d t=>max d (depthOf L t)) 0+1∧(check L n).1≤4096∧(check L n).2.1≤64:=by
 unfold check at h ⊢
 simp only at h ⊢
 by_cases h1:vG n≠0
 ·rw [if_pos h1] at h;exact absurd h h1
 rw [if_neg h1] at h ⊢
 split at h
 ·simp at h
 rename_i h2;rw [if_neg h2]
 by_cases h3:zZ (shapeOf n.kind) n≠0
 ·rw [if_pos h3] at h;exact absurd h h3
 rw [if_neg h3] at h ⊢
 split at h
 ·simp at h
 rename_i h4;rw [if_neg h4]
 split at h
 ·simp at h
 rename_i h5;rw [if_neg h5]
 simp only [Bool.or_eq_true,Bool.and_eq_true,decide_eq_true_eq,bne_iff_ne,ne_eq,not_or,not_and,Classical.not_not] at h2
 refine ⟨by simpa using h1,h2.1,h2.2,by simpa using h3,fun t ht=>?_,rfl,rfl,by simp only;omega,by simp only;omega⟩
 cases hi:inP L t with
 | true=>rfl
 | false=>exact absurd (List.any_eq_true.2 ⟨t,ht,by simp [hi]⟩) h4
theorem jEH (L:Pool) (n:Node):(make L n).2.2=L∨((check L n).2.2=0∧(make L n).2.2=L++[⟨n,(check L n).1,(check L n).2.1⟩]):=by
 by_cases hc:(check L n).2.2=0
 ·unfold make;simp only [hc];rw [if_neg (by simp)];split
  ·exact .inl rfl
  ·split
   ·exact .inl rfl
   ·exact .inr ⟨trivial,rfl⟩
 ·unfold make;simp only;rw [if_pos hc];exact .inl rfl
theorem jNY {L:Pool} {e:Ent} (h:∀i (hi:i<L.length),check (L.take i) L[i].node=(L[i].size,L[i].depth,0)) (he:check L e.node=(e.size,e.depth,0)):∀i (hi:i<(L++[e]).length),check ((L++[e]).take i) (L++[e])[i].node=((L++[e])[i].size,(L++[e])[i].depth,0):=by
 intro i hi;simp only [List.length_append,List.length_cons,List.length_nil] at hi;by_cases hlt:i<L.length
 ·simp only [List.getElem_append_left hlt];rw [List.take_append_of_le_length (by omega)];exact h i hlt
 ·have:i=L.length:=by omega
  subst this;simp only [List.getElem_append_right (Nat.le_refl _),Nat.sub_self,List.getElem_cons_zero];rw [List.take_left' rfl];exact he
theorem jEG {L:Pool} (h:Wf L) (n:Node):Wf (make L n).2.2:=by
 have ho:=jKB h.ok n;rcases jEH L n with e | ⟨hc,e⟩
 ·rw [e];exact h
 ·rw [e] at ho ⊢;exact ⟨ho,jNY h.each (by rw [← hc])⟩
theorem jUC (t:Tree):∀L,Wf L→Wf (grow L t).2.2:=by
 induction t using Tree.ind with
 | h k f t u x ks ih =>
  have:∀(ks:List Tree),(∀i (hi:i<ks.length),∀L,Wf L→Wf (grow L ks[i]).2.2)→∀n i L,Wf L→Wf (vP n i L ks).2.2:=by
   intro ks;induction ks with
   | nil=>intro _ n i L h;unfold vP;exact jEG h n
   | cons t ts iht =>
    intro hh n i L h
    have h0:=hh 0 (by simp) L h
    simp only [List.getElem_cons_zero] at h0
    unfold vP
    split
    ·exact h0
    ·exact iht (fun i hi=>hh (i+1) (by simpa using hi)) _ _ _ h0
  intro L h
  unfold grow
  exact this ks ih _ _ L h
theorem of_wf {L:Pool} (h:Wf L) (t:Tree):Wf (of L t).2.2:=by
 unfold of;split
 ·exact h
 ·split
  ·exact h
  ·exact jUC t L h
theorem jGL {L M:Pool} {t:Int} (h:inP L t=true):inP (L++M) t=true:=by
 have:=vB.1 h;exact vB.2 ⟨this.1,by rw [List.length_append];omega⟩
theorem jKI {L M:Pool} {t:Int} (h:inP L t=true):get (L++M) t=get L t:=by
 obtain ⟨i,hi,rfl⟩:=jBR h;rw [jLI hi,jLI (by rw [List.length_append];omega),List.getElem_append_left hi]
theorem jMQ {L M:Pool} {t:Int} (h:inP L t=true):nodeOf (L++M) t=nodeOf L t:=by unfold nodeOf;rw [jKI h]
theorem jMB {L M:Pool} {t:Int} (h:inP L t=true):sizeOf (L++M) t=sizeOf L t:=by unfold sizeOf;rw [jKI h]
theorem jKJ {L M:Pool} {t:Int} (h:inP L t=true):depthOf (L++M) t=depthOf L t:=by unfold depthOf;rw [jKI h]
theorem Wf.node {L:Pool} (h:Wf L) {t:Int} (ht:inP L t=true):vG (nodeOf L t)=0∧((shapeOf (nodeOf L t).kind).kids<1→(nodeOf L t).a=0)∧((shapeOf (nodeOf L t).kind).kids<2→(nodeOf L t).b=0)∧zZ (shapeOf (nodeOf L t).kind) (nodeOf L t)=0 ∧
  (∀k∈zM (nodeOf L t),inP L k=true∧k<t)∧sizeOf L t=1+((zM (nodeOf L t)).map (sizeOf L)).sum∧depthOf L t=(zM (nodeOf L t)).foldl (fun d k=>max d (depthOf L k)) 0+1:=by
 obtain ⟨i,hi,rfl⟩:=jBR ht
 have he:=h.each i hi
 have hz:=jNA (L:=L.take i) (n:=L[i].node) (by rw [he])
 rw [qS hi]
 obtain ⟨h1,h2,h3,h4,h5,h6,h7,_,_⟩:=hz
 have hin:∀k∈zM L[i].node,inP (L.take i) k=true∧inP L k=true∧k<(i:Int)+1:=by
  intro k hk;have hk':=h5 k hk;have hk2:=vB.1 hk';have:L.take i++L.drop i=L:=List.take_append_drop i L;refine ⟨hk',by rw [← this];exact jGL hk',?_⟩;rw [List.length_take] at hk2;omega
 have hsz:∀k∈zM L[i].node,sizeOf (L.take i) k=sizeOf L k∧depthOf (L.take i) k=depthOf L k:=by
  intro k hk;have hk':=(hin k hk).1;have:L.take i++L.drop i=L:=List.take_append_drop i L;exact ⟨by rw [← jMB (M:=L.drop i) hk',this],by rw [← jKJ (M:=L.drop i) hk',this]⟩
 refine ⟨h1,h2,h3,h4,fun k hk=>⟨(hin k hk).2.1,(hin k hk).2.2⟩,?_,?_⟩
 ·have:sizeOf L ((i:Int)+1)=L[i].size:=by simp [sizeOf,jLI hi]
  rw [this]
  rw [he] at h6
  simp only at h6
  rw [h6]
  congr 2
  exact List.map_congr_left (fun k hk=>(hsz k hk).1)
 ·have:depthOf L ((i:Int)+1)=L[i].depth:=by simp [depthOf,jLI hi]
  rw [this]
  rw [he] at h7
  simp only at h7
  rw [h7]
  congr 1
  have:∀(l:List Int) (d:Int),(∀k∈l,depthOf (L.take i) k=depthOf L k)→l.foldl (fun d t=>max d (depthOf (L.take i) t)) d=l.foldl (fun d k=>max d (depthOf L k)) d:=by
   intro l;induction l with
   | nil=>intro d _;rfl
   | cons a l ih=>intro d hh;simp only [List.foldl_cons];rw [hh a (by simp)];exact ih _ (fun k hk=>hh k (by simp [hk]))
  exact this _ _ (fun k hk=>(hsz k hk).2)
def jEF:Tree:=.mk 0 0 0 0 ⟨#[]⟩ []
def jFZ (L:Pool):Nat→Int→Tree
 | 0,_=>jEF
 | fuel+1,t=>if inP L t=true then .mk (nodeOf L t).kind (nodeOf L t).frm (nodeOf L t).to (nodeOf L t).num (nodeOf L t).text ((zM (nodeOf L t)).map (jFZ L fuel)) else jEF
def zU (L:Pool) (t:Int):Tree:=jFZ L t.toNat t
theorem xU {L:Pool} {t:Int} (h:inP L t=false) (f:Nat):jFZ L f t=jEF:=by
 cases f <;> simp [jFZ,h]
theorem jLZ {L:Pool} (h:Wf L):∀(f:Nat) (t:Int),t.toNat≤f→jFZ L f t=zU L t:=by
 have key:∀(f g:Nat) (t:Int),t.toNat≤f→t.toNat≤g→jFZ L f t=jFZ L g t:=by
  intro f;induction f with
  | zero =>
   intro g t hf hg
   have:inP L t=false:=by
    apply Bool.eq_false_iff.2;intro hi;have:=vB.1 hi;omega
   rw [xU this,xU this]
  | succ f ih =>
   intro g t hf hg
   cases hi:inP L t with
   | false=>rw [xU hi,xU hi]
   | true =>
    have hpos:=vB.1 hi
    cases g with
    | zero=>omega
    | succ g =>
     simp only [jFZ,hi,if_true]
     congr 1
     refine List.map_congr_left (fun k hk=>ih g k ?_ ?_)
     ·have:=((h.node hi).2.2.2.2.1 k hk).2;omega
     ·have:=((h.node hi).2.2.2.2.1 k hk).2;omega
 intro f t hf;exact key f t.toNat t hf (Nat.le_refl _)
theorem jDR {L:Pool} {t:Int} (h:inP L t=false):zU L t=jEF:=xU h _
theorem yJ {L:Pool} (h:Wf L) {t:Int} (ht:inP L t=true):zU L t=.mk (nodeOf L t).kind (nodeOf L t).frm (nodeOf L t).to (nodeOf L t).num (nodeOf L t).text ((zM (nodeOf L t)).map (zU L)):=by
 have hpos:=vB.1 ht;have e:t.toNat=(t.toNat - 1)+1:=by omega
 unfold zU;rw [e];simp only [jFZ,ht,if_true];congr 1;refine List.map_congr_left (fun k hk=>?_);have:=((h.node ht).2.2.2.2.1 k hk).2;exact jLZ h _ k (by omega)
theorem Wf.first {L M:Pool} (h:Wf (L++M)):Wf L:=by
 refine ⟨⟨by have:=h.ok.few;rw [List.length_append] at this;omega,?_,fun e he=>h.ok.size e (by simp [he]),fun e he=>h.ok.depth e (by simp [he])⟩,fun i hi=>?_⟩
 ·have:=h.ok.nodup;rw [List.map_append] at this;exact (List.nodup_append.1 this).1
 ·have:=h.each i (by rw [List.length_append];omega);rw [List.getElem_append_left hi,List.take_append_of_le_length (by omega)] at this;exact this
theorem jFF {L M:Pool} (h:Wf (L++M)):∀(n:Nat) (t:Int),t.toNat=n→inP L t=true→zU (L++M) t=zU L t:=by
 have hL:=h.first;intro n;induction n using Nat.strongRecOn with
 | _ n ih =>
  intro t hn ht
  rw [yJ h (jGL ht),yJ hL ht,jMQ ht]
  congr 1
  refine List.map_congr_left (fun k hk=>?_)
  have hk':=(hL.node ht).2.2.2.2.1 k hk
  have:=vB.1 hk'.1
  exact ih k.toNat (by omega) k rfl hk'.1
theorem jEM {L:Pool} {n:Node} {i:Nat} (h:find L n=some i):∃hi:i<L.length,L[i].node=n:=by
 unfold find at h;rw [List.findIdx?_eq_some_iff_getElem] at h;obtain ⟨hi,h1,_⟩:=h;exact ⟨hi,by simpa using h1⟩
theorem jBN {L:Pool} {n:Node} (h:(make L n).2.1=0):inP (make L n).2.2 (make L n).1=true∧nodeOf (make L n).2.2 (make L n).1=n∧(check L n).2.2=0:=by
 unfold make at h ⊢;simp only at h ⊢;by_cases hc:(check L n).2.2≠0
 ·rw [if_pos hc] at h;exact absurd h hc
 ·rw [if_neg hc] at h ⊢;have hc:(check L n).2.2=0:=by simpa using hc
  cases hf:find L n with
  | some i =>
   obtain ⟨hi,hn⟩:=jEM hf
   simp only
   exact ⟨vB.2 ⟨by omega,by omega⟩,by rw [qS hi,hn],hc⟩
  | none =>
   rw [hf] at h
   simp only at h ⊢
   split at h
   ·simp at h
   ·rename_i hl
    rw [if_neg hl]
    simp only
    have hi:L.length<(L++[(⟨n,(check L n).1,(check L n).2.1⟩:Ent)]).length:=by simp
    refine ⟨vB.2 ⟨by omega,by simp⟩,?_,hc⟩
    rw [qS hi]
    simp
theorem jDH (L:Pool) (n:Node):∃M,(make L n).2.2=L++M:=jFN L n
theorem jMT (n:Node):(zM n).length=(shapeOf n.kind).kids.toNat:=by
 unfold zM;rcases qX n.kind with h | h | h <;> simp [h]
inductive Good:Tree→Prop
 | mk (k f t u:Int) (x:ByteArray) (ks:List Tree) (own:xY ⟨k,f,t,u,x,0,0⟩ ks.length=0) (kids:∀i (hi:i<ks.length),Good ks[i]):Good (.mk k f t u x ks)
theorem jCA {L:Pool} (hW:Wf L):∀(n:Nat) (s t:Int),s.toNat+t.toNat=n→inP L s=true→inP L t=true→zU L s=zU L t→s=t:=by
 intro n;induction n using Nat.strongRecOn with
 | _ n ih =>
  intro s t hn hs ht he
  rw [yJ hW hs,yJ hW ht] at he
  injection he with e1 e2 e3 e4 e5 e6
  obtain ⟨i,hi,rfl⟩:=jBR hs
  obtain ⟨j,hj,rfl⟩:=jBR ht
  have hki:=(hW.node hs)
  have hkj:=(hW.node ht)
  rw [qS hi] at e1 e2 e3 e4 e5 e6 hki
  rw [qS hj] at e1 e2 e3 e4 e5 e6 hkj
  generalize hni:L[i].node=ni at *
  generalize hnj:L[j].node=nj at *
  have hsame:∀a∈zM ni,∀b∈zM nj,zU L a=zU L b→a=b:=by
   intro a ha b hb hab;have h1:=hki.2.2.2.2.1 a ha;have h2:=hkj.2.2.2.2.1 b hb;have p1:=vB.1 h1.1;have p2:=vB.1 h2.1;exact ih (a.toNat+b.toNat) (by omega) a b rfl h1.1 h2.1 hab
  have hab:ni.a=nj.a∧ni.b=nj.b:=by
   have z1:=hki.2.1;have z2:=hki.2.2.1;have z3:=hkj.2.1;have z4:=hkj.2.2.1;unfold zM at e6 hsame;rw [← e1] at e6 hsame z3 z4;rcases qX ni.kind with h | h | h <;> rw [h] at e6 hsame z1 z2 z3 z4
   ·exact ⟨by rw [z1 (by omega),z3 (by omega)],by rw [z2 (by omega),z4 (by omega)]⟩
   ·simp at e6 hsame;exact ⟨hsame e6,by rw [z2 (by omega),z4 (by omega)]⟩
   ·simp at e6 hsame;exact ⟨hsame.1.1 e6.1,hsame.2.2 e6.2⟩
  have hnn:L[i].node=L[j].node:=by
   rw [hni,hnj];obtain ⟨_,_,_,_,_,_,_⟩:=ni;obtain ⟨_,_,_,_,_,_,_⟩:=nj;simp at e1 e2 e3 e4 e5 hab;simp [e1,e2,e3,e4,e5,hab]
  have:=List.pairwise_iff_getElem.1 hW.ok.nodup
  have hij:i=j:=by
   rcases Nat.lt_trichotomy i j with h | h | h
   ·exact absurd (by rw [List.getElem_map,List.getElem_map];exact hnn) (this i j (by simpa using hi) (by simpa using hj) h)
   ·exact h
   ·exact absurd (by rw [List.getElem_map,List.getElem_map];exact hnn.symm) (this j i (by simpa using hj) (by simpa using hi) h)
  rw [hij]
end Go.Sp
end
section
namespace Go.Sp
mutual
def cnt:Tree→Nat
 | .mk _ _ _ _ _ ks=>1+jST ks
def jST:List Tree→Nat
 | []=>0
 | t :: ts=>cnt t+jST ts
end
mutual
def parts (most:Int):Tree→Int
 | .mk _ _ _ _ _ ks=>jLF most 1 ks
def jLF (most n:Int):List Tree→Int
 | []=>n
 | t :: ts=>if n≤most then jLF most (n+parts (most - n) t) ts else n
end
mutual
def same:Tree→Tree→Bool
 | .mk k f t u x ks,.mk k' f' t' u' x' ks'=>decide (k=k') && decide (f=f') && decide (t=t') && decide (u=u') && decide (x=x') && yG ks ks'
def yG:List Tree→List Tree→Bool
 | [],[]=>true
 | t :: ts,t' :: ts'=>same t t' && yG ts ts'
 | _,_=>false
end
theorem jQM (a:Tree):∀b,same a b=true↔a=b:=by
 induction a using Tree.ind with
 | h k f t u x ks ih =>
  have hA:∀(ks:List Tree),(∀i (hi:i<ks.length),∀b,same ks[i] b=true↔ks[i]=b)→∀ks',yG ks ks'=true↔ks=ks':=by
   intro ks;induction ks with
   | nil=>intro _ ks';cases ks' <;> simp [yG]
   | cons t ts iht =>
    intro hh ks'
    cases ks' with
    | nil=>simp [yG]
    | cons t' ts' =>
     have h0:=hh 0 (by simp) t'
     simp only [List.getElem_cons_zero] at h0
     simp only [yG,Bool.and_eq_true,h0,iht (fun i hi=>hh (i+1) (by simpa using hi)) ts',List.cons.injEq]
  intro b
  obtain ⟨k',f',t',u',x',ks'⟩:=b
  simp only [same,Bool.and_eq_true,decide_eq_true_eq,hA ks ih ks',Tree.mk.injEq]
  constructor
  ·rintro ⟨⟨⟨⟨⟨h1,h2⟩,h3⟩,h4⟩,h5⟩,h6⟩;exact ⟨h1,h2,h3,h4,h5,h6⟩
  ·rintro ⟨h1,h2,h3,h4,h5,h6⟩;exact ⟨⟨⟨⟨⟨h1,h2⟩,h3⟩,h4⟩,h5⟩,h6⟩
end Go.Sp
end
section
namespace Go.Sp
def isSigned (k:Int):Bool:=(k == 1 || k == 2) || k == 4
def isTexted (k:Int):Bool:=isSigned k || k == 6
def qO (l:Letter):Int :=
 if l.kind<1∨l.kind>7∨(l.frm≠0∧l.frm≠1)∨(isSigned l.kind=false∧l.frm≠0)∨(isTexted l.kind=false∧l.text≠⟨#[]⟩)∨(l.fake=true∧l.kind≠1∧l.kind≠4) then 110 else if l.text.size>64 then 1 else 0
end Go.Sp
end
