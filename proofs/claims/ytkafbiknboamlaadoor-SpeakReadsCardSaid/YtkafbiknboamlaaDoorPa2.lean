import Derived.Test.YtkafbiknboamlaaDoorProg
import Derived.KernelRfl
import Derived.Test.YtkafbiknboamlaaDoorPa1
import Derived.IntWalk
import Derived.Shelf.Strconv.Itoa3
import Derived.Laws.DeepStrings4
import Derived.Laws.Strings
import Derived.Laws.Concat
section
open Go Go.SE
open Go.IntKind renaming i64 → q6
namespace Go.Proofs
open Tryd
set_option maxRecDepth 100000
set_option maxHeartbeats 4000000
attribute [local irreducible] wpL wpX opE wpE Calls
def m_C1  (w:World) (K:(Option Addr)→WP):Prop :=∀p1 w1,New w (.map #[] 0) p1 w1→∀p2 w2,New w1 (.cells #[Sl.nil.v,(.map (some p1.block))] 66) p2 w2→K (some p2) w2
theorem w_C1  (w:World) (K:(Option Addr)→WP) (h:m_C1  w K) :
  Calls prog 17 #[] w (fun e w'=>∃r1,e=.returned (vp r1)∧K r1 w'):=by
 refine cw (args:=[]) func17 ntmps17 (eg (q0 (vp none) (ln (eg (kU (O:=(.map #[] 0)) (fun p=>.map (some p.block)) (jF rfl) (by kernel_rfl) ?_)))))
 intro p1 w1 hn2
 have h:=h p1 w1 hn2
 refine q (nw1 h xb fun p2 w2 h=>q (ln (er (rs1 results17 ⟨(some p2),rfl,h⟩))))
def m_Y (p1:Option Addr) (aM aN:Int) (aO aP:Int) (aQ:ByteArray) (aR:Sl) (w:World) (K:Int→Int→WP):Prop :=∀p2 w1,New w (.cells #[(vi aM),(vi aN),(vi aO),(vu aP),(vs aQ),aR.v] 25) p2 w1→Br (Option.isNone p1) (K 0 0 w1) (∀p3 w2,New w1 (.cells #[(vi 0)] 3) p3 w2→kD w2 p3∧∀w3,w3=w2.setCell p3 (vi 0)→∃aA aB aC aD aE bF,Row w3 p2 (Aa aA aB aC aD aE bF)∧Calls prog 27 #[(.agg #[(vi aA),(vi aB),(vi aC),(vu aD),(vs aE),bF.v]),(vi 0),(vp (some p3))] w3 (fun e w4=>∃r1,e=.returned (vi r1)∧Br (r1 != 0) (K 0 r1 w4) (∃a1,p1=some a1∧∃v1:Sl,w4.cell? a1=some v1.v∧∃aF aG aH aI aJ bE,Row w4 p2 (Aa aF aG aH aI aJ bE)∧Calls prog 28 #[(vp p1),(.agg #[(vi aF),(vi aG),(vi aH),(vu aI),(vs aJ),bE.v])] w4 (fun e w5=>∃r2 r3,e=.returned (.tuple #[(vi r2),(vi r3)])∧Br (r3 != 0) (Calls prog 29 #[(vp p1),(vi (v1.len:Int))] w5 (fun e w6=>e=.returned (.tuple #[])∧K 0 r3 w6)) (K r2 0 w5)))))
theorem w_Y (p1 aM aN aO aP aQ aR w K) (h:m_Y p1 aM aN aO aP aQ aR w K):
  Calls prog 18 #[(vp p1),(.agg #[(vi aM),(vi aN),(vi aO),(vu aP),(vs aQ),aR.v])] w (fun e w'=>∃r4 r5,e=.returned (.tuple #[(vi r4),(vi r5)])∧K r4 r5 w'):=by
 refine cw (args:=[(vp p1),(Ab aM aN aO aP aQ aR)]) func18 ntmps18 (eg (sn (O:=(.cells #[(vi aM),(vi aN),(vi aO),(vu aP),(vs aQ),aR.v] 25)) xb ?_))
 intro p2 w1 hn3
 have h:=h p2 w1 hn3
 refine qb (ln (jC (eg (q (q2 (vb (Option.isNone p1)) (jBS (by kernel_rfl) rfl underlying46) (ln (cbr h ?_ ?_)))))))<;>intro h
 refine eg (qb (ln (er (kB (lC (.inl rfl) results18 (v:=(vi 0)) (by kernel_rfl) (v':=(vi 0)) (by kernel_rfl) ⟨0,0,rfl,h⟩)))))
 refine jG (jM (eg (nw1 h (jV (zeroValue3 _) rfl) fun p3 w2 h=>st1 (sizeOf3 _) h fun w3 h=>ln (jC (eg ?_)))))
 obtain ⟨aA,aB,aC,aD,aE,bF,hv3,h⟩:=h
 refine qa (isAgg25 _) (sizeOf25 _) hv3 (sc call27 (h.mono fun e w4 ⟨r1,k,h⟩=>⟨_,k,?_⟩))
 refine q (ln (eg (qb (ln (cbr h ?_ ?_)))))<;>intro h
 refine eg (qc (ln (er (kB (lC (.inl rfl) results18 (v:=(vi 0)) (by kernel_rfl) (v':=(vi r1)) (by kernel_rfl) ⟨0,r1,rfl,h⟩)))))
 refine jG (jM (eg (q (qm h fun a1 h=>q (ql (isAgg64 _) h fun v1 h=>qb (ln (eg (q ?_))))))))
 obtain ⟨aF,aG,aH,aI,aJ,bE,hv1,h⟩:=h
 refine qa (isAgg25 _) (sizeOf25 _) hv1 (sc call28 (h.mono fun e w5 ⟨r2,r3,k,h⟩=>⟨_,k,?_⟩))
 refine q (qd (ln (jC (eg (qb (ln (cbr h ?_ ?_)))))))<;>intro h
 refine eg (qb (sc call29 (h.mono fun e w6 ⟨k,h⟩=>⟨_,k,?_⟩)))
 refine ln (eg (qc (ln (er (kB (lC (.inl rfl) results18 (v:=(vi 0)) (by kernel_rfl) (v':=(vi r3)) (by kernel_rfl) ⟨0,r3,rfl,h⟩))))))
 refine jG (jM (eg (qc (ln (er (lC (.inl rfl) results18 (v:=(vi r2)) (by kernel_rfl) (v':=(vi 0)) (by kernel_rfl) ⟨r2,0,rfl,h⟩))))))
def m_D_l4 (inside1:Int) (seen1:Option Addr) (p1:Addr) (e3 i1:Int) (wl1:World) (Kc4:Int→Int→WP) (K:Int→WP):Prop :=∃v2:Sl,wl1.cell? (p1.add 5)=some v2.v∧Br (decide (i1<(v2.len:Int))) (Br (e3 == 0) (∃v3:Sl,wl1.cell? (p1.add 5)=some v3.v∧∃a3:Addr,At v3 i1 6 a3∧∃aZ bA bB bC bD bE,Row wl1 a3 (Aa aZ bA bB bC bD bE)∧Calls prog 27 #[(.agg #[(vi aZ),(vi bA),(vi bB),(vu bC),(vs bD),bE.v]),(vi (q6.wrap (inside1+1))),(vp seen1)] wl1 (fun e w9=>∃r2,e=.returned (vi r2)∧Kc4 r2 (q6.wrap (i1+1)) w9)) (K e3 wl1)) (K e3 wl1)
def m_D_j3 (inside1:Int) (seen1:Option Addr) (p1:Addr) (e2:Int) (w:World) (K:Int→WP):Prop :=∃(I1:Int→Int→WP) (mu1:Int→Int→World→Nat),I1 e2 0 w∧∀(e3 i1:Int) (wl1:World),I1 e3 i1 wl1→m_D_l4 inside1 seen1 p1 e3 i1 wl1 (fun y'0 y'1 w'=>I1 y'0 y'1 w'∧mu1 y'0 y'1 w'<mu1 e3 i1 wl1) K
def m_D_j2 (inside1:Int) (seen1:Option Addr) (p1 p2 p3:Addr) (e1:Int) (w:World) (K:Int→WP):Prop :=Br (e1 == 0) (∃vfrom1 vto1 vnum1 vtext1 vkids1,Row w p3 (Ae vfrom1 vto1 vnum1 vtext1 vkids1)∧∃bG bH bI bJ bK bL bM,Row w p2 (Ac bG bH bI bJ bK bL bM)∧Calls prog 47 #[(.agg #[(vb vfrom1),(vb vto1),(vb vnum1),(vb vtext1),(vi vkids1)]),(.agg #[(vi bG),(vi bH),(vi bI),(vu bJ),(vs bK),(vi bL),(vi bM)])] w (fun e w10=>∃r3,e=.returned (vi r3)∧m_D_j3 inside1 seen1 p1 r3 w10 K)) (m_D_j3 inside1 seen1 p1 e1 w K)
def m_D_j1 (inside1:Int) (seen1:Option Addr) (p1:Addr) (w:World) (K:Int→WP):Prop :=∃a1,seen1=some a1∧∃v1,w.cell? a1=some (vi v1)∧∃a2,seen1=some a2∧kD w a2∧∀w2,w2=w.setCell a2 (vi (q6.wrap (v1+1)))→∃aA aB aC aD aE bF,Row w2 p1 (Aa aA aB aC aD aE bF)∧Calls prog 45 #[(.agg #[(vi aA),(vi aB),(vi aC),(vu aD),(vs aE),bF.v])] w2 (fun e w3=>∃bN bO bP bQ bR bS bT,e=.returned (Ad bN bO bP bQ bR bS bT)∧∀p2 w4,New w3 (.cells #[(vi 0),(vi 0),(vi 0),(vu 0),ve,(vi 0),(vi 0)] 84) p2 w4→(∀j,j<7→kD w4 (p2.add j))∧∀w5,w5=storeRow w4 p2 (Ac bN bO bP bQ bR bS bT)→∃aF aG aH aI aJ aK aL,Row w5 p2 (Ac aF aG aH aI aJ aK aL)∧Calls prog 46 #[(.agg #[(vi aF),(vi aG),(vi aH),(vu aI),(vs aJ),(vi aK),(vi aL)])] w5 (fun e w6=>∃rfrom1 rto1 rnum1 rtext1 rkids1 r1,e=.returned (.tuple #[(Ai rfrom1 rto1 rnum1 rtext1 rkids1),(vi r1)])∧∀p3 w7,New w6 (.cells #[(vb false),(vb false),(vb false),(vb false),(vi 0)] 87) p3 w7→(∀j,j<5→kD w7 (p3.add j))∧∀w8,w8=storeRow w7 p3 (Ae rfrom1 rto1 rnum1 rtext1 rkids1)→Br (r1 == 0) (∃v4:Sl,w8.cell? (p1.add 5)=some v4.v∧∃v5,w8.cell? (p3.add 4)=some (vi v5)∧Br (((v4.len:Int):Int) != v5) (m_D_j2 inside1 seen1 p1 p2 p3 53 w8 K) (m_D_j2 inside1 seen1 p1 p2 p3 r1 w8 K)) (m_D_j2 inside1 seen1 p1 p2 p3 r1 w8 K)))
def m_D (aM aN:Int) (aO aP:Int) (aQ:ByteArray) (aR:Sl) (inside1:Int) (seen1:Option Addr) (w:World) (K:Int→WP):Prop :=∀p1 w1,New w (.cells #[(vi aM),(vi aN),(vi aO),(vu aP),(vs aQ),aR.v] 25) p1 w1→∃a4,seen1=some a4∧∃v6,w1.cell? a4=some (vi v6)∧Br (decide (v6≥4096)) (K 52 w1) (Br (decide (inside1≥64)) (K 52 w1) (m_D_j1 inside1 seen1 p1 w1 K))
theorem w_D (aM aN aO aP aQ aR inside1 seen1 w K) (h:m_D aM aN aO aP aQ aR inside1 seen1 w K):
  Calls prog 27 #[(.agg #[(vi aM),(vi aN),(vi aO),(vu aP),(vs aQ),aR.v]),(vi inside1),(vp seen1)] w (fun e w'=>∃r4,e=.returned (vi r4)∧K r4 w'):=by
 refine cw (args:=[(Ab aM aN aO aP aQ aR),(vi inside1),(vp seen1)]) func27 ntmps27 (eg (sn (O:=(.cells #[(vi aM),(vi aN),(vi aO),(vu aP),(vs aQ),aR.v] 25)) xb ?_))
 intro p1 w1 hn6
 have h:=h p1 w1 hn6
 refine q (ln (qS (fun ρ w=>Has ρ [(1,(vi inside1)),(2,(vp seen1)),(3,(vp (some p1)))]∧m_D_j1 inside1 seen1 p1 w K) ?_ ?_))
 rintro ρ w ⟨hH,h⟩
 refine jZ hH (eg (q (qm h fun a1 h=>ql (isAgg3 _) h fun v1 h=>q (qm h fun a2 h=>st1 (sizeOf3 _) h fun w2 h=>ln (eg ?_)))))
 obtain ⟨aA,aB,aC,aD,aE,bF,hv10,h⟩:=h
 refine qa (isAgg25 _) (sizeOf25 _) hv10 (sc call45 (h.mono fun e w3 ⟨bN,bO,bP,bQ,bR,bS,bT,k,h⟩=>⟨_,k,?_⟩))
 refine nw1 h (jV (zeroValue84 _) rfl) fun p2 w4 h=>sro (sizeOf84 _) h fun w5 h=>ln (eg ?_)
 obtain ⟨aF,aG,aH,aI,aJ,aK,aL,hv9,h⟩:=h
 refine qa (isAgg84 _) (sizeOf84 _) hv9 (sc call46 (h.mono fun e w6 ⟨rfrom1,rto1,rnum1,rtext1,rkids1,r1,k,h⟩=>⟨_,k,?_⟩))
 refine qc (nw1 h (jV (zeroValue87 _) rfl) fun p3 w7 h=>sro (sizeOf87 _) h fun w8 h=>q (ln (qS (fun ρ w=>∃e1,Has ρ [(1,(vi inside1)),(2,(vp seen1)),(3,(vp (some p1))),(7,(vp (some p2))),(8,(vp (some p3))),(9,(vi e1))]∧m_D_j2 inside1 seen1 p1 p2 p3 e1 w K) ?_ ?_)))
 rintro ρ w ⟨e1,hH,h⟩
 refine jZ hH (qS (fun ρ w=>∃e2,Has ρ [(1,(vi inside1)),(2,(vp seen1)),(3,(vp (some p1))),(9,(vi e2))]∧m_D_j3 inside1 seen1 p1 e2 w K) ?_ ?_)
 rintro ρ w ⟨e2,hH,h⟩
 refine jZ hH (jC (eg (q (ln (jP ?_)))))
 obtain ⟨I1,mu1,h0,hr⟩:=h
 refine kN (σ:=Int×Int×World) (fun s ρ w=>w=s.2.2∧Has ρ [(1,(vi inside1)),(2,(vp seen1)),(3,(vp (some p1))),(9,(vi s.1)),(10,(vi s.2.1))]∧I1 s.1 s.2.1 s.2.2) (fun s=>mu1 s.1 s.2.1 s.2.2) (e2,0,w) ⟨rfl,hm,h0⟩ ?_
 rintro ⟨e3,i1,wl1⟩ ρ w ⟨hw,hH,hI⟩
 dsimp only at hw hH;subst w
 have h:=hr e3 i1 wl1 hI
 refine jZ hH (jC (eg (qb (ql (isAgg23 _) h fun v2 h=>qc ?_))))
 obtain ⟨hg1,h⟩|⟨hg1,h⟩:=h.br
 refine qk 51 hg1 (qk 51 hg1 (q2 (vb (e3 == 0)) (xT hg1) (ln (cbr h ?_ ?_))))<;>intro h
 refine jG (jM (jC (jP (rg (q (ql (isAgg23 _) h fun v3 h=>q (qi (runUnderlying23 _) (sizeOf25 _) h fun a3 h=>?_)))))))
 obtain ⟨aZ,bA,bB,bC,bD,bE,hv1,h⟩:=h
 refine qa (isAgg25 _) (sizeOf25 _) hv1 (qc (sc call27 (h.mono fun e w9 ⟨r2,k,h⟩=>⟨_,k,?_⟩)))
 refine q (jB (kY (jM (rg (qc (ln ⟨(r2,(q6.wrap (i1+1)),w9),⟨rfl,hm,h.1⟩,h.2⟩))))))
 refine zQ (qI (qI (qH (jM (eg (q0 (vi e3) (q0 (vi e3) (ln (er (rs1 results27 ⟨e3,rfl,h⟩))))))))))
 refine sj2 51 hg1 (q2 (vb false) (xF hg1) (ln (zT (by kernel_rfl) (zQ (qI (qI (qH (jM (jC (rg (qb (ln (er (rs1 results27 ⟨e3,rfl,h⟩))))))))))))))
 refine eg (qb (ln (cbr h ?_ ?_)))<;>intro h
 refine rg ?_
 obtain ⟨vfrom1,vto1,vnum1,vtext1,vkids1,hv6,h⟩:=h
 refine qa (isAgg87 _) (sizeOf87 _) hv6 ?_
 obtain ⟨bG,bH,bI,bJ,bK,bL,bM,hv5,h⟩:=h
 refine qa (isAgg84 _) (sizeOf84 _) hv5 (sc call47 (h.mono fun e w10 ⟨r3,k,h⟩=>⟨_,k,?_⟩))
 refine q (ln ⟨r3,hm,h⟩)
 refine jG (jM ⟨e1,hm,h⟩)
 refine eg (qc ?_)
 obtain ⟨hg2,h⟩|⟨hg2,h⟩:=h.br
 refine qk 33 hg2 ?_
 obtain ⟨v4,hv8,h⟩:=h
 refine q4 33 hg2 (xl (isAgg23 _) hv8) (qk 33 hg2 (qk 33 hg2 ?_))
 obtain ⟨v5,hv7,h⟩:=h
 refine q4 33 hg2 (xl (isAgg3 _) hv7) (qk 33 hg2 (q2 (vb (((v4.len:Int):Int) != v5)) (xT hg2) (ln (cbr h ?_ ?_))))<;>intro h
 refine rg (q (ln ⟨53,hm,h⟩))
 refine jG (jM ⟨r1,hm,h⟩)
 refine sj 33 hg2 (sj5 33 hg2 (q2 (vb false) (xF hg2) (ln (zT (by kernel_rfl) (jG (jM ⟨r1,hm,h⟩))))))
 refine eg (q (qm h fun a4 h=>ql (isAgg3 _) h fun v6 h=>qb ?_))
 obtain ⟨hg3,h⟩|⟨hg3,h⟩:=h.br
 refine sj2 15 hg3 (q2 (vb true) (xT hg3) (ln (kE (by kernel_rfl) (eg (q0 (vi 52) (ln (er (kB (rs1 results27 ⟨52,rfl,h⟩)))))))))
 refine qk 15 hg3 (qk 15 hg3 (q2 (vb (decide (inside1≥64))) (xF hg3) (ln (cbr h ?_ ?_))))<;>intro h
 refine eg (q (ln (er (kB (rs1 results27 ⟨52,rfl,h⟩)))))
 refine jG (jM ⟨hm,h⟩)
def m_Q_l1 (p1:Option Addr) (p3 p4:Addr) (v1:Sl) (x1:Int) (wl1:World) (Kc1:Int→WP) (K:Int→Int→WP):Prop :=Br (decide (x1<(v1.len:Int))) (∃a1:Addr,At v1 x1 6 a1∧∃aF aG aH aI aJ bE,Row wl1 a1 (Aa aF aG aH aI aJ bE)∧∀p5 w6,New wl1 (.cells #[(vi 0),(vi 0),(vi 0),(vu 0),ve,Sl.nil.v] 25) p5 w6→(∀j,j<6→kD w6 (p5.add j))∧∀w7,w7=storeRow w6 p5 (Aa aF aG aH aI aJ bE)→∃aZ bA bB bC bD cD,Row w7 p5 (Aa aZ bA bB bC bD cD)∧Calls prog 28 #[(vp p1),(.agg #[(vi aZ),(vi bA),(vi bB),(vu bC),(vs bD),cD.v])] w7 (fun e w8=>∃r1 r2,e=.returned (.tuple #[(vi r1),(vi r2)])∧Br (r2 != 0) (K 0 r2 w8) (∃a2:Addr,At (Sl.mk (some p4) 2 2) x1 1 a2∧∃v2,w8.cell? a2=some (vp v2)∧∃a3,v2=some a3∧kD w8 a3∧∀w9,w9=w8.setCell a3 (vi r1)→Kc1 (q6.wrap (x1+1)) w9))) (∃bG bH bI bJ bK aK aL,Row wl1 p3 (Ac bG bH bI bJ bK aK aL)∧Calls prog 48 #[(vp p1),(.agg #[(vi bG),(vi bH),(vi bI),(vu bJ),(vs bK),(vi aK),(vi aL)])] wl1 (fun e w10=>∃r3 r4,e=.returned (.tuple #[(vi r3),(vi r4)])∧K r3 r4 w10))
def m_Q (p1:Option Addr) (aM aN:Int) (aO aP:Int) (aQ:ByteArray) (aR:Sl) (w:World) (K:Int→Int→WP):Prop :=∀p2 w1,New w (.cells #[(vi aM),(vi aN),(vi aO),(vu aP),(vs aQ),aR.v] 25) p2 w1→∃aA aB aC aD aE bF,Row w1 p2 (Aa aA aB aC aD aE bF)∧Calls prog 45 #[(.agg #[(vi aA),(vi aB),(vi aC),(vu aD),(vs aE),bF.v])] w1 (fun e w2=>∃bN bO bP bQ bR bS bT,e=.returned (Ad bN bO bP bQ bR bS bT)∧∀p3 w3,New w2 (.cells #[(vi 0),(vi 0),(vi 0),(vu 0),ve,(vi 0),(vi 0)] 84) p3 w3→(∀j,j<7→kD w3 (p3.add j))∧∀w4,w4=storeRow w3 p3 (Ac bN bO bP bQ bR bS bT)→∀p4 w5,New w4 (.cells #[(vp (some (p3.add 5))),(vp (some (p3.add 6)))] 91) p4 w5→∃v1:Sl,w5.cell? (p2.add 5)=some v1.v∧∃(I1:Int→WP) (mu1:Int→World→Nat),I1 0 w5∧∀(x1:Int) (wl1:World),I1 x1 wl1→m_Q_l1 p1 p3 p4 v1 x1 wl1 (fun y'0 w'=>I1 y'0 w'∧mu1 y'0 w'<mu1 x1 wl1) K)
theorem w_Q (p1 aM aN aO aP aQ aR w K) (h:m_Q p1 aM aN aO aP aQ aR w K):
  Calls prog 28 #[(vp p1),(.agg #[(vi aM),(vi aN),(vi aO),(vu aP),(vs aQ),aR.v])] w (fun e w'=>∃r5 r6,e=.returned (.tuple #[(vi r5),(vi r6)])∧K r5 r6 w'):=by
 refine cw (args:=[(vp p1),(Ab aM aN aO aP aQ aR)]) func28 ntmps28 (eg (sn (O:=(.cells #[(vi aM),(vi aN),(vi aO),(vu aP),(vs aQ),aR.v] 25)) xb ?_))
 intro p2 w1 hn7
 have h:=h p2 w1 hn7
 refine qb (ln (eg ?_))
 obtain ⟨aA,aB,aC,aD,aE,bF,hv8,h⟩:=h
 refine qa (isAgg25 _) (sizeOf25 _) hv8 (sc call45 (h.mono fun e w2 ⟨bN,bO,bP,bQ,bR,bS,bT,k,h⟩=>⟨_,k,?_⟩))
 refine nw1 h (jV (zeroValue84 _) rfl) fun p3 w3 h=>sro (sizeOf84 _) h fun w4 h=>ln (eg (qb (nw4 (fun p=>(Sl.mk (some p) 2 2).v) h fun p4 w5 h=>q (ln (jC (eg (q (ql (isAgg23 _) h fun v1 h=>qb (ln (jP ?_))))))))))
 obtain ⟨I1,mu1,h0,hr⟩:=h
 refine kN (σ:=Int×World) (fun s ρ w=>w=s.2∧Has ρ [(0,(vp p1)),(6,(vp (some p3))),(7,(Sl.mk (some p4) 2 2).v),(18,v1.v),(19,(vi (v1.len:Int))),(20,(vi s.1))]∧I1 s.1 s.2) (fun s=>mu1 s.1 s.2) (0,w5) ⟨rfl,hm,h0⟩ ?_
 rintro ⟨x1,wl1⟩ ρ w ⟨hw,hH,hI⟩
 dsimp only at hw hH;subst w
 have h:=hr x1 wl1 hI
 refine jZ hH (eg (q (ln (jC (cbr h ?_ ?_)))))<;>intro h
 refine jG (jM (jC (jP (eg (q (qi (runUnderlying23 _) (sizeOf25 _) h fun a1 h=>?_))))))
 obtain ⟨aF,aG,aH,aI,aJ,bE,hv4,h⟩:=h
 refine qa (isAgg25 _) (sizeOf25 _) hv4 (nw1 h (jV (zeroValue25 _) rfl) fun p5 w6 h=>q (sro (sizeOf25 _) h fun w7 h=>ln (eg (q ?_))))
 obtain ⟨aZ,bA,bB,bC,bD,cD,hv3,h⟩:=h
 refine qa (isAgg25 _) (sizeOf25 _) hv3 (sc call28 (h.mono fun e w8 ⟨r1,r2,k,h⟩=>⟨_,k,?_⟩))
 refine q (qd (ln (jC (eg (qb (ln (cbr h ?_ ?_)))))))<;>intro h
 refine eg (qc (ln (er (kB (yK (kB (kB (yK (kB (lC (.inl rfl) results28 (v:=(vi 0)) (by kernel_rfl) (v':=(vi r2)) (by kernel_rfl) ⟨0,r2,rfl,h⟩))))))))))
 refine jG (jM (rg (qb (qi (runUnderlying92 _) (sizeOf91 _) h fun a2 h=>ql (isAgg91 _) h fun v2 h=>q (qm h fun a3 h=>st1 (sizeOf44 _) h fun w9 h=>jB (kY (jM (rg (qb (ln ⟨((q6.wrap (x1+1)),w9),⟨rfl,hm,h.1⟩,h.2⟩))))))))))
 refine zQ (qI (qI (qH (jM (eg (q0 (vp p1) ?_))))))
 obtain ⟨bG,bH,bI,bJ,bK,aK,aL,hv6,h⟩:=h
 refine qa (isAgg84 _) (sizeOf84 _) hv6 (sc call48 (h.mono fun e w10 ⟨r3,r4,k,h⟩=>⟨_,k,?_⟩))
 refine qd (ln (er (lC (.inl rfl) results28 (v:=(vi r3)) (by kernel_rfl) (v':=(vi r4)) (by kernel_rfl) ⟨r3,r4,rfl,h⟩)))
def m_R_l1 (p1:Option Addr) (n1:Int) (s1:Sl) (x1:Int) (wl1:World) (Kc1:Int→WP) (K:WP):Prop :=Br (decide (x1<(s1.len:Int))) (∃a2:Addr,At s1 x1 9 a2∧∃vnodeKind1 vnodeFrom1 vnodeTo1 vnodeNum1 vnodeText1 vnodeA1 vnodeB1 vsize1 vdepth1,Row wl1 a2 [(vi vnodeKind1),(vi vnodeFrom1),(vi vnodeTo1),(vu vnodeNum1),(vs vnodeText1),(vi vnodeA1),(vi vnodeB1),(vi vsize1),(vi vdepth1)]∧∀p2 w1,New wl1 (.cells #[(vi 0),(vi 0),(vi 0),(vu 0),ve,(vi 0),(vi 0),(vi 0),(vi 0)] 95) p2 w1→(∀j,j<9→kD w1 (p2.add j))∧∀w2,w2=storeRow w1 p2 [(vi vnodeKind1),(vi vnodeFrom1),(vi vnodeTo1),(vu vnodeNum1),(vs vnodeText1),(vi vnodeA1),(vi vnodeB1),(vi vsize1),(vi vdepth1)]→∃C1:WP,C1 w2.drew∧∀w3,w3=w2.drew→∃a3,p1=some a3∧∃v2:Option Nat,(∀w',C1 w'→w'.cell? (a3.add 1)=some (.map v2))∧∃aA aB aC aD aE aK aL,(∀w',C1 w'→Row w' p2 (Ac aA aB aC aD aE aK aL))∧∃w4:World,(Builtin.delete_ #[63,84] 0 #[(.map v2),(Ad aA aB aC aD aE aK aL)]).run prog w3=.ok (.tuple #[]) w4∧Kc1 (q6.wrap (x1+1)) w4) (∃a4,p1=some a4∧∃v3:Sl,wl1.cell? a4=some v3.v∧∃s2:Sl,(Instr.sliceAt 64 v3.v none (some (vi n1)) none).run prog wl1=.ok s2.v wl1∧∃a5,p1=some a5∧kD wl1 a5∧∀w5,w5=wl1.setCell a5 s2.v→K w5)
def m_R (p1:Option Addr) (n1:Int) (w:World) (K:WP):Prop :=∃a1,p1=some a1∧∃v1:Sl,w.cell? a1=some v1.v∧∃s1:Sl,(Instr.sliceAt 64 v1.v (some (vi n1)) none none).run prog w=.ok s1.v w∧∃(I1:Int→WP) (mu1:Int→World→Nat),I1 0 w∧∀(x1:Int) (wl1:World),I1 x1 wl1→m_R_l1 p1 n1 s1 x1 wl1 (fun y'0 w'=>I1 y'0 w'∧mu1 y'0 w'<mu1 x1 wl1) K
theorem w_R (p1 n1 w K) (h:m_R p1 n1 w K):
  Calls prog 29 #[(vp p1),(vi n1)] w (fun e w'=>e=.returned (.tuple #[])∧K  w'):=by
 refine cw (args:=[(vp p1),(vi n1)]) func29 ntmps29 (jC (eg (q0 (vp p1) ?_)))
 refine qm h fun a1 h=>q (ql (isAgg64 _) h fun v1 h=>q ?_)
 obtain ⟨s1,hv8,h⟩:=h
 refine q2 s1.v (yX (by kernel_rfl) (by kernel_rfl) (by kernel_rfl) (by kernel_rfl) hv8) (qb (ln (jP ?_)))
 obtain ⟨I1,mu1,h0,hr⟩:=h
 refine kN (σ:=Int×World) (fun s ρ w=>w=s.2∧Has ρ [(0,(vp p1)),(1,(vi n1)),(11,s1.v),(12,(vi (s1.len:Int))),(13,(vi s.1))]∧I1 s.1 s.2) (fun s=>mu1 s.1 s.2) (0,w) ⟨rfl,hm,h0⟩ ?_
 rintro ⟨x1,wl1⟩ ρ w ⟨hw,hH,hI⟩
 dsimp only at hw hH;subst w
 have h:=hr x1 wl1 hI
 refine jZ hH (eg (q (ln (jC (cbr h ?_ ?_)))))<;>intro h
 refine jG (jM (jC (jP (eg (qi (runUnderlying64 _) (sizeOf95 _) h fun a2 h=>?_)))))
 obtain ⟨vnodeKind1,vnodeFrom1,vnodeTo1,vnodeNum1,vnodeText1,vnodeA1,vnodeB1,vsize1,vdepth1,hv4,h⟩:=h
 refine qa (isAgg95 _) (sizeOf95 _) hv4 (nw1 h (jV (zeroValue95 _) rfl) fun p2 w1 h=>sro (sizeOf95 _) h fun w2 h=>ln ?_)
 obtain ⟨C1,hC,h⟩:=h
 refine dr1 C1 [6] [6] hC h fun w3 h=>qx 0 (vp p1) Kp0 (qg 1 ?_)
 obtain ⟨a3,hp3,h⟩:=h
 refine sy Kp1 (fun _ _=>xn hp3) (qx 2 (vp (some (a3.add 1))) Kp2 (qg 3 ?_))
 obtain ⟨v2,hv3,h⟩:=h
 refine sy Kp3 (fun _ k=>xl (isAgg63 _) (hv3 _ k)) (qx 4 (vp (some p2)) Kp4 (qg 5 ?_))
 obtain ⟨aA,aB,aC,aD,aE,aK,aL,hv2,h⟩:=h
 refine sy (v:=(Ad aA aB aC aD aE aK aL)) Kp5 (fun w' hw'=>(xa p2 (Ac aA aB aC aD aE aK aL) (isAgg84 _) (sizeOf84 _) (hv2 w' hw'))) (lg 6 ?_)
 obtain ⟨w4,hv1,h⟩:=h
 refine sl (v:=(.tuple #[])) Kp6 (jF rfl) (by kernel_rfl) (jO (args:=#[(.map v2),(Ad aA aB aC aD aE aK aL)]) (by kernel_rfl) (fun _=>rfl) hv1) (.inl (by kernel_rfl)) (wn (kY (jM (rg (q0 (vi (q6.wrap (x1+1))) (q0 (vi (q6.wrap (x1+1))) (ln ⟨((q6.wrap (x1+1)),w4),⟨rfl,hm,h.1⟩,h.2⟩)))))))
 refine zQ (qI (qI (qH (jM (rg (q0 (vp p1) (q0 (vp p1) (qm h fun a4 h=>q (ql (isAgg64 _) h fun v3 h=>q ?_)))))))))
 obtain ⟨s2,hv6,h⟩:=h
 refine q2 s2.v (yX (by kernel_rfl) (by kernel_rfl) (by kernel_rfl) (by kernel_rfl) hv6) (qm h fun a5 h=>q (st1 (sizeOf64 _) h fun w5 h=>jB (jAF (.inr rfl) results29 ⟨rfl,h⟩)))
def m_D1 (aM aN:Int) (aO aP:Int) (aQ:ByteArray) (aR:Sl) (w:World) (K:Int→Int→Int→Int→ByteArray→Int→Int→WP):Prop :=∀p1 w1,New w (.cells #[(vi aM),(vi aN),(vi aO),(vu aP),(vs aQ),aR.v] 25) p1 w1→∀p2 w2,New w1 (.cells #[(vi 0),(vi 0),(vi 0),(vu 0),ve,(vi 0),(vi 0)] 84) p2 w2→∃v1,w2.cell? p1=some (vi v1)∧∃v2,w2.cell? (p1.add 1)=some (vi v2)∧∃v3,w2.cell? (p1.add 2)=some (vi v3)∧∃v4,w2.cell? (p1.add 3)=some (vu v4)∧∃v5,w2.cell? (p1.add 4)=some (vs v5)∧(∀j,j<7→kD w2 (p2.add j))∧∀w3,w3=storeRow w2 p2 (Ac v1 v2 v3 v4 v5 0 0)→∃bW bX bY bZ cA cB cC,Row w3 p2 (Ac bW bX bY bZ cA cB cC)∧K bW bX bY bZ cA cB cC w3
theorem w_D1 (aM aN aO aP aQ aR w K) (h:m_D1 aM aN aO aP aQ aR w K):
  Calls prog 45 #[(.agg #[(vi aM),(vi aN),(vi aO),(vu aP),(vs aQ),aR.v])] w (fun e w'=>∃bN bO bP bQ bR bS bT,e=.returned (Ad bN bO bP bQ bR bS bT)∧K bN bO bP bQ bR bS bT w'):=by
 refine cw (args:=[(Ab aM aN aO aP aQ aR)]) func45 ntmps45 (eg (sn (O:=(.cells #[(vi aM),(vi aN),(vi aO),(vu aP),(vs aQ),aR.v] 25)) xb ?_))
 intro p1 w1 hn3
 have h:=h p1 w1 hn3
 refine nw1 h (jV (zeroValue84 _) rfl) fun p2 w2 h=>ln (eg (q (ql (isAgg3 _) h fun v1 h=>q (ql (isAgg3 _) h fun v2 h=>q (ql (isAgg3 _) h fun v3 h=>q (ql (isAgg22 _) h fun v4 h=>q (ql (isAgg9 _) h fun v5 h=>q (sro (sizeOf84 _) h fun w3 h=>ln (er ?_)))))))))
 obtain ⟨bW,bX,bY,bZ,cA,cB,cC,hv1,h⟩:=h
 refine gg1 results45 (rva (isAgg84 _) (sizeOf84 _) hv1) ⟨bW,bX,bY,bZ,cA,cB,cC,rfl,h⟩
def m_A_j3 (p1 p2 p3:Addr) (x3:Bool) (w:World) (K:Bool→Bool→Bool→Bool→Int→Int→WP):Prop :=Br x3 (∃vfrom1 vto1 vnum1 vtext1 vkids1,Row w p3 (Ae vfrom1 vto1 vnum1 vtext1 vkids1)∧(∀j,j<5→kD w (p2.add j))∧∀w6,w6=storeRow w p2 (Ae vfrom1 vto1 vnum1 vtext1 vkids1)→∃qfrom1 qto1 qnum1 qtext1 qkids1,Row w6 p2 (Ae qfrom1 qto1 qnum1 qtext1 qkids1)∧K qfrom1 qto1 qnum1 qtext1 qkids1 53 w6) (∃v2,w.cell? (p3.add 3)=some (vb v2)∧Br (!v2) (∃v3,w.cell? (p1.add 4)=some (vs v3)∧Br (!(decide (v3=⟨#[]⟩))) (∃vfrom2 vto2 vnum2 vtext2 vkids2,Row w p3 (Ae vfrom2 vto2 vnum2 vtext2 vkids2)∧(∀j,j<5→kD w (p2.add j))∧∀w7,w7=storeRow w p2 (Ae vfrom2 vto2 vnum2 vtext2 vkids2)→∃qfrom2 qto2 qnum2 qtext2 qkids2,Row w7 p2 (Ae qfrom2 qto2 qnum2 qtext2 qkids2)∧K qfrom2 qto2 qnum2 qtext2 qkids2 53 w7) (∃vfrom3 vto3 vnum3 vtext3 vkids3,Row w p3 (Ae vfrom3 vto3 vnum3 vtext3 vkids3)∧(∀j,j<5→kD w (p2.add j))∧∀w8,w8=storeRow w p2 (Ae vfrom3 vto3 vnum3 vtext3 vkids3)→∃qfrom3 qto3 qnum3 qtext3 qkids3,Row w8 p2 (Ae qfrom3 qto3 qnum3 qtext3 qkids3)∧K qfrom3 qto3 qnum3 qtext3 qkids3 0 w8)) (∃vfrom4 vto4 vnum4 vtext4 vkids4,Row w p3 (Ae vfrom4 vto4 vnum4 vtext4 vkids4)∧(∀j,j<5→kD w (p2.add j))∧∀w9,w9=storeRow w p2 (Ae vfrom4 vto4 vnum4 vtext4 vkids4)→∃qfrom4 qto4 qnum4 qtext4 qkids4,Row w9 p2 (Ae qfrom4 qto4 qnum4 qtext4 qkids4)∧K qfrom4 qto4 qnum4 qtext4 qkids4 0 w9))
def m_A_j4 (p1 p2 p3:Addr) (x2 x4:Bool) (w:World) (K:Bool→Bool→Bool→Bool→Int→Int→WP):Prop :=Br x2 (m_A_j3 p1 p2 p3 true w K) (m_A_j3 p1 p2 p3 x4 w K)
def m_A_j2 (p1 p2 p3:Addr) (x2:Bool) (w:World) (K:Bool→Bool→Bool→Bool→Int→Int→WP):Prop :=Br x2 (m_A_j3 p1 p2 p3 true w K) (∃v4,w.cell? (p3.add 2)=some (vb v4)∧Br (!v4) (∃v5,w.cell? (p1.add 3)=some (vu v5)∧m_A_j4 p1 p2 p3 x2 (v5 != 0) w K) (m_A_j4 p1 p2 p3 x2 false w K))
def m_A_j5 (p1 p2 p3:Addr) (x1 x5:Bool) (w:World) (K:Bool→Bool→Bool→Bool→Int→Int→WP):Prop :=Br x1 (m_A_j2 p1 p2 p3 true w K) (m_A_j2 p1 p2 p3 x5 w K)
def m_A_j1 (p1 p2 p3:Addr) (x1:Bool) (w:World) (K:Bool→Bool→Bool→Bool→Int→Int→WP):Prop :=Br x1 (m_A_j2 p1 p2 p3 true w K) (∃v6,w.cell? (p3.add 1)=some (vb v6)∧Br (!v6) (∃v7,w.cell? (p1.add 2)=some (vi v7)∧m_A_j5 p1 p2 p3 x1 (v7 != 0) w K) (m_A_j5 p1 p2 p3 x1 false w K))
def m_A_j6 (p1 p2:Addr) (r1:Bool) (p3:Addr) (x6:Bool) (w:World) (K:Bool→Bool→Bool→Bool→Int→Int→WP):Prop :=Br (!r1) (m_A_j1 p1 p2 p3 true w K) (m_A_j1 p1 p2 p3 x6 w K)
def m_A (aS aT:Int) (aU aV:Int) (aW:ByteArray) (aX aY:Int) (w:World) (K:Bool→Bool→Bool→Bool→Int→Int→WP):Prop :=∀p1 w1,New w (.cells #[(vi aS),(vi aT),(vi aU),(vu aV),(vs aW),(vi aX),(vi aY)] 84) p1 w1→∀p2 w2,New w1 (.cells #[(vb false),(vb false),(vb false),(vb false),(vi 0)] 87) p2 w2→∃v1,w2.cell? p1=some (vi v1)∧Calls prog 61 #[(vi v1)] w2 (fun e w3=>∃rfrom1 rto1 rnum1 rtext1 rkids1 r1,e=.returned (.tuple #[(Ai rfrom1 rto1 rnum1 rtext1 rkids1),(vb r1)])∧∀p3 w4,New w3 (.cells #[(vb false),(vb false),(vb false),(vb false),(vi 0)] 87) p3 w4→(∀j,j<5→kD w4 (p3.add j))∧∀w5,w5=storeRow w4 p3 (Ae rfrom1 rto1 rnum1 rtext1 rkids1)→Br (!r1) (m_A_j1 p1 p2 p3 true w5 K) (∃v8,w5.cell? p3=some (vb v8)∧Br (!v8) (∃v9,w5.cell? (p1.add 1)=some (vi v9)∧m_A_j6 p1 p2 r1 p3 (v9 != 0) w5 K) (m_A_j6 p1 p2 r1 p3 false w5 K)))
theorem w_A (aS aT aU aV aW aX aY w K) (h:m_A aS aT aU aV aW aX aY w K):
  Calls prog 46 #[(.agg #[(vi aS),(vi aT),(vi aU),(vu aV),(vs aW),(vi aX),(vi aY)])] w (fun e w'=>∃rfrom2 rto2 rnum2 rtext2 rkids2 r2,e=.returned (.tuple #[(Ai rfrom2 rto2 rnum2 rtext2 rkids2),(vi r2)])∧K rfrom2 rto2 rnum2 rtext2 rkids2 r2 w'):=by
 refine cw (args:=[(Ad aS aT aU aV aW aX aY)]) func46 ntmps46 (eg (sn (O:=(.cells #[(vi aS),(vi aT),(vi aU),(vu aV),(vs aW),(vi aX),(vi aY)] 84)) xb ?_))
 intro p1 w1 hn8
 have h:=h p1 w1 hn8
 refine nw1 h (jV (zeroValue87 _) rfl) fun p2 w2 h=>q (ln (eg (q (ql (isAgg3 _) h fun v1 h=>sc call61 (h.mono fun e w3 ⟨rfrom1,rto1,rnum1,rtext1,rkids1,r1,k,h⟩=>⟨_,k,?_⟩)))))
 refine qc (nw1 h (jV (zeroValue87 _) rfl) fun p3 w4 h=>sro (sizeOf87 _) h fun w5 h=>q (ln (jC (eg (qc (jN 9 (fun ρ w=>∃x1,Has ρ [(1,(vp (some p1))),(2,(vp (some p2))),(4,(vp (some p3))),(23,(vb x1))]∧m_A_j1 p1 p2 p3 x1 w K) ?_ ?_))))))
 rintro ρ w ⟨x1,hH,h⟩
 refine jU hH (q (jN 9 (fun ρ w=>∃x2,Has ρ [(1,(vp (some p1))),(2,(vp (some p2))),(4,(vp (some p3))),(33,(vb x2))]∧m_A_j2 p1 p2 p3 x2 w K) ?_ ?_))
 rintro ρ w ⟨x2,hH,h⟩
 refine jU hH (q (jN 9 (fun ρ w=>∃x3,Has ρ [(1,(vp (some p1))),(2,(vp (some p2))),(4,(vp (some p3))),(43,(vb x3))]∧m_A_j3 p1 p2 p3 x3 w K) ?_ ?_))
 rintro ρ w ⟨x3,hH,h⟩
 refine jU hH (q ?_)
 obtain ⟨hg1,h⟩|⟨hg1,h⟩:=h.br
 refine sj4 44 hg1 (sm (sm (sm (sj 44 hg1 (q2 (vb true) (xT hg1) (ln (kE (by kernel_rfl) (eg ?_))))))))
 obtain ⟨vfrom1,vto1,vnum1,vtext1,vkids1,hv2,h⟩:=h
 refine qa (isAgg87 _) (sizeOf87 _) hv2 (sro (sizeOf87 _) h fun w6 h=>q (ln (er (kB ?_))))
 obtain ⟨qfrom1,qto1,qnum1,qtext1,qkids1,hv1,h⟩:=h
 refine gg2 results46 (rva (isAgg87 _) (sizeOf87 _) hv1) (rvU (vi 53)) ⟨qfrom1,qto1,qnum1,qtext1,qkids1,53,rfl,h⟩
 refine qk 44 hg1 ?_
 obtain ⟨v2,hv10,h⟩:=h
 refine q4 44 hg1 (xl (isAgg4 _) hv10) (qk 44 hg1 (qk 44 hg1 ?_))
 obtain ⟨hg2,h⟩|⟨hg2,h⟩:=h.br
 refine qk 48 hg2 ?_
 obtain ⟨v3,hv7,h⟩:=h
 refine q4 48 hg2 (xl (isAgg9 _) hv7) (stq (v:=(vb (!(decide (v3=⟨#[]⟩))))) (wy 48 hg2) (jAA (by kernel_rfl) (by kernel_rfl)) (stq (v:=(vb (!(decide (v3=⟨#[]⟩))))) (wy 44 hg1) (xT hg2) (q2 (vb (!(decide (v3=⟨#[]⟩)))) (xF hg1) (ln (cbr h ?_ ?_)))))<;>intro h
 refine eg ?_
 obtain ⟨vfrom2,vto2,vnum2,vtext2,vkids2,hv4,h⟩:=h
 refine qa (isAgg87 _) (sizeOf87 _) hv4 (sro (sizeOf87 _) h fun w7 h=>q (ln (er (kB ?_))))
 obtain ⟨qfrom2,qto2,qnum2,qtext2,qkids2,hv3,h⟩:=h
 refine gg2 results46 (rva (isAgg87 _) (sizeOf87 _) hv3) (rvU (vi 53)) ⟨qfrom2,qto2,qnum2,qtext2,qkids2,53,rfl,h⟩
 refine jG (jM (eg ?_))
 obtain ⟨vfrom3,vto3,vnum3,vtext3,vkids3,hv6,h⟩:=h
 refine qa (isAgg87 _) (sizeOf87 _) hv6 (sro (sizeOf87 _) h fun w8 h=>q (ln (er ?_)))
 obtain ⟨qfrom3,qto3,qnum3,qtext3,qkids3,hv5,h⟩:=h
 refine gg2 results46 (rva (isAgg87 _) (sizeOf87 _) hv5) (rvU (vi 0)) ⟨qfrom3,qto3,qnum3,qtext3,qkids3,0,rfl,h⟩
 refine sj3 48 hg2 (stq (v:=(vb false)) (wy 44 hg1) (xF hg2) (q2 (vb false) (xF hg1) (ln (zT (by kernel_rfl) (jG (jM (eg ?_)))))))
 obtain ⟨vfrom4,vto4,vnum4,vtext4,vkids4,hv9,h⟩:=h
 refine qa (isAgg87 _) (sizeOf87 _) hv9 (sro (sizeOf87 _) h fun w9 h=>q (ln (er ?_)))
 obtain ⟨qfrom4,qto4,qnum4,qtext4,qkids4,hv8,h⟩:=h
 refine gg2 results46 (rva (isAgg87 _) (sizeOf87 _) hv8) (rvU (vi 0)) ⟨qfrom4,qto4,qnum4,qtext4,qkids4,0,rfl,h⟩
 obtain ⟨hg3,h⟩|⟨hg3,h⟩:=h.br
 refine sj4 34 hg3 (sm (sm (sm (sj 34 hg3 (q2 (vb true) (xT hg3) (jB ⟨true,hm,h⟩))))))
 refine qk 34 hg3 ?_
 obtain ⟨v4,hv12,h⟩:=h
 refine q4 34 hg3 (xl (isAgg4 _) hv12) (qk 34 hg3 (qk 34 hg3 (jN 4 (fun ρ w=>∃x4,Has ρ [(1,(vp (some p1))),(2,(vp (some p2))),(4,(vp (some p3))),(34,(vb x2)),(42,(vb x4))]∧m_A_j4 p1 p2 p3 x2 x4 w K) ?_ ?_)))
 rintro ρ w ⟨x4,hH,h⟩
 refine jU hH ?_
 obtain ⟨hg4,h⟩|⟨hg4,h⟩:=h.br
 refine q2 (vb true) (xT hg4) (jB ⟨true,hm,h⟩)
 refine q2 (vb x4) (xF hg4) (jB ⟨x4,hm,h⟩)
 obtain ⟨hg5,h⟩|⟨hg5,h⟩:=h.br
 refine qk 38 hg5 ?_
 obtain ⟨v5,hv11,h⟩:=h
 refine q4 38 hg5 (xl (isAgg22 _) hv11) (qk 38 hg5 (stq (v:=(vb (v5 != 0))) (wy 34 hg3) (xT hg5) (jB ⟨(v5 != 0),hm,h⟩)))
 refine sj3 38 hg5 (stq (v:=(vb false)) (wy 34 hg3) (xF hg5) (jB ⟨false,hm,h⟩))
 obtain ⟨hg6,h⟩|⟨hg6,h⟩:=h.br
 refine sj4 24 hg6 (sm (sm (sm (sj 24 hg6 (q2 (vb true) (xT hg6) (jB ⟨true,hm,h⟩))))))
 refine qk 24 hg6 ?_
 obtain ⟨v6,hv14,h⟩:=h
 refine q4 24 hg6 (xl (isAgg4 _) hv14) (qk 24 hg6 (qk 24 hg6 (jN 4 (fun ρ w=>∃x5,Has ρ [(1,(vp (some p1))),(2,(vp (some p2))),(4,(vp (some p3))),(24,(vb x1)),(32,(vb x5))]∧m_A_j5 p1 p2 p3 x1 x5 w K) ?_ ?_)))
 rintro ρ w ⟨x5,hH,h⟩
 refine jU hH ?_
 obtain ⟨hg7,h⟩|⟨hg7,h⟩:=h.br
 refine q2 (vb true) (xT hg7) (jB ⟨true,hm,h⟩)
 refine q2 (vb x5) (xF hg7) (jB ⟨x5,hm,h⟩)
 obtain ⟨hg8,h⟩|⟨hg8,h⟩:=h.br
 refine qk 28 hg8 ?_
 obtain ⟨v7,hv13,h⟩:=h
 refine q4 28 hg8 (xl (isAgg3 _) hv13) (qk 28 hg8 (stq (v:=(vb (v7 != 0))) (wy 24 hg6) (xT hg8) (jB ⟨(v7 != 0),hm,h⟩)))
 refine sj3 28 hg8 (stq (v:=(vb false)) (wy 24 hg6) (xF hg8) (jB ⟨false,hm,h⟩))
 obtain ⟨hg9,h⟩|⟨hg9,h⟩:=h.br
 refine sj4 14 hg9 (sm (sm (sm (sj 14 hg9 (q2 (vb true) (xT hg9) (jB ⟨true,hm,h⟩))))))
 refine qk 14 hg9 ?_
 obtain ⟨v8,hv16,h⟩:=h
 refine q4 14 hg9 (xl (isAgg4 _) hv16) (qk 14 hg9 (qk 14 hg9 (jN 4 (fun ρ w=>∃x6,Has ρ [(1,(vp (some p1))),(2,(vp (some p2))),(4,(vp (some p3))),(14,(vb (!r1))),(22,(vb x6))]∧m_A_j6 p1 p2 r1 p3 x6 w K) ?_ ?_)))
 rintro ρ w ⟨x6,hH,h⟩
 refine jU hH ?_
 obtain ⟨hg10,h⟩|⟨hg10,h⟩:=h.br
 refine q2 (vb true) (xT hg10) (jB ⟨true,hm,h⟩)
 refine q2 (vb x6) (xF hg10) (jB ⟨x6,hm,h⟩)
 obtain ⟨hg11,h⟩|⟨hg11,h⟩:=h.br
 refine qk 18 hg11 ?_
 obtain ⟨v9,hv15,h⟩:=h
 refine q4 18 hg11 (xl (isAgg3 _) hv15) (qk 18 hg11 (stq (v:=(vb (v9 != 0))) (wy 14 hg9) (xT hg11) (jB ⟨(v9 != 0),hm,h⟩)))
 refine sj3 18 hg11 (stq (v:=(vb false)) (wy 14 hg9) (xF hg11) (jB ⟨false,hm,h⟩))
def m_M_j1 (p1 p2:Addr) (x1:Bool) (w:World) (K:Int→WP):Prop :=Br x1 (K 50 w) (∃v1,w.cell? (p1.add 1)=some (vb v1)∧Br v1 (∃v2,w.cell? (p2.add 2)=some (vi v2)∧Calls prog 62 #[(vi v2)] w (fun e w3=>∃r1,e=.returned (vb r1)∧Br (!r1) (K 50 w3) (∃v3,w3.cell? (p2.add 2)=some (vi v3)∧∃v4,w3.cell? (p2.add 1)=some (vi v4)∧Br (v3 == v4) (K 50 w3) (∃v5,w3.cell? (p2.add 4)=some (vs v5)∧Br (decide ((v5.size:Int)>64)) (K 1 w3) (K 0 w3))))) (∃v6,w.cell? (p2.add 4)=some (vs v6)∧Br (decide ((v6.size:Int)>64)) (K 1 w) (K 0 w)))
def m_M (sfrom1 sto1:Bool) (snum1 stext1:Bool) (skids1 aS:Int) (aT aU aV:Int) (aW:ByteArray) (aX aY:Int) (w:World) (K:Int→WP):Prop :=∀p1 w1,New w (.cells #[(vb sfrom1),(vb sto1),(vb snum1),(vb stext1),(vi skids1)] 87) p1 w1→∀p2 w2,New w1 (.cells #[(vi aS),(vi aT),(vi aU),(vu aV),(vs aW),(vi aX),(vi aY)] 84) p2 w2→∃v7,w2.cell? p1=some (vb v7)∧Br v7 (∃v8,w2.cell? (p2.add 1)=some (vi v8)∧Calls prog 62 #[(vi v8)] w2 (fun e w4=>∃r2,e=.returned (vb r2)∧m_M_j1 p1 p2 (!r2) w4 K)) (m_M_j1 p1 p2 false w2 K)
theorem w_M (sfrom1 sto1 snum1 stext1 skids1 aS aT aU aV aW aX aY w K) (h:m_M sfrom1 sto1 snum1 stext1 skids1 aS aT aU aV aW aX aY w K):
  Calls prog 47 #[(.agg #[(vb sfrom1),(vb sto1),(vb snum1),(vb stext1),(vi skids1)]),(.agg #[(vi aS),(vi aT),(vi aU),(vu aV),(vs aW),(vi aX),(vi aY)])] w (fun e w'=>∃r3,e=.returned (vi r3)∧K r3 w'):=by
 refine cw (args:=[(Ai sfrom1 sto1 snum1 stext1 skids1),(Ad aS aT aU aV aW aX aY)]) func47 ntmps47 (eg (sn (O:=(.cells #[(vb sfrom1),(vb sto1),(vb snum1),(vb stext1),(vi skids1)] 87)) xb ?_))
 intro p1 w1 hn2
 have h:=h p1 w1 hn2
 refine nw1 h xb fun p2 w2 h=>q (ln (jC (jP (jC (qS (fun ρ w=>∃x1,Has ρ [(2,(vp (some p1))),(3,(vp (some p2))),(5,(vb x1))]∧m_M_j1 p1 p2 x1 w K) ?_ ?_)))))
 rintro ρ w ⟨x1,hH,h⟩
 refine jZ hH (cbr' h (fun hc1 h=>?_) (fun hc1 h=>?_))
 refine jG (jM (jAU (t:=x1) (by kernel_rfl) hc1 (eg (q0 (vi 50) (ln (er (yK (kB (rs1 results47 ⟨50,rfl,h⟩)))))))))
 refine rg (q (ql (isAgg4 _) h fun v1 h=>q ?_))
 obtain ⟨hg1,h⟩|⟨hg1,h⟩:=h.br
 refine qk 16 hg1 ?_
 obtain ⟨v2,hv4,h⟩:=h
 refine q4 16 hg1 (xl (isAgg3 _) hv4) (vY (wy 16 hg1) (xc call62) (h.mono ?_))
 rintro e w3 ⟨r1,rfl,h⟩
 refine ⟨_,rfl,?_⟩
 refine qk 16 hg1 (qk 16 hg1 ?_)
 obtain ⟨hg2,h⟩|⟨hg2,h⟩:=h.br
 refine sj5 21 hg2 (stq (v:=(vb true)) (wy 16 hg1) (xT hg2) (q2 (vb true) (xT hg1) (q (ln (kE (by kernel_rfl) (jC (rg (q (ln (er (yK (kB (rs1 results47 ⟨50,rfl,h⟩)))))))))))))
 refine qk 21 hg2 ?_
 obtain ⟨v3,hv3,h⟩:=h
 refine q4 21 hg2 (xl (isAgg3 _) hv3) (qk 21 hg2 ?_)
 obtain ⟨v4,hv2,h⟩:=h
 refine q4 21 hg2 (xl (isAgg3 _) hv2) (qk 21 hg2 (stq (v:=(vb (v3 == v4))) (wy 16 hg1) (xF hg2) (q2 (vb (v3 == v4)) (xT hg1) (q (ln (cbr h ?_ ?_))))))<;>intro h
 refine eg (q (ln (er (yK (kB (rs1 results47 ⟨50,rfl,h⟩))))))
 refine eg (q (ql (isAgg9 _) h fun v5 h=>qc (ln (cbr h ?_ ?_))))<;>intro h
 refine eg (q (ln (er (yK (kB (rs1 results47 ⟨1,rfl,h⟩))))))
 refine jG (kY (jM (eg (q (ln (er (rs1 results47 ⟨0,rfl,h⟩)))))))
 refine sj5 16 hg1 (sm (sm (sm (sm (sm (sj 16 hg1 (q2 (vb false) (xF hg1) (q (ln (zT (by kernel_rfl) (eg (q0 (vp (some (p2.add 4))) (ql (isAgg9 _) h fun v6 h=>qc (ln (cbr h ?_ ?_)))))))))))))))<;>intro h
 refine eg (q (ln (er (yK (kB (rs1 results47 ⟨1,rfl,h⟩))))))
 refine jG (kY (jM (eg (q (ln (er (rs1 results47 ⟨0,rfl,h⟩)))))))
 refine rg (q (ql (isAgg4 _) h fun v7 h=>q ?_))
 obtain ⟨hg3,h⟩|⟨hg3,h⟩:=h.br
 refine qk 8 hg3 ?_
 obtain ⟨v8,hv7,h⟩:=h
 refine q4 8 hg3 (xl (isAgg3 _) hv7) (vY (wy 8 hg3) (xc call62) (h.mono ?_))
 rintro e w4 ⟨r2,rfl,h⟩
 refine ⟨_,rfl,?_⟩
 refine qk 8 hg3 (q2 (vb (!r2)) (xT hg3) (q (ln ⟨(!r2),hm,h⟩)))
 refine sj4 8 hg3 (q2 (vb false) (xF hg3) (q (ln ⟨false,hm,h⟩)))
def m_Z (p1:Option Addr) (aS aT:Int) (aU aV:Int) (aW:ByteArray) (aX aY:Int) (w:World) (K:Int→Int→WP):Prop :=∀p2 w1,New w (.cells #[(vi aS),(vi aT),(vi aU),(vu aV),(vs aW),(vi aX),(vi aY)] 84) p2 w1→Br (Option.isNone p1) (K 0 0 w1) (∃aA aB aC aD aE aK aL,Row w1 p2 (Ac aA aB aC aD aE aK aL)∧Calls prog 63 #[(vp p1),(.agg #[(vi aA),(vi aB),(vi aC),(vu aD),(vs aE),(vi aK),(vi aL)])] w1 (fun e w2=>∃r1 r2 r3,e=.returned (.tuple #[(vi r1),(vi r2),(vi r3)])∧Br (r3 != 0) (K 0 r3 w2) (∀w3,w3=w2.drew→∃a1,p1=some a1∧∃v1:Option Nat,w3.cell? (a1.add 1)=some (.map v1)∧∃aF aG aH aI aJ bL bM,Row w3 p2 (Ac aF aG aH aI aJ bL bM)∧∃v2 ok1,(Instr.lookup 63 (.map v1) (.agg #[(vi aF),(vi aG),(vi aH),(vu aI),(vs aJ),(vi bL),(vi bM)]) true).run prog w3=.ok (.tuple #[(vi v2),(vb ok1)]) w3∧Br ok1 (K v2 0 w3) (∃a2,p1=some a2∧∃v3:Sl,w3.cell? a2=some v3.v∧Br (decide ((v3.len:Int)≥65536)) (K 0 6 w3) (∃C1:WP,C1 w3.drew∧∀w4,w4=w3.drew→∃a3,p1=some a3∧∃v4:Sl,(∀w',C1 w'→w'.cell? a3=some v4.v)∧∃aZ bA bB bC bD bU bV,(∀w',C1 w'→Row w' p2 (Ac aZ bA bB bC bD bU bV))∧∀p3 w5,New w4 (.cells #[(vi aZ),(vi bA),(vi bB),(vu bC),(vs bD),(vi bU),(vi bV),(vi r1),(vi r2)] 95) p3 w5→C1 w5∧∃s1:Sl,∃w6:World,(Builtin.append_ #[64,64] 64 #[v4.v,(Sl.mk (some p3) 1 1).v]).run prog w5=.ok s1.v w6∧C1 w6∧∃a4,p1=some a4∧kD w6 a4∧∀w7,w7=w6.setCell a4 s1.v→∃a5,p1=some a5∧∃v5:Sl,w7.cell? a5=some v5.v∧∃C2:WP,C2 w7.drew∧∀w8,w8=w7.drew→∃a6,p1=some a6∧∃v6:Option Nat,(∀w',C2 w'→w'.cell? (a6.add 1)=some (.map v6))∧∃bG bH bI bJ bK cE cF,(∀w',C2 w'→Row w' p2 (Ac bG bH bI bJ bK cE cF))∧∃w9:World,(Instr.mapUpdate 63 (.map v6) (.agg #[(vi bG),(vi bH),(vi bI),(vu bJ),(vs bK),(vi cE),(vi cF)]) (vi (v5.len:Int))).run prog w8=.ok () w9∧K (v5.len:Int) 0 w9)))))
theorem w_Z (p1 aS aT aU aV aW aX aY w K) (h:m_Z p1 aS aT aU aV aW aX aY w K):
  Calls prog 48 #[(vp p1),(.agg #[(vi aS),(vi aT),(vi aU),(vu aV),(vs aW),(vi aX),(vi aY)])] w (fun e w'=>∃r4 r5,e=.returned (.tuple #[(vi r4),(vi r5)])∧K r4 r5 w'):=by
 refine cw (args:=[(vp p1),(Ad aS aT aU aV aW aX aY)]) func48 ntmps48 (eg (sn (O:=(.cells #[(vi aS),(vi aT),(vi aU),(vu aV),(vs aW),(vi aX),(vi aY)] 84)) xb ?_))
 intro p2 w1 hn3
 have h:=h p2 w1 hn3
 refine qb (ln (jC (eg (q (q2 (vb (Option.isNone p1)) (jBS (by kernel_rfl) rfl underlying46) (ln (cbr h ?_ ?_)))))))<;>intro h
 refine eg (qb (ln (er (kB (lC (.inl rfl) results48 (v:=(vi 0)) (by kernel_rfl) (v':=(vi 0)) (by kernel_rfl) ⟨0,0,rfl,h⟩)))))
 refine jG (jM (eg (q ?_)))
 obtain ⟨aA,aB,aC,aD,aE,aK,aL,hv12,h⟩:=h
 refine qa (isAgg84 _) (sizeOf84 _) hv12 (sc call63 (h.mono fun e w2 ⟨r1,r2,r3,k,h⟩=>⟨_,k,?_⟩))
 refine qc (qd (ln (jC (eg (qb (ln (cbr h ?_ ?_)))))))<;>intro h
 refine eg (qc (ln (er (kB (lC (.inl rfl) results48 (v:=(vi 0)) (by kernel_rfl) (v':=(vi r3)) (by kernel_rfl) ⟨0,r3,rfl,h⟩)))))
 refine jG (jM (jC (jC (zC (by kernel_rfl) (by kernel_rfl) (by kernel_rfl) (by kernel_rfl) ?_))))
 intro w3 hw3
 have h:=h w3 hw3
 refine qq 0 (vp p1) Kp0 (qg 1 ?_)
 obtain ⟨a1,hp1,h⟩:=h
 refine sxQ Kp1 (jF rfl) rfl (xn hp1) (qq 2 (vp (some (a1.add 1))) Kp2 (qg 3 ?_))
 obtain ⟨v1,hv11,h⟩:=h
 refine sxQ Kp3 (jF rfl) rfl (xl (isAgg63 _) hv11) (qg 4 ?_)
 obtain ⟨aF,aG,aH,aI,aJ,bL,bM,hv10,h⟩:=h
 refine sxQ (v:=(Ad aF aG aH aI aJ bL bM)) Kp4 (jF rfl) rfl (xa p2 (Ac aF aG aH aI aJ bL bM) (isAgg84 _) (sizeOf84 _) hv10) (qg 5 ?_)
 obtain ⟨v2,ok1,hv9,h⟩:=h
 refine sxQ (v:=(.tuple #[(vi v2),(vb ok1)])) Kp5 (jF rfl) rfl (jAB (by kernel_rfl) (by kernel_rfl) hv9) (qq 6 (.tuple #[(vi v2),(vb ok1)]) Kp6 (qq 7 (vi v2) Kp7 (qq 8 (vb ok1) Kp8 (qq 9 (vi v2) Kp9 (qq 10 (vb ok1) (jE (S8 (jA (jA jD)))) (wn (jM (eg (q (jB (jM (cbr h ?_ ?_))))))))))))<;>intro h
 refine eg (qc (ln (er (kB (lC (.inl rfl) results48 (v:=(vi v2)) (by kernel_rfl) (v':=(vi 0)) (by kernel_rfl) ⟨v2,0,rfl,h⟩)))))
 refine jG (jM (jC (eg (q (qm h fun a2 h=>q (ql (isAgg64 _) h fun v3 h=>qb (ln (cbr h ?_ ?_))))))))<;>intro h
 refine eg (qb (ln (er (kB (lC (.inl rfl) results48 (v:=(vi 0)) (by kernel_rfl) (v':=(vi 6)) (by kernel_rfl) ⟨0,6,rfl,h⟩)))))
 refine jG (jM (jC ?_))
 obtain ⟨C1,hC,h⟩:=h
 refine dr1 C1 [9,10,13] [13] hC h fun w4 h=>qx 0 (vp p1) Kp0 (qx 1 (vp p1) Kp1 (qg 2 ?_))
 obtain ⟨a3,hp3,h⟩:=h
 refine sy Kp2 (fun _ _=>xn hp3) (qx 3 (vp (some a3)) Kp3 (qg 4 ?_))
 obtain ⟨v4,hv7,h⟩:=h
 refine sy Kp4 (fun _ k=>xl (isAgg64 _) (hv7 _ k)) (qg 5 ?_)
 obtain ⟨aZ,bA,bB,bC,bD,bU,bV,hv6,h⟩:=h
 refine sy (v:=(Ad aZ bA bB bC bD bU bV)) Kp5 (fun w' hw'=>(xa p2 (Ac aZ bA bB bC bD bU bV) (isAgg84 _) (sizeOf84 _) (hv6 w' hw'))) (qx 6 (vi r1) Kp6 (qx 7 (vi r2) Kp7 (qx 8 (.agg #[(vi aZ),(vi bA),(vi bB),(vu bC),(vs bD),(vi bU),(vi bV),(vi r1),(vi r2)]) Kp8 (lg 9 (vI (O:=(.cells #[(vi aZ),(vi bA),(vi bB),(vu bC),(vs bD),(vi bU),(vi bV),(vi r1),(vi r2)] 95)) (fun p=>(Sl.mk (some p) 1 1).v) Kp9 (jF rfl) (by kernel_rfl) (jS (vs:=#[(0,(.agg #[(vi aZ),(vi bA),(vi bB),(vu bC),(vs bD),(vi bU),(vi bV),(vi r1),(vi r2)]))]) (by kernel_rfl) (by kernel_rfl)) ?_)))))
 intro p3 w5 hn2
 have h:=h p3 w5 hn2
 refine ⟨.inr h.1,?_⟩
 have h:=h.2
 refine lg 10 ?_
 obtain ⟨s1,w6,hv5,hC,h⟩:=h
 refine sl (v:=s1.v) (jE (S8 (jA (jA jD)))) (jF rfl) (by kernel_rfl) (jO (args:=#[v4.v,(Sl.mk (some p3) 1 1).v]) (by kernel_rfl) (fun _=>rfl) hv5) (.inr hC) (qg 11 ?_)
 obtain ⟨a4,hp4,h⟩:=h
 refine sy (jE (S8 (jA (jA (jA jD))))) (fun _ _=>xn hp4) (qx 12 (vp (some a4)) (jE (S8 (S4 jD))) (lg 13 ?_))
 obtain ⟨hp5,h⟩:=h
 refine sl_t (jE (S8 (S4 (jA jD)))) (xs (v:=s1.v) (sizeOf64 _) hp5) ?_
 intro w7 hn1
 have h:=h w7 hn1
 refine ⟨.inl (by kernel_rfl),?_⟩
 refine wn (jM (eg (q (qm h fun a5 h=>q (ql (isAgg64 _) h fun v5 h=>qb (ln (jC ?_)))))))
 obtain ⟨C2,hC,h⟩:=h
 refine dr1 C2 [6] [6] hC h fun w8 h=>qx 0 (vp p1) Kp0 (qg 1 ?_)
 obtain ⟨a6,hp7,h⟩:=h
 refine sy Kp1 (fun _ _=>xn hp7) (qx 2 (vp (some (a6.add 1))) Kp2 (qg 3 ?_))
 obtain ⟨v6,hv3,h⟩:=h
 refine sy Kp3 (fun _ k=>xl (isAgg63 _) (hv3 _ k)) (qg 4 ?_)
 obtain ⟨bG,bH,bI,bJ,bK,cE,cF,hv2,h⟩:=h
 refine sy (v:=(Ad bG bH bI bJ bK cE cF)) Kp4 (fun w' hw'=>(xa p2 (Ac bG bH bI bJ bK cE cF) (isAgg84 _) (sizeOf84 _) (hv2 w' hw'))) (qx 5 (vi (v5.len:Int)) Kp5 (lg 6 ?_))
 obtain ⟨w9,hv1,h⟩:=h
 refine jCD Kp6 (jF rfl) (by kernel_rfl) (tF (by kernel_rfl) (by kernel_rfl) (by kernel_rfl) hv1) (.inl (by kernel_rfl)) (wn (jM (eg (q0 (vi (v5.len:Int)) (q0 (vi (v5.len:Int)) (q0 (vi 0) (ln (er (lC (.inl rfl) results48 (v:=(vi (v5.len:Int))) (by kernel_rfl) (v':=(vi 0)) (by kernel_rfl) ⟨(v5.len:Int),0,rfl,h⟩)))))))))
def m_E1 (kind1:Int) (w:World) (K:Bool→Bool→Bool→Bool→Int→Bool→WP):Prop :=∀p1 w1,New w (.cells #[(vb false),(vb false),(vb false),(vb false),(vi 0)] 87) p1 w1→Br (decide (kind1<1)) ((∀j,j<5→kD w1 (p1.add j))∧∀w2,w2=storeRow w1 p1 (Ae false false false false 0)→∃qfrom1 qto1 qnum1 qtext1 qkids1,Row w2 p1 (Ae qfrom1 qto1 qnum1 qtext1 qkids1)∧K qfrom1 qto1 qnum1 qtext1 qkids1 false w2) (Br (decide (kind1>9)) ((∀j,j<5→kD w1 (p1.add j))∧∀w3,w3=storeRow w1 p1 (Ae false false false false 0)→∃qfrom2 qto2 qnum2 qtext2 qkids2,Row w3 p1 (Ae qfrom2 qto2 qnum2 qtext2 qkids2)∧K qfrom2 qto2 qnum2 qtext2 qkids2 false w3) (Calls prog 72 #[] w1 (fun e w4=>∃r1:Array Value,e=.returned (.agg r1)∧∃efrom1 eto1 enum1 etext1 ekids1,(Instr.index 116 (.agg r1) (vi kind1)).run prog w4=.ok (.agg #[(vb efrom1),(vb eto1),(vb enum1),(vb etext1),(vi ekids1)]) w4∧(∀j,j<5→kD w4 (p1.add j))∧∀w5,w5=storeRow w4 p1 (Ae efrom1 eto1 enum1 etext1 ekids1)→∃qfrom3 qto3 qnum3 qtext3 qkids3,Row w5 p1 (Ae qfrom3 qto3 qnum3 qtext3 qkids3)∧K qfrom3 qto3 qnum3 qtext3 qkids3 true w5)))
theorem w_E1 (kind1 w K) (h:m_E1 kind1 w K):
  Calls prog 61 #[(vi kind1)] w (fun e w'=>∃rfrom1 rto1 rnum1 rtext1 rkids1 r2,e=.returned (.tuple #[(Ai rfrom1 rto1 rnum1 rtext1 rkids1),(vb r2)])∧K rfrom1 rto1 rnum1 rtext1 rkids1 r2 w'):=by
 refine cw (args:=[(vi kind1)]) func61 ntmps61 (eg (sn (O:=(.cells #[(vb false),(vb false),(vb false),(vb false),(vi 0)] 87)) (jV (zeroValue87 _) rfl) ?_))
 intro p1 w1 hn4
 have h:=h p1 w1 hn4
 refine q (ln (jC (eg (qc ?_))))
 obtain ⟨hg1,h⟩|⟨hg1,h⟩:=h.br
 refine sj2 6 hg1 (q2 (vb true) (xT hg1) (ln (kE (by kernel_rfl) (eg (q0 (Ai false false false false 0) (sro (sizeOf87 _) h fun w2 h=>q (ln (er (kB ?_)))))))))
 obtain ⟨qfrom1,qto1,qnum1,qtext1,qkids1,hv1,h⟩:=h
 refine gg2 results61 (rva (isAgg87 _) (sizeOf87 _) hv1) (rvU (vb false)) ⟨qfrom1,qto1,qnum1,qtext1,qkids1,false,rfl,h⟩
 refine qk 6 hg1 (qk 6 hg1 (q2 (vb (decide (kind1>9))) (xF hg1) (ln (cbr h ?_ ?_))))<;>intro h
 refine eg (q (sro (sizeOf87 _) h fun w3 h=>q (ln (er (kB ?_)))))
 obtain ⟨qfrom2,qto2,qnum2,qtext2,qkids2,hv2,h⟩:=h
 refine gg2 results61 (rva (isAgg87 _) (sizeOf87 _) hv2) (rvU (vb false)) ⟨qfrom2,qto2,qnum2,qtext2,qkids2,false,rfl,h⟩
 refine jG (jM (eg (sc call72 (h.mono fun e w4 ⟨r1,k,h⟩=>⟨_,k,?_⟩))))
 refine q ?_
 obtain ⟨efrom1,eto1,enum1,etext1,ekids1,hv4,h⟩:=h
 refine q2 (Ai efrom1 eto1 enum1 etext1 ekids1) (zO (by kernel_rfl) (by kernel_rfl) hv4) (sro (sizeOf87 _) h fun w5 h=>q (ln (er ?_)))
 obtain ⟨qfrom3,qto3,qnum3,qtext3,qkids3,hv3,h⟩:=h
 refine gg2 results61 (rva (isAgg87 _) (sizeOf87 _) hv3) (rvU (vb true)) ⟨qfrom3,qto3,qnum3,qtext3,qkids3,true,rfl,h⟩
def m_F1 (n1:Int) (w:World) (K:Bool→WP):Prop :=Br (decide (n1≥0)) (K (decide (n1<16)) w) (K false w)
theorem w_F1 (n1 w K) (h:m_F1 n1 w K):
  Calls prog 62 #[(vi n1)] w (fun e w'=>∃r1,e=.returned (vb r1)∧K r1 w'):=by
 refine cw (args:=[(vi n1)]) func62 ntmps62 (eg (q0 (vb false) (ln (eg (q0 (vi n1) (q0 (vb (decide (n1≥0))) (q0 (vb (decide (n1≥0))) ?_)))))))
 obtain ⟨hg1,h⟩|⟨hg1,h⟩:=h.br
 refine qk 5 hg1 (qk 5 hg1 (q2 (vb (decide (n1<16))) (xT hg1) (q (ln (er (rs1 results62 ⟨(decide (n1<16)),rfl,h⟩))))))
 refine sj2 5 hg1 (q2 (vb false) (xF hg1) (q (ln (er (rs1 results62 ⟨false,rfl,h⟩)))))
def m_B_l3 (p1:Option Addr) (s1:Sl) (size1 depth1 x1:Int) (wl1:World) (Kc3:Int→Int→Int→WP) (K:Int→Int→Int→WP):Prop :=Br (decide (x1<(s1.len:Int))) (∃a1:Addr,At s1 x1 1 a1∧∃v4,wl1.cell? a1=some (vi v4)∧Calls prog 73 #[(vp p1),(vi v4)] wl1 (fun e w6=>∃r2,e=.returned (vb r2)∧Br (!r2) (K 0 0 51 w6) (Calls prog 74 #[(vp p1),(vi v4)] w6 (fun e w7=>∃r3,e=.returned (vi r3)∧Calls prog 75 #[(vp p1),(vi v4)] w7 (fun e w8=>∃r4,e=.returned (vi r4)∧∃z1,(Builtin.max_ #[3,3] 3 #[(vi depth1),(vi r4)]).run prog w8=.ok (vi z1) w8∧Kc3 (q6.wrap (size1+r3)) z1 (q6.wrap (x1+1)) w8))))) (Br (decide (size1>4096)) (K 0 0 52 wl1) (Br (decide ((q6.wrap (depth1+1))>64)) (K 0 0 52 wl1) (K size1 (q6.wrap (depth1+1)) 0 wl1)))
def m_B_j2 (p1:Option Addr) (p2 p3:Addr) (e2:Int) (w:World) (K:Int→Int→Int→WP):Prop :=Br (e2 != 0) (K 0 0 e2 w) (∃v1,w.cell? (p2.add 5)=some (vi v1)∧∃v2,w.cell? (p2.add 6)=some (vi v2)∧∀p4 w5,New w (.cells #[(vi v1),(vi v2)] 44) p4 w5→∃v3,w5.cell? (p3.add 4)=some (vi v3)∧∃s1:Sl,(Instr.sliceAt 118 (Sl.mk (some p4) 2 2).v none (some (vi v3)) none).run prog w5=.ok s1.v w5∧∃(I1:Int→Int→Int→WP) (mu1:Int→Int→Int→World→Nat),I1 1 0 0 w5∧∀(size1 depth1 x1:Int) (wl1:World),I1 size1 depth1 x1 wl1→m_B_l3 p1 s1 size1 depth1 x1 wl1 (fun y'0 y'1 y'2 w'=>I1 y'0 y'1 y'2 w'∧mu1 y'0 y'1 y'2 w'<mu1 size1 depth1 x1 wl1) K)
def m_B_j1 (p1:Option Addr) (p2 p3:Addr) (e1:Int) (w:World) (K:Int→Int→Int→WP):Prop :=Br (e1 == 0) (∃vfrom1 vto1 vnum1 vtext1 vkids1,Row w p3 (Ae vfrom1 vto1 vnum1 vtext1 vkids1)∧∃aF aG aH aI aJ bL bM,Row w p2 (Ac aF aG aH aI aJ bL bM)∧Calls prog 47 #[(.agg #[(vb vfrom1),(vb vto1),(vb vnum1),(vb vtext1),(vi vkids1)]),(.agg #[(vi aF),(vi aG),(vi aH),(vu aI),(vs aJ),(vi bL),(vi bM)])] w (fun e w9=>∃r5,e=.returned (vi r5)∧m_B_j2 p1 p2 p3 r5 w9 K)) (m_B_j2 p1 p2 p3 e1 w K)
def m_B_j5 (p1:Option Addr) (p2:Addr) (r1:Int) (p3:Addr) (x2 x3:Bool) (w:World) (K:Int→Int→Int→WP):Prop :=Br (r1 == 0) (Br x2 (m_B_j1 p1 p2 p3 53 w K) (Br x3 (m_B_j1 p1 p2 p3 53 w K) (m_B_j1 p1 p2 p3 r1 w K))) (m_B_j1 p1 p2 p3 r1 w K)
def m_B_j4 (p1:Option Addr) (p2:Addr) (r1:Int) (p3:Addr) (x2:Bool) (w:World) (K:Int→Int→Int→WP):Prop :=Br (r1 == 0) (Br x2 (m_B_j1 p1 p2 p3 53 w K) (∃v6,w.cell? (p3.add 4)=some (vi v6)∧Br (decide (v6<2)) (∃v7,w.cell? (p2.add 6)=some (vi v7)∧m_B_j5 p1 p2 r1 p3 x2 (v7 != 0) w K) (m_B_j5 p1 p2 r1 p3 x2 false w K))) (m_B_j1 p1 p2 p3 r1 w K)
def m_B (p1:Option Addr) (aS aT:Int) (aU aV:Int) (aW:ByteArray) (aX aY:Int) (w:World) (K:Int→Int→Int→WP):Prop :=∀p2 w1,New w (.cells #[(vi aS),(vi aT),(vi aU),(vu aV),(vs aW),(vi aX),(vi aY)] 84) p2 w1→∃aA aB aC aD aE aK aL,Row w1 p2 (Ac aA aB aC aD aE aK aL)∧Calls prog 46 #[(.agg #[(vi aA),(vi aB),(vi aC),(vu aD),(vs aE),(vi aK),(vi aL)])] w1 (fun e w2=>∃rfrom1 rto1 rnum1 rtext1 rkids1 r1,e=.returned (.tuple #[(Ai rfrom1 rto1 rnum1 rtext1 rkids1),(vi r1)])∧∀p3 w3,New w2 (.cells #[(vb false),(vb false),(vb false),(vb false),(vi 0)] 87) p3 w3→(∀j,j<5→kD w3 (p3.add j))∧∀w4,w4=storeRow w3 p3 (Ae rfrom1 rto1 rnum1 rtext1 rkids1)→Br (r1 == 0) (∃v5,w4.cell? (p3.add 4)=some (vi v5)∧Br (decide (v5<1)) (∃v8,w4.cell? (p2.add 5)=some (vi v8)∧m_B_j4 p1 p2 r1 p3 (v8 != 0) w4 K) (m_B_j4 p1 p2 r1 p3 false w4 K)) (m_B_j1 p1 p2 p3 r1 w4 K))
theorem w_B (p1 aS aT aU aV aW aX aY w K) (h:m_B p1 aS aT aU aV aW aX aY w K):
  Calls prog 63 #[(vp p1),(.agg #[(vi aS),(vi aT),(vi aU),(vu aV),(vs aW),(vi aX),(vi aY)])] w (fun e w'=>∃r6 r7 r8,e=.returned (.tuple #[(vi r6),(vi r7),(vi r8)])∧K r6 r7 r8 w'):=by
 refine cw (args:=[(vp p1),(Ad aS aT aU aV aW aX aY)]) func63 ntmps63 (eg (sn (O:=(.cells #[(vi aS),(vi aT),(vi aU),(vu aV),(vs aW),(vi aX),(vi aY)] 84)) xb ?_))
 intro p2 w1 hn4
 have h:=h p2 w1 hn4
 refine qc (ln (eg ?_))
 obtain ⟨aA,aB,aC,aD,aE,aK,aL,hv14,h⟩:=h
 refine qa (isAgg84 _) (sizeOf84 _) hv14 (sc call46 (h.mono fun e w2 ⟨rfrom1,rto1,rnum1,rtext1,rkids1,r1,k,h⟩=>⟨_,k,?_⟩))
 refine qc (nw1 h (jV (zeroValue87 _) rfl) fun p3 w3 h=>sro (sizeOf87 _) h fun w4 h=>q (ln (qS (fun ρ w=>∃e1,Has ρ [(0,(vp p1)),(3,(vp (some p2))),(7,(vp (some p3))),(8,(vi e1))]∧m_B_j1 p1 p2 p3 e1 w K) ?_ ?_)))
 rintro ρ w ⟨e1,hH,h⟩
 refine jZ hH (qS (fun ρ w=>∃e2,Has ρ [(0,(vp p1)),(3,(vp (some p2))),(7,(vp (some p3))),(8,(vi e2))]∧m_B_j2 p1 p2 p3 e2 w K) ?_ ?_)
 rintro ρ w ⟨e2,hH,h⟩
 refine jZ hH (jC (eg (qb (ln (cbr h ?_ ?_)))))<;>intro h
 refine eg (qd (ln (er (kB (res3 (.inl rfl) results63 (v:=(vi 0)) (by kernel_rfl) (v':=(vi 0)) (by kernel_rfl) (v'':=(vi e2)) (by kernel_rfl) ⟨0,0,e2,rfl,h⟩)))))
 refine jG (jM (eg (qb (ln (jC (eg (q (ql (isAgg44 _) h fun v1 h=>q (ql (isAgg44 _) h fun v2 h=>kU (O:=(.cells #[(vi v1),(vi v2)] 44)) (fun p=>(Sl.mk (some p) 2 2).v) (jF rfl) (jS (vs:=#[(0,(vi v1)),(1,(vi v2))]) (by kernel_rfl) (by kernel_rfl)) ?_)))))))))
 intro p4 w5 hn2
 have h:=h p4 w5 hn2
 refine q (ql (isAgg3 _) h fun v3 h=>?_)
 obtain ⟨s1,hv4,h⟩:=h
 refine q2 s1.v (yX (by kernel_rfl) (by kernel_rfl) (by kernel_rfl) (by kernel_rfl) hv4) (qb (ln (jP ?_)))
 obtain ⟨I1,mu1,h0,hr⟩:=h
 refine kN (σ:=Int×Int×Int×World) (fun s ρ w=>w=s.2.2.2∧Has ρ [(0,(vp p1)),(9,(vi s.1)),(10,(vi s.2.1)),(55,s1.v),(56,(vi (s1.len:Int))),(57,(vi s.2.2.1))]∧I1 s.1 s.2.1 s.2.2.1 s.2.2.2) (fun s=>mu1 s.1 s.2.1 s.2.2.1 s.2.2.2) (1,0,0,w5) ⟨rfl,hm,h0⟩ ?_
 rintro ⟨size1,depth1,x1,wl1⟩ ρ w ⟨hw,hH,hI⟩
 dsimp only at hw hH;subst w
 have h:=hr size1 depth1 x1 wl1 hI
 refine jZ hH (eg (q (ln (jC (cbr h ?_ ?_)))))<;>intro h
 refine jG (jM (jC (jP (eg (qi (runUnderlying118 _) (sizeOf44 _) h fun a1 h=>ql (isAgg44 _) h fun v4 h=>q (ln (jC (eg (qb (sc call73 (h.mono fun e w6 ⟨r2,k,h⟩=>⟨_,k,?_⟩)))))))))))
 refine q (ln (cbr h ?_ ?_))<;>intro h
 refine eg (qc (ln (er (kB (yK (kB (kB (yK (kB (res3 (.inl rfl) results63 (v:=(vi 0)) (by kernel_rfl) (v':=(vi 0)) (by kernel_rfl) (v'':=(vi 51)) (by kernel_rfl) ⟨0,0,51,rfl,h⟩))))))))))
 refine jG (jM (eg (qc (sc call74 (h.mono fun e w7 ⟨r3,k,h⟩=>⟨_,k,?_⟩)))))
 refine qb (ln (rg (qc (sc call75 (h.mono fun e w8 ⟨r4,k,h⟩=>⟨_,k,?_⟩)))))
 obtain ⟨z1,hv1,h⟩:=h
 refine q2 (vi z1) (jO (args:=#[(vi depth1),(vi r4)]) (by kernel_rfl) (fun _=>rfl) hv1) (q (jB (kY (jM (rg (qb (ln ⟨((q6.wrap (size1+r3)),z1,(q6.wrap (x1+1)),w8),⟨rfl,hm,h.1⟩,h.2⟩)))))))
 refine zQ (qI (qI (qH (jM (eg (q0 (vi depth1) (q0 (vi (q6.wrap (depth1+1))) (q0 (vi (q6.wrap (depth1+1))) (ln (jC (eg (qc ?_))))))))))))
 obtain ⟨hg1,h⟩|⟨hg1,h⟩:=h.br
 refine sj2 80 hg1 (q2 (vb true) (xT hg1) (ln (kE (by kernel_rfl) (eg (q0 (vi 0) (q0 (vi 0) (q0 (vi 52) (jB (jM (er (kB (res3 (.inl rfl) results63 (v:=(vi 0)) (by kernel_rfl) (v':=(vi 0)) (by kernel_rfl) (v'':=(vi 52)) (by kernel_rfl) ⟨0,0,52,rfl,h⟩))))))))))))
 refine qk 80 hg1 (qk 80 hg1 (q2 (vb (decide ((q6.wrap (depth1+1))>64))) (xF hg1) (ln (cbr h ?_ ?_))))<;>intro h
 refine eg (qc (ln (er (kB (res3 (.inl rfl) results63 (v:=(vi 0)) (by kernel_rfl) (v':=(vi 0)) (by kernel_rfl) (v'':=(vi 52)) (by kernel_rfl) ⟨0,0,52,rfl,h⟩)))))
 refine jG (jM (eg (q (qd (ln (er (res3 (.inl rfl) results63 (v:=(vi size1)) (by kernel_rfl) (v':=(vi (q6.wrap (depth1+1)))) (by kernel_rfl) (v'':=(vi 0)) (by kernel_rfl) ⟨size1,(q6.wrap (depth1+1)),0,rfl,h⟩)))))))
 refine eg (qb (ln (cbr h ?_ ?_)))<;>intro h
 refine rg ?_
 obtain ⟨vfrom1,vto1,vnum1,vtext1,vkids1,hv9,h⟩:=h
 refine qa (isAgg87 _) (sizeOf87 _) hv9 ?_
 obtain ⟨aF,aG,aH,aI,aJ,bL,bM,hv8,h⟩:=h
 refine qa (isAgg84 _) (sizeOf84 _) hv8 (sc call47 (h.mono fun e w9 ⟨r5,k,h⟩=>⟨_,k,?_⟩))
 refine q (ln ⟨r5,hm,h⟩)
 refine jG (jM ⟨e1,hm,h⟩)
 refine eg (qc ?_)
 obtain ⟨hg2,h⟩|⟨hg2,h⟩:=h.br
 refine qk 20 hg2 ?_
 obtain ⟨v5,hv13,h⟩:=h
 refine q4 20 hg2 (xl (isAgg3 _) hv13) (qk 20 hg2 (qk 20 hg2 (jN 4 (fun ρ w=>∃x2,Has ρ [(0,(vp p1)),(3,(vp (some p2))),(7,(vp (some p3))),(8,(vi r1)),(20,(vb (r1 == 0))),(28,(vb x2))]∧m_B_j4 p1 p2 r1 p3 x2 w K) ?_ ?_)))
 rintro ρ w ⟨x2,hH,h⟩
 refine jU hH ?_
 obtain ⟨hg3,h⟩|⟨hg3,h⟩:=h.br
 refine qk 20 hg3 ?_
 obtain ⟨hg4,h⟩|⟨hg4,h⟩:=h.br
 refine sj4 29 hg4 (sm (sm (sm (sj 29 hg4 (stq (v:=(vb true)) (wy 20 hg3) (xT hg4) (q2 (vb true) (xT hg3) (ln (kE (by kernel_rfl) (rg (q0 (vi 53) (ln ⟨53,hm,h⟩)))))))))))
 refine qk 29 hg4 ?_
 obtain ⟨v6,hv11,h⟩:=h
 refine q4 29 hg4 (xl (isAgg3 _) hv11) (qk 29 hg4 (qk 29 hg4 (jN 4 (fun ρ w=>∃x3,Has ρ [(0,(vp p1)),(3,(vp (some p2))),(7,(vp (some p3))),(8,(vi r1)),(20,(vb (r1 == 0))),(29,(vb x2)),(37,(vb x3))]∧m_B_j5 p1 p2 r1 p3 x2 x3 w K) ?_ ?_)))
 rintro ρ w ⟨x3,hH,h⟩
 refine jU hH ?_
 obtain ⟨hg5,h⟩|⟨hg5,h⟩:=h.br
 obtain ⟨hg6,h⟩|⟨hg6,h⟩:=h.br
 refine stq (v:=(vb true)) (wy 20 hg5) (xT hg6) (q2 (vb true) (xT hg5) (ln (kE (by kernel_rfl) (rg (q0 (vi 53) (ln ⟨53,hm,h⟩))))))
 refine stq (v:=(vb x3)) (wy 20 hg5) (xF hg6) (q2 (vb x3) (xT hg5) (ln (cbr h ?_ ?_)))<;>intro h
 refine rg (q (ln ⟨53,hm,h⟩))
 refine jG (jM ⟨r1,hm,h⟩)
 refine sj 20 hg5 (q2 (vb false) (xF hg5) (ln (zT (by kernel_rfl) (jG (jM ⟨r1,hm,h⟩)))))
 obtain ⟨hg7,h⟩|⟨hg7,h⟩:=h.br
 refine qk 33 hg7 ?_
 obtain ⟨v7,hv10,h⟩:=h
 refine q4 33 hg7 (xl (isAgg44 _) hv10) (qk 33 hg7 (stq (v:=(vb (v7 != 0))) (wy 29 hg4) (xT hg7) (jB ⟨(v7 != 0),hm,h⟩)))
 refine sj3 33 hg7 (stq (v:=(vb false)) (wy 29 hg4) (xF hg7) (jB ⟨false,hm,h⟩))
 refine sj 20 hg3 (sm (sm (sm (sm (sm (sm (sm (sm (sj 20 hg3 (q2 (vb false) (xF hg3) (jB (jM (zT (by kernel_rfl) (jG (jM ⟨r1,hm,h⟩)))))))))))))))
 obtain ⟨hg8,h⟩|⟨hg8,h⟩:=h.br
 refine qk 24 hg8 ?_
 obtain ⟨v8,hv12,h⟩:=h
 refine q4 24 hg8 (xl (isAgg44 _) hv12) (qk 24 hg8 (stq (v:=(vb (v8 != 0))) (wy 20 hg2) (xT hg8) (jB ⟨(v8 != 0),hm,h⟩)))
 refine sj3 24 hg8 (stq (v:=(vb false)) (wy 20 hg2) (xF hg8) (jB ⟨false,hm,h⟩))
 refine sj4 20 hg2 (sm (sm (sm (sj2 20 hg2 (sm (sm (sm (sm (sm (sm (sm (sm (sj 20 hg2 (q2 (vb false) (xF hg2) (ln (zT (by kernel_rfl) (jG (jM ⟨r1,hm,h⟩))))))))))))))))))
def m_G1  (w:World) (K:(Array Value)→WP):Prop :=∀p1 w1,New w (.cells #[(vb false),(vb false),(vb false),(vb false),(vi 0),(vb false),(vb false),(vb false),(vb false),(vi 0),(vb false),(vb false),(vb false),(vb false),(vi 0),(vb false),(vb false),(vb false),(vb false),(vi 0),(vb false),(vb false),(vb false),(vb false),(vi 0),(vb false),(vb false),(vb false),(vb false),(vi 0),(vb false),(vb false),(vb false),(vb false),(vi 0),(vb false),(vb false),(vb false),(vb false),(vi 0),(vb false),(vb false),(vb false),(vb false),(vi 0),(vb false),(vb false),(vb false),(vb false),(vi 0)] 116) p1 w1→(∀j,j<50→kD w1 (p1.add j))∧∀w2,w2=storeRow w1 p1 (Ah false false false false 0 true false false false 0 false false true false 0 false false false true 0 false false false false 2 false false false false 1 true false false false 0 true false false false 1 true true false false 1 true true false false 1)→∃q1:Array Value,(q1.size=50∧Row w2 p1 q1.toList)∧K q1 w2
theorem w_G1  (w:World) (K:(Array Value)→WP) (h:m_G1  w K) :
  Calls prog 72 #[] w (fun e w'=>∃r1:Array Value,e=.returned (.agg r1)∧K r1 w'):=by
 refine cw (args:=[]) func72 ntmps72 (eg (sn (O:=(.cells #[(vb false),(vb false),(vb false),(vb false),(vi 0),(vb false),(vb false),(vb false),(vb false),(vi 0),(vb false),(vb false),(vb false),(vb false),(vi 0),(vb false),(vb false),(vb false),(vb false),(vi 0),(vb false),(vb false),(vb false),(vb false),(vi 0),(vb false),(vb false),(vb false),(vb false),(vi 0),(vb false),(vb false),(vb false),(vb false),(vi 0),(vb false),(vb false),(vb false),(vb false),(vi 0),(vb false),(vb false),(vb false),(vb false),(vi 0),(vb false),(vb false),(vb false),(vb false),(vi 0)] 116)) (jV (zeroValue116 _) rfl) ?_))
 intro p1 w1 hn2
 have h:=h p1 w1 hn2
 refine ln (eg (qd (qd (qb (sro (sizeOf116 _) h fun w2 h=>ln (er ?_))))))
 obtain ⟨q1,hv1,h⟩:=h
 refine gg1 results72 (RV.cellAr (A:=p1) (vs:=q1) (by kernel_rfl) (isAgg116 _) (sizeOf116 _) hv1) ⟨q1,rfl,h⟩
def m_S_j1 (p1:Option Addr) (t1:Int) (x1:Bool) (w:World) (K:Bool→WP):Prop :=Br x1 (∃a1,p1=some a1∧∃v1:Sl,w.cell? a1=some v1.v∧K (decide (t1≤(v1.len:Int))) w) (K false w)
def m_S (p1:Option Addr) (t1:Int) (w:World) (K:Bool→WP):Prop :=Br (!(Option.isNone p1)) (m_S_j1 p1 t1 (decide (t1≥1)) w K) (m_S_j1 p1 t1 false w K)
theorem w_S (p1 t1 w K) (h:m_S p1 t1 w K):
  Calls prog 73 #[(vp p1),(vi t1)] w (fun e w'=>∃r1,e=.returned (vb r1)∧K r1 w'):=by
 refine cw (args:=[(vp p1),(vi t1)]) func73 ntmps73 (eg (q0 (vb false) (ln (eg (q0 (vp p1) (q2 (vb (!(Option.isNone p1))) (jDP (by kernel_rfl) rfl underlying46) (q0 (vb (!(Option.isNone p1))) ?_)))))))
 refine jN 3 (fun ρ w=>∃x1,Has ρ [(0,(vp p1)),(1,(vi t1)),(10,(vb x1))]∧m_S_j1 p1 t1 x1 w K) ?_ ?_
 rintro ρ w ⟨x1,hH,h⟩
 refine jU hH (q ?_)
 obtain ⟨hg1,h⟩|⟨hg1,h⟩:=h.br
 refine qk 11 hg1 (qk 11 hg1 ?_)
 obtain ⟨a1,hp1,h⟩:=h
 refine q4 11 hg1 (xn hp1) (qk 11 hg1 ?_)
 obtain ⟨v1,hv1,h⟩:=h
 refine q4 11 hg1 (xl (isAgg64 _) hv1) (qk 11 hg1 (qk 11 hg1 (q2 (vb (decide (t1≤(v1.len:Int)))) (xT hg1) (q (ln (er (rs1 results73 ⟨(decide (t1≤(v1.len:Int))),rfl,h⟩)))))))
 refine sj2 11 hg1 (sj5 11 hg1 (q2 (vb false) (xF hg1) (q (ln (er (rs1 results73 ⟨false,rfl,h⟩))))))
 obtain ⟨hg2,h⟩|⟨hg2,h⟩:=h.br
 refine qk 7 hg2 (qk 7 hg2 (q2 (vb (decide (t1≥1))) (xT hg2) (jB ⟨(decide (t1≥1)),hm,h⟩)))
 refine sj2 7 hg2 (q2 (vb false) (xF hg2) (jB ⟨false,hm,h⟩))
def m_H1 (p1:Option Addr) (t1:Int) (w:World) (K:Int→WP):Prop :=Calls prog 73 #[(vp p1),(vi t1)] w (fun e w1=>∃r1,e=.returned (vb r1)∧Br (!r1) (K 0 w1) (∃a1,p1=some a1∧∃v1:Sl,w1.cell? a1=some v1.v∧∃a2:Addr,At v1 (q6.wrap (t1 - 1)) 9 a2∧∃v2,w1.cell? (a2.add 7)=some (vi v2)∧K v2 w1))
theorem w_H1 (p1 t1 w K) (h:m_H1 p1 t1 w K):
  Calls prog 74 #[(vp p1),(vi t1)] w (fun e w'=>∃r2,e=.returned (vi r2)∧K r2 w'):=by
 refine cw (args:=[(vp p1),(vi t1)]) func74 ntmps74 (eg (q0 (vi 0) (ln (jC (eg (q0 (vp p1) (q0 (vi t1) ?_)))))))
 refine sc call73 (h.mono fun e w1 ⟨r1,k,h⟩=>⟨_,k,?_⟩)
 refine q (ln (cbr h ?_ ?_))<;>intro h
 refine eg (q (ln (er (kB (rs1 results74 ⟨0,rfl,h⟩)))))
 refine jG (jM (eg (q (qm h fun a1 h=>q (ql (isAgg64 _) h fun v1 h=>qb (qi (runUnderlying64 _) (sizeOf95 _) h fun a2 h=>q (ql (isAgg3 _) h fun v2 h=>q (ln (er (rs1 results74 ⟨v2,rfl,h⟩))))))))))
def m_I1 (p1:Option Addr) (t1:Int) (w:World) (K:Int→WP):Prop :=Calls prog 73 #[(vp p1),(vi t1)] w (fun e w1=>∃r1,e=.returned (vb r1)∧Br (!r1) (K 0 w1) (∃a1,p1=some a1∧∃v1:Sl,w1.cell? a1=some v1.v∧∃a2:Addr,At v1 (q6.wrap (t1 - 1)) 9 a2∧∃v2,w1.cell? (a2.add 8)=some (vi v2)∧K v2 w1))
theorem w_I1 (p1 t1 w K) (h:m_I1 p1 t1 w K):
  Calls prog 75 #[(vp p1),(vi t1)] w (fun e w'=>∃r2,e=.returned (vi r2)∧K r2 w'):=by
 refine cw (args:=[(vp p1),(vi t1)]) func75 ntmps75 (eg (q0 (vi 0) (ln (jC (eg (q0 (vp p1) (q0 (vi t1) ?_)))))))
 refine sc call73 (h.mono fun e w1 ⟨r1,k,h⟩=>⟨_,k,?_⟩)
 refine q (ln (cbr h ?_ ?_))<;>intro h
 refine eg (q (ln (er (kB (rs1 results75 ⟨0,rfl,h⟩)))))
 refine jG (jM (eg (q (qm h fun a1 h=>q (ql (isAgg64 _) h fun v1 h=>qb (qi (runUnderlying64 _) (sizeOf95 _) h fun a2 h=>q (ql (isAgg3 _) h fun v2 h=>q (ln (er (rs1 results75 ⟨v2,rfl,h⟩))))))))))
end Go.Proofs
end
section
open Go Go.SE
namespace Go.Proofs
open Tryd
attribute [local irreducible] Calls
theorem jAP (n:Int) (w:World):Calls prog 62 #[.int .i64 n] w (fun e w'=>∃r,e=.returned (.bool r)∧(r=Sp.qF n∧w'=w)):=by
 refine w_F1 n w (fun r w'=>r=Sp.qF n∧w'=w) ?_;unfold m_F1;refine ⟨fun h=>⟨?_,rfl⟩,fun h=>⟨?_,rfl⟩⟩
 ·have:0≤n:=by simpa using h
  simp [Sp.qF,this]
 ·have:¬ 0≤n:=by simpa using h
  simp [Sp.qF,this]
theorem jAQ (s1 s2 s3 s4:Bool) (s5 k f t u:Int) (x:ByteArray) (a b:Int) (w:World) :
  Calls prog 47 #[.agg #[.bool s1,.bool s2,.bool s3,.bool s4,.int .i64 s5],.agg #[.int .i64 k,.int .i64 f,.int .i64 t,.int .u64 u,.string x,.int .i64 a,.int .i64 b]] w
   (fun e w'=>∃r,e=.returned (.int .i64 r)∧(r=Sp.jT ⟨s1,s2,s3,s4,s5⟩ ⟨k,f,t,u,x,a,b⟩∧Pure w w')):=by
 refine w_M _ _ _ _ _ _ _ _ _ _ _ _ w (fun r w'=>r=Sp.jT ⟨s1,s2,s3,s4,s5⟩ ⟨k,f,t,u,x,a,b⟩∧Pure w w') ?_
 unfold m_M
 intro p1 w1 h1 p2 w2 h2
 have b1:=(Box.of_new h1).pure (Ext.new h2)
 have b2:=Box.of_new h2
 have E:Pure w w2:=(Ext.new h1).trans (Ext.new h2)
 have J:∀c:Bool,c=(s1 && !Sp.qF f)→m_M_j1 p1 p2 c w2 (fun r w'=>r=Sp.jT ⟨s1,s2,s3,s4,s5⟩ ⟨k,f,t,u,x,a,b⟩∧Pure w w'):=by
  intro c hc;unfold m_M_j1;refine ⟨fun h=>⟨?_,E⟩,fun h=>⟨_,b1.cell rfl,fun h'=>⟨_,b2.cell rfl,?_⟩,fun h'=>⟨_,b2.cell rfl,fun h3=>⟨?_,E⟩,fun h3=>⟨?_,E⟩⟩⟩⟩
  ·rw [hc] at h;simp [Sp.jT,h]
  ·refine (jAP _ _).mono ?_;rintro _ _ ⟨r,rfl,rfl,rfl⟩;rw [hc] at h;refine ⟨_,rfl,fun h2=>⟨?_,E⟩,fun h2=>⟨_,b2.cell rfl,_,b2.cell rfl,fun h3=>⟨?_,E⟩,fun h3=>⟨_,b2.cell rfl,fun h4=>⟨?_,E⟩,fun h4=>⟨?_,E⟩⟩⟩⟩
   ·simp [Sp.jT,h',h2]
   ·simp [Sp.jT,h',h3]
   ·simp only [Sp.jT,h,h',h3];simp at h2 h4;simp [h2];omega
   ·simp only [Sp.jT,h,h',h3];simp at h2 h4;simp [h2];omega
  ·rw [hc] at h;simp only [Sp.jT,h,h'];simp at h3;simp;omega
  ·rw [hc] at h;simp only [Sp.jT,h,h'];simp at h3;simp;omega
 refine ⟨_,b1.cell0,fun h=>⟨_,b2.cell rfl,?_⟩,fun h=>J _ (by simp [h])⟩
 refine (jAP _ _).mono ?_
 rintro _ _ ⟨r,rfl,rfl,rfl⟩
 exact ⟨_,rfl,J _ (by simp [h])⟩
def tK:Array Value:=#[.bool false,.bool false,.bool false,.bool false,.int .i64 0,.bool true,.bool false,.bool false,.bool false,.int .i64 0,.bool false,.bool false,.bool true,.bool false,.int .i64 0,.bool false,.bool false,.bool false,.bool true,.int .i64 0,.bool false,.bool false,.bool false,.bool false,.int .i64 2,.bool false,.bool false,.bool false,.bool false,.int .i64 1,.bool true,.bool false,.bool false,.bool false,.int .i64 0,.bool true,.bool false,.bool false,.bool false,.int .i64 1,.bool true,.bool true,.bool false,.bool false,.int .i64 1,.bool true,.bool true,.bool false,.bool false,.int .i64 1]
theorem jFE (w:World):Calls prog 72 #[] w (fun e w'=>∃r,e=.returned (.agg r)∧(r=tK∧Pure w w')):=by
 refine w_G1 w (fun r w'=>r=tK∧Pure w w') ?_;unfold m_G1;intro p1 w1 h1;have E1:Pure w w1:=Ext.new h1;have hp:=New.own (Ext.refl w) h1;have b1:=Box.of_newA h1;clear h1;refine bx 50 b1 (by kernel_rfl) (by kernel_rfl) (fun w' b E=>?_);refine ⟨tK,⟨by kernel_rfl,b.row_eq (by kernel_rfl)⟩,rfl,E1.own hp E⟩
theorem jDJ (k:Int) (w:World):Calls prog 61 #[.int .i64 k] w (fun e w'=>∃r1:Bool,∃r2:Bool,∃r3:Bool,∃r4:Bool,∃r5:Int,∃r:Bool,e=.returned (.tuple #[.agg #[.bool r1,.bool r2,.bool r3,.bool r4,.int .i64 r5],.bool r])∧(((⟨r1,r2,r3,r4,r5⟩:Sp.Shape)=Sp.jL k∧r=Sp.vU k)∧Pure w w')):=by
 refine w_E1 k w (fun r1 r2 r3 r4 r5 r w'=>((⟨r1,r2,r3,r4,r5⟩:Sp.Shape)=Sp.jL k∧r=Sp.vU k)∧Pure w w') ?_;unfold m_E1;intro p1 w1 h1;have E1:Pure w w1:=Ext.new h1;have b1:=Box.of_new h1;have hp:=New.own (Ext.refl w) h1;refine ⟨fun h=>bx 5 b1 rfl rfl (fun w' b E=>⟨_,_,_,_,_,b.row,⟨?_,?_⟩,E1.own hp E⟩),fun h=>⟨fun h2=>bx 5 b1 rfl rfl (fun w' b E=>⟨_,_,_,_,_,b.row,⟨?_,?_⟩,E1.own hp E⟩),fun h2=>?_⟩⟩
 ·have:k<1:=by simpa using h
  simp only [Sp.jL,Sp.lD];repeat rw [if_neg (by omega)]
 ·have:k<1:=by simpa using h
  simp [Sp.vU];omega
 ·have:9<k:=by simpa using h2
  simp only [Sp.jL,Sp.lD];repeat rw [if_neg (by omega)]
 ·have:9<k:=by simpa using h2
  simp [Sp.vU];omega
 ·have h3:¬ k<1:=by simpa using h
  have h4:¬ 9<k:=by simpa using h2
  refine (jFE _).mono ?_;rintro _ w4 ⟨_,rfl,rfl,E4⟩;refine ⟨_,rfl,?_⟩;have b4:=b1.pure E4;have E5:Pure w w4:=E1.trans E4;have hk:k=1∨k=2∨k=3∨k=4∨k=5∨k=6∨k=7∨k=8∨k=9:=by omega
  rcases hk with rfl | rfl | rfl | rfl | rfl | rfl | rfl | rfl | rfl
  ·exact ⟨true,false,false,false,0,by kernel_rfl,bx 5 b4 rfl rfl (fun w' b E=>⟨_,_,_,_,_,b.row,⟨by decide,by decide⟩,E5.own hp E⟩)⟩
  ·exact ⟨false,false,true,false,0,by kernel_rfl,bx 5 b4 rfl rfl (fun w' b E=>⟨_,_,_,_,_,b.row,⟨by decide,by decide⟩,E5.own hp E⟩)⟩
  ·exact ⟨false,false,false,true,0,by kernel_rfl,bx 5 b4 rfl rfl (fun w' b E=>⟨_,_,_,_,_,b.row,⟨by decide,by decide⟩,E5.own hp E⟩)⟩
  ·exact ⟨false,false,false,false,2,by kernel_rfl,bx 5 b4 rfl rfl (fun w' b E=>⟨_,_,_,_,_,b.row,⟨by decide,by decide⟩,E5.own hp E⟩)⟩
  ·exact ⟨false,false,false,false,1,by kernel_rfl,bx 5 b4 rfl rfl (fun w' b E=>⟨_,_,_,_,_,b.row,⟨by decide,by decide⟩,E5.own hp E⟩)⟩
  ·exact ⟨true,false,false,false,0,by kernel_rfl,bx 5 b4 rfl rfl (fun w' b E=>⟨_,_,_,_,_,b.row,⟨by decide,by decide⟩,E5.own hp E⟩)⟩
  ·exact ⟨true,false,false,false,1,by kernel_rfl,bx 5 b4 rfl rfl (fun w' b E=>⟨_,_,_,_,_,b.row,⟨by decide,by decide⟩,E5.own hp E⟩)⟩
  ·exact ⟨true,true,false,false,1,by kernel_rfl,bx 5 b4 rfl rfl (fun w' b E=>⟨_,_,_,_,_,b.row,⟨by decide,by decide⟩,E5.own hp E⟩)⟩
  ·exact ⟨true,true,false,false,1,by kernel_rfl,bx 5 b4 rfl rfl (fun w' b E=>⟨_,_,_,_,_,b.row,⟨by decide,by decide⟩,E5.own hp E⟩)⟩
theorem jDK (k f t u:Int) (x:ByteArray) (a b:Int) (w:World) :
  Calls prog 46 #[.agg #[.int .i64 k,.int .i64 f,.int .i64 t,.int .u64 u,.string x,.int .i64 a,.int .i64 b]] w
   (fun e w'=>∃r1:Bool,∃r2:Bool,∃r3:Bool,∃r4:Bool,∃r5:Int,∃r:Int,e=.returned (.tuple #[.agg #[.bool r1,.bool r2,.bool r3,.bool r4,.int .i64 r5],.int .i64 r])∧(((⟨r1,r2,r3,r4,r5⟩:Sp.Shape)=Sp.jL k∧r=Sp.jY ⟨k,f,t,u,x,a,b⟩)∧Pure w w')):=by
 suffices key:∀K:Bool→Bool→Bool→Bool→Int→Int→WP,(∀r1 r2 r3 r4 r5 r w',((⟨r1,r2,r3,r4,r5⟩:Sp.Shape)=Sp.jL k∧r=Sp.jY ⟨k,f,t,u,x,a,b⟩)∧Pure w w'→K r1 r2 r3 r4 r5 r w')→m_A k f t u x a b w K from
  w_A _ _ _ _ _ _ _ w _ (key _ (fun _ _ _ _ _ _ _ h=>h))
 intro K hK
 unfold m_A
 intro p1 w1 h1 p2 w2 h2
 have a1:=(Box.of_new h1).pure (Ext.new h2)
 have a2:=Box.of_new h2
 have E2:Pure w w2:=(Ext.new h1).trans (Ext.new h2)
 have o2:=New.own (Ext.new h1:Pure w w1) h2
 have n12:p1.block≠p2.block:=New.ne h2 (Box.of_new h1).blk
 refine ⟨_,a1.cell0,?_⟩
 refine (jDJ _ _).mono ?_
 rintro _ w3 ⟨s1,s2,s3,s4,s5,ok,rfl,⟨hs,hok⟩,E3⟩
 refine ⟨_,_,_,_,_,_,rfl,?_⟩
 intro p3 w4 h3
 have E4:Pure w w4:=(E2.trans E3).trans (Ext.new h3)
 have o3:=New.own (E2.trans E3) h3
 have n13:p1.block≠p3.block:=New.ne h3 (a1.pure E3).blk
 have n23:p2.block≠p3.block:=New.ne h3 (a2.pure E3).blk
 refine bx 5 (Box.of_new h3) rfl rfl (fun w5 b3 E=>?_)
 have b1:=((a1.pure E3).pure (Ext.new h3)).ext E n13
 have b2:=((a2.pure E3).pure (Ext.new h3)).ext E n23
 have E5:=E4.own o3 E
 clear E E4 E3 E2 a1 a2 h1 h2 h3
 have fin : ∀ v : Int, v = Sp.jY ⟨k, f, t, u, x, a, b⟩ → (∀ j, j < 5 → kD w5 (p2.add j)) ∧ ∀ w', w' = storeRow w5 p2 [.bool s1, .bool s2, .bool s3, .bool s4, .int .i64 s5] →
   ∃q1:Bool,∃q2:Bool,∃q3:Bool,∃q4:Bool,∃q5:Int,Row w' p2 [.bool q1,.bool q2,.bool q3,.bool q4,.int .i64 q5]∧K q1 q2 q3 q4 q5 v w':=fun v hv =>
  bx 5 b2 rfl rfl (fun w' b E=>⟨_,_,_,_,_,b.row,hK _ _ _ _ _ _ _ ⟨⟨hs,hv⟩,E5.own o2 E⟩⟩)
 obtain ⟨e1,e2,e3,e4,e5⟩:s1=(Sp.jL k).frm∧s2=(Sp.jL k).to∧s3=(Sp.jL k).num∧s4=(Sp.jL k).text∧s5=(Sp.jL k).kids:=by rw [← hs];simp
 have J3:∀c:Bool,c=(!ok || (!s1 && f != 0) || (!s2 && t != 0) || (!s3 && u != 0))→m_A_j3 p1 p2 p3 c w5 K:=by
  intro c hc;unfold m_A_j3;refine ⟨fun h=>⟨_,_,_,_,_,b3.row,fin _ ?_⟩,fun h=>⟨_,b3.cell rfl,fun h4=>⟨_,b1.cell rfl,fun h5=>⟨_,_,_,_,_,b3.row,fin _ ?_⟩,fun h5=>⟨_,_,_,_,_,b3.row,fin _ ?_⟩⟩,fun h4=>⟨_,_,_,_,_,b3.row,fin _ ?_⟩⟩⟩
  ·rw [h] at hc;simp only [Sp.jY,← e1,← e2,← e3,← e4,← hok,← hc];simp
  ·rw [h] at hc;simp only [Sp.jY,← e1,← e2,← e3,← e4,← hok,← hc];simp at h4 h5;simp [h4,h5]
  ·rw [h] at hc;simp only [Sp.jY,← e1,← e2,← e3,← e4,← hok,← hc];simp at h4 h5;simp [h4,h5]
  ·rw [h] at hc;simp only [Sp.jY,← e1,← e2,← e3,← e4,← hok,← hc];simp at h4;simp [h4]
 have J2:∀c:Bool,c=(!ok || (!s1 && f != 0) || (!s2 && t != 0))→m_A_j2 p1 p2 p3 c w5 K:=by
  intro c hc;have J4:∀d:Bool,d=(!s3 && u != 0)→m_A_j4 p1 p2 p3 c d w5 K:=fun d hd=>⟨fun h=>J3 _ (by rw [← hc,h];rfl),fun h=>J3 _ (by rw [← hc,h];simpa using hd)⟩;exact ⟨fun h=>J3 _ (by rw [← hc,h];rfl),fun h=>⟨_,b3.cell rfl,fun h4=>⟨_,b1.cell rfl,J4 _ (by rw [h4];rfl)⟩,fun h4=>J4 _ (by rw [h4];rfl)⟩⟩
 have J1:∀c:Bool,c=(!ok || (!s1 && f != 0))→m_A_j1 p1 p2 p3 c w5 K:=by
  intro c hc;have J5:∀d:Bool,d=(!s2 && t != 0)→m_A_j5 p1 p2 p3 c d w5 K:=fun d hd=>⟨fun h=>J2 _ (by rw [← hc,h];rfl),fun h=>J2 _ (by rw [← hc,h];simpa using hd)⟩;exact ⟨fun h=>J2 _ (by rw [← hc,h];rfl),fun h=>⟨_,b3.cell rfl,fun h4=>⟨_,b1.cell rfl,J5 _ (by rw [h4];rfl)⟩,fun h4=>J5 _ (by rw [h4];rfl)⟩⟩
 have J6:∀d:Bool,d=(!s1 && f != 0)→m_A_j6 p1 p2 ok p3 d w5 K:=fun d hd=>⟨fun h=>J1 _ (by rw [h];rfl),fun h=>J1 _ (by rw [h];simpa using hd)⟩
 exact ⟨fun h=>J1 _ (by rw [h];rfl),fun h=>⟨_,b3.cell0,fun h4=>⟨_,b1.cell rfl,J6 _ (by rw [h4];rfl)⟩,fun h4=>J6 _ (by rw [h4];rfl)⟩⟩
def xG (n:Sp.Node):List Value:=[.int .i64 n.kind,.int .i64 n.frm,.int .i64 n.to,.int .u64 n.num,.string n.text,.int .i64 n.a,.int .i64 n.b]
def jDO (e:Sp.Ent):List Value:=xG e.node++[.int .i64 e.size,.int .i64 e.depth]
def lF (n:Sp.Node):Value:=.agg (xG n).toArray
def qC (L:Sp.Pool):List (Value×Value):=L.zipIdx.map fun p=>(lF p.1.node,.int .i64 (p.2+1:Nat))
structure PoolS (w:World) (p:Addr) (L:Sp.Pool) (s:Sl) (m:Nat):Prop where
 box:Box w p [s.v,.map (some m)] 66
 rows:Rws w 95 9 s (L.map jDO)
 map:CMap w m (qC L)
 n1:m≠p.block
 n2:¬ s.blk p.block
 n3:¬ s.blk m
def zR (w:World) (p:Addr) (L:Sp.Pool) (F:NP):Prop:=∃s m,PoolS w p L s m∧∀b,F b↔(b=p.block∨s.blk b∨b=m)
theorem zR.ext {G:NP} {w w':World} {p:Addr} {L:Sp.Pool} {F:NP} (h:zR w p L F) (hE:Ext G w w') (hd:∀b,F b→¬ G b):zR w' p L F:=by
 obtain ⟨s,m,h,hF⟩:=h;exact ⟨s,m,⟨h.box.ext hE (hd _ ((hF _).2 (.inl rfl))),h.rows.ext hE (fun b hb=>hd _ ((hF _).2 (.inr (.inl hb)))),h.map.ext hE (hd _ ((hF _).2 (.inr (.inr rfl)))),h.n1,h.n2,h.n3⟩,hF⟩
theorem zR.pure {w w':World} {p:Addr} {L:Sp.Pool} {F:NP} (h:zR w p L F) (hE:Pure w w'):zR w' p L F:=h.ext hE (fun _ _ h=>h)
theorem zR.lt {w:World} {p:Addr} {L:Sp.Pool} {F:NP} (h:zR w p L F) {b:Nat} (hb:F b):b<w.heap.size:=by
 obtain ⟨s,m,h,hF⟩:=h;rcases (hF b).1 hb with rfl | hb | rfl
 ·exact h.box.lt
 ·exact h.rows.lt hb
 ·exact h.map.lt
theorem i64 {n:Int} (h:-9223372036854775808≤n) (h':n≤9223372036854775807):IntKind.i64.wrap n=n:=IntWalk.i64_in n ⟨h,h'⟩
theorem c_in (p:Addr) (t:Int) (w:World) {L:Sp.Pool} {F:NP} (hP:zR w p L F):Calls prog 73 #[.pointer (some p),.int .i64 t] w (fun e w'=>∃r,e=.returned (.bool r)∧(r=Sp.inP L t∧w=w')):=by
 obtain ⟨s,m,h,_⟩:=hP;refine w_S (some p) t w (fun r w'=>r=Sp.inP L t∧w=w') ?_;unfold m_S;have hl:(s.len:Int)=L.length:=by rw [h.rows.len];simp
 refine Br.t rfl ⟨fun h1=>⟨p,rfl,s,h.box.cell0,?_,rfl⟩,fun h1=>⟨?_,rfl⟩⟩
 ·have:1≤t:=by simpa using h1
  simp [Sp.inP,hl,this]
 ·have:¬ 1≤t:=by simpa using h1
  simp [Sp.inP,this]
theorem PoolS.at {w:World} {p:Addr} {L:Sp.Pool} {s:Sl} {m:Nat} (h:PoolS w p L s m) {t:Int} (ht:Sp.inP L t=true) (hok:Sp.Ok L):∃a e,At s (IntKind.i64.wrap (t - 1)) 9 a∧Row w a (jDO e)∧s.blk a.block∧Sp.get L t=some e:=by
 obtain ⟨h1,h2⟩:=Sp.vJ.1 ht;obtain ⟨e,hg,_,hi,he⟩:=Sp.lI ht;have:=hok.few;rw [i64 (by omega) (by omega)];obtain ⟨a,hat,hr,hb⟩:=h.rows.at (i:=t - 1) (by omega) (by simpa using hi);exact ⟨a,e,hat,(by rw [List.getElem_map,he] at hr;exact hr),hb,hg⟩
theorem c_Size (p:Addr) (t:Int) (w:World) {L:Sp.Pool} {F:NP} (hP:zR w p L F) (hok:Sp.Ok L):Calls prog 74 #[.pointer (some p),.int .i64 t] w (fun e w'=>∃r,e=.returned (.int .i64 r)∧(r=Sp.sizeOf L t∧w=w')):=by
 refine w_H1 (some p) t w (fun r w'=>r=Sp.sizeOf L t∧w=w') ?_;unfold m_H1;refine (c_in p t w hP).mono ?_;rintro _ _ ⟨_,rfl,rfl,rfl⟩;obtain ⟨s,m,h,_⟩:=hP;refine ⟨_,rfl,fun h1=>⟨?_,rfl⟩,fun h1=>?_⟩
 ·simp [Sp.sizeOf,Sp.uU (show Sp.inP L t=false by simpa using h1)]
 ·obtain ⟨a,e,hat,hr,_,hg⟩:=h.at (show Sp.inP L t=true by simpa using h1) hok;exact ⟨p,rfl,s,h.box.cell0,a,hat,e.size,hr 7 (by simp [jDO,xG]),by simp [Sp.sizeOf,hg],rfl⟩
theorem jHC (p:Addr) (t:Int) (w:World) {L:Sp.Pool} {F:NP} (hP:zR w p L F) (hok:Sp.Ok L):Calls prog 75 #[.pointer (some p),.int .i64 t] w (fun e w'=>∃r,e=.returned (.int .i64 r)∧(r=Sp.depthOf L t∧w=w')):=by
 refine w_I1 (some p) t w (fun r w'=>r=Sp.depthOf L t∧w=w') ?_;unfold m_I1;refine (c_in p t w hP).mono ?_;rintro _ _ ⟨_,rfl,rfl,rfl⟩;obtain ⟨s,m,h,_⟩:=hP;refine ⟨_,rfl,fun h1=>⟨?_,rfl⟩,fun h1=>?_⟩
 ·simp [Sp.depthOf,Sp.uU (show Sp.inP L t=false by simpa using h1)]
 ·obtain ⟨a,e,hat,hr,_,hg⟩:=h.at (show Sp.inP L t=true by simpa using h1) hok;exact ⟨p,rfl,s,h.box.cell0,a,hat,e.depth,hr 8 (by simp [jDO,xG]),by simp [Sp.depthOf,hg],rfl⟩
theorem jDY (p:Addr) (k:Int) (w:World) (hk:k=0∨k=1∨k=2):(Instr.sliceAt 118 (Sl.mk (some p) 2 2).v .none (some (.int .i64 k)) .none).run prog w=.ok (Sl.mk (some p) k.toNat 2).v w:=by
 rcases hk with rfl | rfl | rfl <;> kernel_rfl
theorem jHB (p:Addr) (k f t u:Int) (x:ByteArray) (a b:Int) (w:World) {L:Sp.Pool} {F:NP} (hP:zR w p L F) (hok:Sp.Ok L) :
  Calls prog 63 #[.pointer (some p),.agg #[.int .i64 k,.int .i64 f,.int .i64 t,.int .u64 u,.string x,.int .i64 a,.int .i64 b]] w
   (fun e w'=>∃r1:Int,∃r2:Int,∃r3:Int,e=.returned (.tuple #[.int .i64 r1,.int .i64 r2,.int .i64 r3])∧((r1,r2,r3)=Sp.check L ⟨k,f,t,u,x,a,b⟩∧Pure w w')):=by
 suffices key:∀K:Int→Int→Int→WP,(∀r1 r2 r3 w',(r1,r2,r3)=Sp.check L ⟨k,f,t,u,x,a,b⟩∧Pure w w'→K r1 r2 r3 w')→m_B (some p) k f t u x a b w K from
  w_B _ _ _ _ _ _ _ _ w _ (key _ (fun _ _ _ _ h=>h))
 intro K hK
 unfold m_B
 intro p2 w1 h1
 have b1:=Box.of_new h1
 have E1:Pure w w1:=Ext.new h1
 refine ⟨_,_,_,_,_,_,_,b1.row,?_⟩
 refine (jDK _ _ _ _ _ _ _ _).mono ?_
 rintro _ w2 ⟨s1,s2,s3,s4,s5,pe,rfl,⟨hs,hpe⟩,E2⟩
 refine ⟨_,_,_,_,_,_,rfl,?_⟩
 intro p3 w3 h3
 have b2:=(b1.pure E2).pure (Ext.new h3)
 have n23:p2.block≠p3.block:=New.ne h3 (b1.pure E2).blk
 have E3:Pure w w3:=(E1.trans E2).trans (Ext.new h3)
 have o3:=New.own (E1.trans E2) h3
 refine bx 5 (Box.of_new h3) rfl rfl (fun w4 b3 E=>?_)
 have b2:=b2.ext E n23
 have E4:Pure w w4:=E3.own o3 E
 clear E E3 E2 E1 b1 h1 h3
 have hsh:Sp.jL k=⟨s1,s2,s3,s4,s5⟩:=hs.symm
 have hk5:s5=0∨s5=1∨s5=2:=by have:=Sp.jCX k;rw [hsh] at this;exact this
 generalize hn:(⟨k,f,t,u,x,a,b⟩:Sp.Node)=n at *
 have hnk:n.kind=k:=by rw [← hn]
 have hna:n.a=a:=by rw [← hn]
 have hnb:n.b=b:=by rw [← hn]
 have J2:∀e2 w',Pure w4 w'→(e2≠0→Sp.check L n=(0,0,e2))→(e2=0→pe=0∧((decide (s5<1) && a != 0) || (decide (s5<2) && b != 0))=false∧Sp.jT ⟨s1,s2,s3,s4,s5⟩ n=0)→m_B_j2 (some p) p2 p3 e2 w' K:=by
  intro e2 w' E' hne heq;have b2:=b2.pure E';have b3:=b3.pure E';have E5:=E4.trans E';have hP':=hP.pure E5;unfold m_B_j2;refine ⟨fun h=>hK _ _ _ _ ⟨(hne (by simpa using h)).symm,E5⟩,fun h=>⟨_,b2.cell rfl,_,b2.cell rfl,?_⟩⟩;intro p4 w5 h5;obtain ⟨hp0,hc0,hf0⟩:=heq (by simpa using h);have b4:=Box.of_new h5;have E6:=E5.trans (Ext.new h5);have hP6:=hP.pure E6;refine ⟨_,(b3.pure (Ext.new h5)).cell rfl,_,jDY p4 s5 w5 hk5,?_⟩;have hks:Sp.zF n=[a,b].take s5.toNat:=by simp [Sp.zF,hnk,hsh,hna,hnb]
  have hlen:(Sp.zF n).length=s5.toNat:=by rw [hks];rcases hk5 with rfl | rfl | rfl <;> rfl
  have hget:∀j (hj:j<(Sp.zF n).length),w5.cell? (p4.add (j*1))=some (.int .i64 (Sp.zF n)[j]):=by
   intro j hj;have hj2:j<s5.toNat:=by omega
   have:(Sp.zF n)[j]=[a,b][j]'(by simp;omega):=by simp only [hks,List.getElem_take]
   rw [this,Nat.mul_one];refine b4.cell ?_;have h2:j=0∨j=1:=by omega
   rcases h2 with rfl | rfl <;> rfl
  have hrest:Sp.check L n=if (Sp.zF n).any (fun t=>!Sp.inP L t) then (0,0,51) else if 1+((Sp.zF n).map (Sp.sizeOf L)).sum>4096∨(Sp.zF n).foldl (fun d t=>max d (Sp.depthOf L t)) 0+1>64 then (0,0,52) else (1+((Sp.zF n).map (Sp.sizeOf L)).sum,(Sp.zF n).foldl (fun d t=>max d (Sp.depthOf L t)) 0+1,0):=by
   unfold Sp.check;simp only [hnk,hsh,hna,hnb,← hpe,hp0,hc0,hf0];simp
  generalize hkk:Sp.zF n=ks at *;have hl2:ks.length≤2:=by omega
  have hsum:∀j,0≤((ks.take j).map (Sp.sizeOf L)).sum∧((ks.take j).map (Sp.sizeOf L)).sum≤4096*(ks.take j).length:=by
   intro j;generalize ks.take j=l;induction l with
   | nil=>simp
   | cons y l ih=>have:=hok.sizeOf y;simp only [List.map_cons,List.sum_cons,List.length_cons];omega
  have hdep:∀(l:List Int) (d:Int),0≤d→d≤64→0≤l.foldl (fun d t=>max d (Sp.depthOf L t)) d∧l.foldl (fun d t=>max d (Sp.depthOf L t)) d≤64:=by
   intro l;induction l with
   | nil=>intro d h1 h2;exact ⟨h1,h2⟩
   | cons y l ih=>intro d h1 h2;have:=hok.depthOf y;exact ih (max d (Sp.depthOf L y)) (by omega) (by omega)
  refine ⟨fun sz d x w'=>∃j:Nat,x=j∧j≤ks.length∧sz=1+((ks.take j).map (Sp.sizeOf L)).sum∧d=(ks.take j).foldl (fun d t=>max d (Sp.depthOf L t)) 0∧(ks.take j).any (fun t=>!Sp.inP L t)=false∧w5=w',fun _ _ x _=>(2 - x).toNat,⟨0,rfl,Nat.zero_le _,by simp,by simp,by simp,rfl⟩,?_⟩;rintro sz d _ _ ⟨j,rfl,hj,rfl,rfl,hin,rfl⟩;unfold m_B_l3;have hs1:=hsum j;have hd1:=hdep (ks.take j) 0 (by omega) (by omega);have htl:(ks.take j).length≤2:=by rw [List.length_take];omega
  refine ⟨fun h=>?_,fun h=>?_⟩
  ·have hlt:j<ks.length:=by have h:=of_decide_eq_true h;simp only at h;omega
   refine ⟨p4.add (j*1),⟨by omega,of_decide_eq_true h,p4,rfl,by simp⟩,ks[j],hget j hlt,?_⟩;have htk:ks.take (j+1)=ks.take j++[ks[j]]:=List.take_succ_eq_append_getElem hlt;refine (c_in p _ w5 hP6).mono ?_;rintro _ _ ⟨_,rfl,rfl,rfl⟩;refine ⟨_,rfl,fun h=>?_,fun h=>?_⟩
   ·refine hK _ _ _ _ ⟨?_,E6⟩;rw [hrest,if_pos];exact List.any_eq_true.2 ⟨ks[j],List.getElem_mem hlt,h⟩
   ·refine (c_Size p _ w5 hP6 hok).mono ?_;rintro _ _ ⟨_,rfl,rfl,rfl⟩;refine ⟨_,rfl,?_⟩;refine (jHC p _ w5 hP6 hok).mono ?_;rintro _ _ ⟨_,rfl,rfl,rfl⟩;refine ⟨_,rfl,_,run_max_int2 _ _ _ _ _ _ _,⟨j+1,?_,hlt,?_,?_,?_,rfl⟩,?_⟩
    ·rw [i64 (by omega) (by omega)];omega
    ·have:=hok.sizeOf ks[j];rw [i64 (by omega) (by omega),htk,List.map_append,List.sum_append];simp only [List.map_cons,List.map_nil,List.sum_cons,List.sum_nil];omega
    ·rw [htk,List.foldl_append];simp only [List.foldl_cons,List.foldl_nil];split <;> omega
    ·rw [htk,List.any_append,hin];simpa using h
    ·show (2 - IntKind.i64.wrap ((j:Int)+1)).toNat<(2 - (j:Int)).toNat;rw [i64 (by omega) (by omega)];omega
  ·have hge:j=ks.length:=by have h:=of_decide_eq_false h;simp only at h;omega
   subst hge;rw [List.take_length] at hs1 hd1 hin ⊢;have hlt:(ks.length:Int)≤2:=by omega
   refine ⟨fun h=>hK _ _ _ _ ⟨?_,E6⟩,fun h=>?_⟩
   ·rw [hrest,hin,if_neg (by simp),if_pos (.inl (by simpa using h))]
   ·rw [i64 (by omega) (by omega)];refine ⟨fun h'=>hK _ _ _ _ ⟨?_,E6⟩,fun h'=>hK _ _ _ _ ⟨?_,E6⟩⟩
    ·rw [hrest,hin,if_neg (by simp),if_pos (.inr (by simpa using h'))]
    ·rw [hrest,hin,if_neg (by simp),if_neg (by simp at h h';omega)]
 have J1:∀e1,(e1≠0→Sp.check L n=(0,0,e1))→(e1=0→pe=0∧((decide (s5<1) && a != 0) || (decide (s5<2) && b != 0))=false)→m_B_j1 (some p) p2 p3 e1 w4 K:=by
  intro e1 hne heq;unfold m_B_j1;refine ⟨fun h=>⟨_,_,_,_,_,b3.row,_,_,_,_,_,_,_,b2.row,?_⟩,fun h=>J2 _ _ (Ext.refl _) hne (fun e=>by rw [e] at h;cases h)⟩;obtain ⟨hp0,hc0⟩:=heq (by simpa using h);refine (jAQ _ _ _ _ _ _ _ _ _ _ _ _ _).mono ?_;rintro _ w9 ⟨_,rfl,rfl,E9⟩;rw [hn];refine ⟨_,rfl,J2 _ _ E9 (fun hf=>?_) (fun hf=>⟨hp0,hc0,hf⟩)⟩;unfold Sp.check;simp only [hnk,hsh,hna,hnb,← hpe,hp0,hc0];simp [hf]
 have J53:pe=0→((decide (s5<1) && a != 0) || (decide (s5<2) && b != 0))=true→m_B_j1 (some p) p2 p3 53 w4 K:=fun hp0 hc=>J1 53 (fun _=>by
  unfold Sp.check;simp only [hnk,hsh,hna,hnb,← hpe,hp0,hc];simp) (fun e=>by cases e)
 have Jpe:pe≠0→m_B_j1 (some p) p2 p3 pe w4 K:=fun hp=>J1 pe (fun _=>by
  unfold Sp.check;simp only [← hpe];rw [if_pos hp]) (fun e=>absurd e hp)
 have J5:∀x2 x3,x2=(decide (s5<1) && a != 0)→x3=(decide (s5<2) && b != 0)→m_B_j5 (some p) p2 pe p3 x2 x3 w4 K:=by
  intro x2 x3 h2 h3;unfold m_B_j5;refine ⟨fun h=>⟨fun hx=>J53 (by simpa using h) (by rw [← h2,hx];rfl),fun hx=>⟨fun hy=>J53 (by simpa using h) (by rw [← h2,← h3,hy];simp),fun hy=>J1 pe (fun e=>absurd (by simpa using h) e) (fun e=>⟨e,by rw [← h2,← h3,hx,hy];rfl⟩)⟩⟩,fun h=>Jpe (by simpa using h)⟩
 have J4:∀x2,x2=(decide (s5<1) && a != 0)→m_B_j4 (some p) p2 pe p3 x2 w4 K:=by
  intro x2 h2;unfold m_B_j4;refine ⟨fun h=>⟨fun hx=>J53 (by simpa using h) (by rw [← h2,hx];rfl),fun hx=>⟨_,b3.cell rfl,fun h5=>⟨_,b2.cell rfl,J5 _ _ h2 (by rw [h5];rfl)⟩,fun h5=>J5 _ _ h2 (by rw [h5];rfl)⟩⟩,fun h=>Jpe (by simpa using h)⟩
 exact ⟨fun h=>⟨_,b3.cell rfl,fun h5=>⟨_,b2.cell rfl,J4 _ (by rw [h5];rfl)⟩,fun h5=>J4 _ (by rw [h5];rfl)⟩,fun h=>Jpe (by simpa using h)⟩
def tD (v:Value):Prop:=∃n,v=lF n
theorem lE {n n':Sp.Node}:lF n=lF n'↔n=n':=by
 constructor
 ·intro h;cases n;cases n';simp [lF,xG] at h;simp [h]
 ·rintro rfl;rfl
theorem xX (n:Sp.Node):Instr.sameBits 10000 (lF n) (lF n)=true:=by
 have h:∀d,Instr.sameBits (d+1) (lF n) (lF n)=true:=fun d=>by
  have e:(n.text == n.text)=true:=by rw [beq_toListBytes];simp
  cases d <;> simp [Instr.sameBits,lF,xG,e]
 exact h 9999
theorem uC:KeyOK prog 84 tD:=by
 refine KeyOK.of_struct underlying84 ?_ ?_ ?_
 ·rintro _ ⟨n,rfl⟩ em w;kernel_rfl
 ·rintro _ _ w ⟨n,rfl⟩ ⟨n',rfl⟩;refine ⟨decide (n=n'),?_,by simp only [lE,decide_eq_true_eq];exact eq_comm⟩;obtain ⟨k,f,t,u,x,a,b⟩:=n;obtain ⟨k',f',t',u',x',a',b'⟩:=n';simp [Op.equal,Op.maxDepth,go_sem,jGC,lF,xG]
  repeat' split
  all_goals simp_all
 ·rintro _ ⟨n,rfl⟩;exact xX n
theorem gI:SlType prog 64 95 9 (16*5):=by
 refine ⟨underlying64,⟨t95,_,by kernel_rfl,(by kernel_rfl:t95.zero=some (.agg #[.int .i64 0,.int .i64 0,.int .i64 0,.int .u64 0,.string ⟨#[]⟩,.int .i64 0,.int .i64 0,.int .i64 0,.int .i64 0])),by kernel_rfl,by kernel_rfl,rfl⟩,by omega⟩
theorem jED {L:Sp.Pool} {i:Nat} {n:Sp.Node} {v:Value} (h:(qC L)[i]?=some (lF n,v)):∃e,L[i]?=some e∧e.node=n∧v=.int .i64 (i+1:Nat):=by
 simp only [qC,List.getElem?_map,List.getElem?_zipIdx,Option.map_map,Option.map_eq_some_iff] at h;obtain ⟨e,he,h⟩:=h;simp only [Function.comp,Prod.mk.injEq] at h;exact ⟨e,he,lE.1 h.1,by rw [← h.2];simp⟩
theorem jEC {L:Sp.Pool} {n:Sp.Node} (h:∀q∈qC L,q.1≠lF n):∀e∈L,e.node≠n:=by
 intro e he hn;obtain ⟨i,hi,rfl⟩:=List.mem_iff_getElem.1 he;refine h (lF L[i].node,.int .i64 (i+1:Nat)) ?_ (by rw [hn]);exact List.mem_map.2 ⟨(L[i],i),by rw [List.mem_zipIdx_iff_getElem?];simp [hi],rfl⟩
theorem gN {L:Sp.Pool}:∀q∈qC L,tD q.1:=by
 intro q hq;obtain ⟨x,_,rfl⟩:=List.mem_map.1 hq;exact ⟨_,rfl⟩
theorem jCL (L:Sp.Pool) (e:Sp.Ent):qC (L++[e])=qC L++[(lF e.node,.int .i64 (L.length+1:Nat))]:=by
 simp [qC,List.zipIdx_append]
theorem jGU {L:Sp.Pool} (hok:Sp.Ok L) {i:Nat} {e:Sp.Ent} (h:L[i]?=some e):Sp.find L e.node=some i:=by
 obtain ⟨hi,rfl⟩:=List.getElem?_eq_some_iff.1 h;unfold Sp.find;rw [List.findIdx?_eq_some_iff_getElem];refine ⟨hi,by simp,fun j hj=>?_⟩;have hnd:=hok.nodup;simp only [decide_eq_true_eq];intro e;exact List.pairwise_iff_getElem.1 hnd j i (by simp;omega) (by simpa using hi) hj (by simpa using e)
theorem jDC {L:Sp.Pool} {n:Sp.Node} (h:∀e∈L,e.node≠n):Sp.find L n=none:=by
 unfold Sp.find;rw [List.findIdx?_eq_none_iff];intro e he;simpa using h e he
theorem c_Make (p:Addr) (k f t u:Int) (x:ByteArray) (a b:Int) (w:World) {L:Sp.Pool} {F:NP} (hP:zR w p L F) (hok:Sp.Ok L) :
  Calls prog 48 #[.pointer (some p),.agg #[.int .i64 k,.int .i64 f,.int .i64 t,.int .u64 u,.string x,.int .i64 a,.int .i64 b]] w
   (fun e w'=>∃r1:Int,∃r2:Int,e=.returned (.tuple #[.int .i64 r1,.int .i64 r2])∧((r1,r2)=((Sp.make L ⟨k,f,t,u,x,a,b⟩).1,(Sp.make L ⟨k,f,t,u,x,a,b⟩).2.1)∧∃F',zR w' p (Sp.make L ⟨k,f,t,u,x,a,b⟩).2.2 F'∧Ext F w w'∧∀b,F' b→F b∨w.heap.size≤b)):=by
 suffices key:∀K:Int→Int→WP,(∀r1 r2 w',((r1,r2)=((Sp.make L ⟨k,f,t,u,x,a,b⟩).1,(Sp.make L ⟨k,f,t,u,x,a,b⟩).2.1)∧∃F',zR w' p (Sp.make L ⟨k,f,t,u,x,a,b⟩).2.2 F'∧Ext F w w'∧∀b,F' b→F b∨w.heap.size≤b)→K r1 r2 w')→m_Z (some p) k f t u x a b w K from
  w_Z _ _ _ _ _ _ _ _ w _ (key _ (fun _ _ _ h=>h))
 intro K hK
 unfold m_Z
 intro p2 w1 h1
 have b1:=Box.of_new h1
 have E1:Pure w w1:=Ext.new h1
 have o2:¬ F p2.block:=fun h=>by have:=hP.lt h;have:=h1.at_size;omega
 refine Br.f rfl ⟨_,_,_,_,_,_,_,b1.row,?_⟩
 refine (jHB p k f t u x a b w1 (hP.pure E1) hok).mono ?_
 rintro _ w2 ⟨sz,dp,er,rfl,hck,E2⟩
 refine ⟨_,_,_,rfl,?_⟩
 generalize hn:(⟨k,f,t,u,x,a,b⟩:Sp.Node)=n at *
 have E3:Pure w w2:=E1.trans E2
 have xY:∀w',Pure w w'→∃F',zR w' p L F'∧Ext F w w'∧∀b,F' b→F b∨w.heap.size≤b:=fun w' E=>⟨F,hP.pure E,E.pure,fun _ h=>.inl h⟩
 refine ⟨fun h=>hK _ _ _ ?_,fun h=>?_⟩
 ·have he:er≠0:=by simpa using h
  have:Sp.make L n=(0,er,L):=by unfold Sp.make;simp [← hck,he]
  rw [this];exact ⟨rfl,xY _ E3⟩
 ·have he:er=0:=by simpa using h
  subst he
  intro w3 hw3
  have E4:Pure w w3:=by rw [hw3];exact E3.trans (Ext.drew w2)
  have b3:=(b1.pure E2).pure (show Pure w2 w3 by rw [hw3];exact Ext.drew w2)
  clear hw3
  obtain ⟨s,m,hS,hF⟩:=hP.pure E4
  refine ⟨p,rfl,_,hS.box.cell (i:=1) rfl,_,_,_,_,_,_,_,b3.row,?_⟩
  have hkey:(Value.agg #[.int .i64 k,.int .i64 f,.int .i64 t,.int .u64 u,.string x,.int .i64 a,.int .i64 b])=lF n:=by rw [← hn];rfl
  rw [hkey]
  rcases hS.map.lookup (P:=prog) (T:=63) (E:=44) underlying63 uC gN ⟨n,rfl⟩ (zeroValue44 _) true with ⟨hnot,hrun⟩ | ⟨i,v,hi,hrun⟩
  ·refine ⟨_,_,hrun,Br.f rfl ⟨p,rfl,s,hS.box.cell0,?_⟩⟩
   have hno:=jEC hnot
   have hfn:=jDC hno
   have hlen:(s.len:Int)=L.length:=by rw [hS.rows.len];simp
   refine ⟨fun h=>hK _ _ _ ?_,fun h=>?_⟩
   ·have h2:65536≤L.length:=by have h:=of_decide_eq_true h;omega
    have:Sp.make L n=(0,6,L):=by unfold Sp.make;simp [← hck,hfn,h2]
    rw [this];exact ⟨rfl,xY _ E4⟩
   ·have h2:¬ 65536≤L.length:=by have h:=of_decide_eq_false h;omega
    have hmk:Sp.make L n=((L.length:Int)+1,0,L++[⟨n,sz,dp⟩]):=by unfold Sp.make;simp [← hck,hfn,h2]
    refine ⟨fun w'=>w'.cell? p=some s.v∧Row w' p2 (xG n),⟨?_,?_⟩,?_⟩
    ·exact Ext.cell (F:=None) (Ext.drew w3) hS.box.cell0 id
    ·rw [← hn];exact Ext.row (F:=None) (Ext.drew w3) b3.row id
    intro w4 hw4
    have E5:Pure w3 w4:=by rw [hw4];exact Ext.drew w3
    clear hw4
    have hS4:PoolS w4 p L s m:=by
     exact ⟨hS.box.pure E5,hS.rows.pure E5,hS.map.ext E5 id,hS.n1,hS.n2,hS.n3⟩
    have b4:=b3.pure E5
    refine ⟨p,rfl,s,fun w' h=>h.1,k,f,t,u,x,a,b,fun w' h=>by have:=h.2;rw [← hn] at this;exact this,?_⟩
    intro p3 w5 h5
    have E6:Pure w4 w5:=Ext.new h5
    have o3:w.heap.size≤p3.block:=New.own (E4.trans E5) h5
    have b5:=Box.of_new h5
    have hrows5:=hS4.rows.pure E6
    have hbox5:=hS4.box.pure E6
    have hmap5:CMap w5 m (qC L):=hS4.map.ext E6 id
    have b45:=b4.pure E6
    have hrow:Row w5 p3 (jDO ⟨n,sz,dp⟩):=by rw [← hn];exact b5.row
    refine ⟨⟨hbox5.cell0,by rw [← hn];exact b45.row⟩,?_⟩
    obtain ⟨s1,w6,hr6,hrows6,E7,hb6⟩:=hrows5.append (P:=prog) (ty:=64) gI (c:=1) hrow (by simp [jDO,xG]) (by simp [jDO,xG,zX]) (by simp;omega) (by simp [maxLen];omega)
    have nb:∀b,s.blk b→b≠p2.block:=fun b hb e=>o2 (by rw [← e];exact (hF b).2 (.inr (.inl hb)))
    have hbox6:=hbox5.ext E7 hS.n2
    have hmap6:=hmap5.ext E7 hS.n3
    have b6:=b45.ext E7 (fun h=>nb _ h rfl)
    refine ⟨s1,w6,hr6,⟨hbox6.cell0,by rw [← hn];exact b6.row⟩,p,rfl,hbox6.canW0 (by simp),?_⟩
    intro w7 hw7
    have hbox7:Box w7 p [s1.v,.map (some m)] 66:=by rw [hw7];exact hbox6.set0
    have E8:Ext (·=p.block) w6 w7:=by rw [hw7];exact Ext.setCell p _
    clear hw7
    have hs1p:¬ s1.blk p.block:=fun h=>(hb6 _ h).elim hS.n2 (fun h=>by have:=hbox5.lt;omega)
    have hs1m:¬ s1.blk m:=fun h=>(hb6 _ h).elim hS.n3 (fun h=>by have:=hmap5.lt;omega)
    have hrows7:=hrows6.ext E8 (fun b hb e=>hs1p (by rw [← e];exact hb))
    have hmap7:=hmap6.ext E8 hS.n1
    have b7:=b6.ext E8 (fun e=>o2 (by rw [e];exact (hF _).2 (.inl rfl)))
    have hl1:(s1.len:Int)=L.length+1:=by rw [hrows6.len];simp
    refine ⟨p,rfl,s1,hbox7.cell0,?_⟩
    refine ⟨fun w'=>w'.cell? (p.add 1)=some (.map (some m))∧Row w' p2 (xG n),⟨?_,?_⟩,?_⟩
    ·exact Ext.cell (F:=None) (Ext.drew w7) (hbox7.cell (i:=1) rfl) id
    ·rw [← hn];exact Ext.row (F:=None) (Ext.drew w7) b7.row id
    intro w8 hw8
    have E9:Pure w7 w8:=by rw [hw8];exact Ext.drew w7
    clear hw8
    refine ⟨p,rfl,some m,fun w' h=>h.1,k,f,t,u,x,a,b,fun w' h=>by have:=h.2;rw [← hn] at this;exact this,?_⟩
    rw [hkey,hl1]
    have hmap8:CMap w8 m (qC L):=hmap7.ext E9 id
    obtain ⟨w9,hr9,hmap9,E10⟩:=hmap8.insert (P:=prog) (v:=.int .i64 ((L.length:Int)+1)) underlying63 uC gN ⟨n,rfl⟩ hnot
    refine ⟨w9,hr9,hK _ _ _ ?_⟩
    rw [hmk]
    have hbox9:=(hbox7.pure E9).ext E10 (fun e=>hS.n1 e.symm)
    have hrows9:=(hrows7.pure E9).ext E10 (fun b hb e=>hs1m (by rw [← e];exact hb))
    refine ⟨rfl,fun b=>b=p.block∨s1.blk b∨b=m,⟨s1,m,⟨hbox9,?_,?_,hS.n1,hs1p,hs1m⟩,fun _=>Iff.rfl⟩,?_,?_⟩
    ·simpa using hrows9
    ·rw [jCL];simpa using hmap9
    ·have hF':∀b,F b↔(b=p.block∨s.blk b∨b=m):=hF
     have Ea:Ext F w w5:=((E4.trans E5).trans E6).pure
     have Eb:Ext F w w6:=Ea.trans' E7 (fun i _ h=>(hF' i).2 (.inr (.inl h)))
     have Ec:Ext F w w7:=Eb.trans' E8 (fun i _ h=>(hF' i).2 (.inl h))
     have Ed:Ext F w w8:=Ec.thenPure E9
     exact Ed.trans' E10 (fun i _ h=>(hF' i).2 (.inr (.inr h)))
    ·intro b hb
     rcases hb with rfl | hb | rfl
     ·exact .inl ((hF _).2 (.inl rfl))
     ·rcases hb6 b hb with h | h
      ·exact .inl ((hF _).2 (.inr (.inl h)))
      ·right;have:=((E4.trans E5).trans E6).size;omega
     ·exact .inl ((hF _).2 (.inr (.inr rfl)))
  ·obtain ⟨e,he,hen,rfl⟩:=jED hi
   refine ⟨_,_,hrun,Br.t rfl (hK _ _ _ ?_)⟩
   have hfd:=jGU hok he
   rw [hen] at hfd
   have:Sp.make L n=((i:Int)+1,0,L):=by unfold Sp.make;simp [← hck,hfd]
   rw [this];exact ⟨by simp,xY _ E4⟩
def vD (t:Sp.Tree) (s:Sl):List Value:=[.int .i64 t.node.kind,.int .i64 t.node.frm,.int .i64 t.node.to,.int .u64 t.node.num,.string t.node.text,s.v]
inductive TreeAt (S:NP) (w:World):Sl→Sp.Tree→Prop
 | mk (k f t u : Int) (x : ByteArray) (ks : List Sp.Tree) (s : Sl) (rs : Nat → Sl) (len : s.len = ks.length) (fit : ks.length ≤ 9223372036854775807)
   (row:∀i (h:i<ks.length),∃a,At s i 6 a∧S a.block∧Row w a (vD ks[i] (rs i))) (kid:∀i (h:i<ks.length),TreeAt S w (rs i) ks[i]):TreeAt S w s (.mk k f t u x ks)
theorem TreeAt.ext {S F:NP} {w w':World} {s:Sl} {t:Sp.Tree} (h:TreeAt S w s t) (hE:Ext F w w') (hd:∀b,S b→¬ F b):TreeAt S w' s t:=by
 induction h with
 | mk k f t u x ks s rs len fit row kid ih =>
  exact .mk k f t u x ks s rs len fit (fun i h=>let ⟨a,h1,h2,h3⟩:=row i h;⟨a,h1,h2,hE.row h3 (hd _ h2)⟩) ih
theorem TreeAt.pure {S:NP} {w w':World} {s:Sl} {t:Sp.Tree} (h:TreeAt S w s t) (hE:Pure w w'):TreeAt S w' s t:=h.ext hE (fun _ _ h=>h)
theorem TreeAt.mono {S S':NP} {w:World} {s:Sl} {t:Sp.Tree} (h:TreeAt S w s t) (hd:∀b,S b→S' b):TreeAt S' w s t:=by
 induction h with
 | mk k f t u x ks s rs len fit row kid ih =>
  exact .mk k f t u x ks s rs len fit (fun i h=>let ⟨a,h1,h2,h3⟩:=row i h;⟨a,h1,hd _ h2,h3⟩) ih
theorem TreeAt.lt {S:NP} {w:World} {s:Sl} {t:Sp.Tree} (h:TreeAt S w s t):TreeAt (fun b=>S b∧b<w.heap.size) w s t:=by
 induction h with
 | mk k f t u x ks s rs len fit row kid ih =>
  refine .mk k f t u x ks s rs len fit (fun i h=>let ⟨a,h1,h2,h3⟩:=row i h;⟨a,h1,⟨h2,?_⟩,h3⟩) ih
  have:=h3 0 (by simp [vD])
  unfold World.cell? at this
  refine Classical.byContradiction fun hge=>?_
  have:w.heap[(a.add 0).block]?=none:=by rw [kA];exact Array.getElem?_eq_none (by omega)
  simp_all [vD]
theorem jAO (k f t u:Int) (x:ByteArray) (s:Sl) (w:World) :
  Calls prog 45 #[.agg #[.int .i64 k,.int .i64 f,.int .i64 t,.int .u64 u,.string x,s.v]] w
   (fun e w'=>∃k':Int,∃f':Int,∃t':Int,∃u':Int,∃x':ByteArray,∃a:Int,∃b:Int,e=.returned (.agg #[.int .i64 k',.int .i64 f',.int .i64 t',.int .u64 u',.string x',.int .i64 a,.int .i64 b])∧((⟨k',f',t',u',x',a,b⟩:Sp.Node)=⟨k,f,t,u,x,0,0⟩∧Pure w w')):=by
 refine w_D1 _ _ _ _ _ _ w (fun k' f' t' u' x' a b w'=>(⟨k',f',t',u',x',a,b⟩:Sp.Node)=⟨k,f,t,u,x,0,0⟩∧Pure w w') ?_
 unfold m_D1
 intro p1 w1 h1 p2 w2 h2
 have E1:Pure w w1:=Ext.new h1
 have b1:=(Box.of_new h1).pure (Ext.new h2)
 refine ⟨_,b1.cell0,_,b1.cell rfl,_,b1.cell rfl,_,b1.cell rfl,_,b1.cell rfl,?_⟩
 exact bx 7 (Box.of_new h2) rfl rfl (fun w' b E=>⟨_,_,_,_,_,_,_,b.row,rfl,(E1.trans (Ext.new h2)).own (New.own E1 h2) E⟩)
theorem jBB (t:Sp.Tree):∀i n:Int,0≤n→0≤(Sp.looks i n t).2:=by
 induction t using Sp.Tree.ind with
 | h k f t u x ks ih =>
  have:∀(ks:List Sp.Tree),(∀i (hi:i<ks.length),∀j n:Int,0≤n→0≤(Sp.looks j n ks[i]).2)→∀i e n:Int,0≤n→0≤(Sp.zB i e n ks).2:=by
   intro ks;induction ks with
   | nil=>intro _ i e n h;simpa [Sp.zB] using h
   | cons t ts iht =>
    intro hh i e n h
    unfold Sp.zB
    split
    ·exact iht (fun i hi=>hh (i+1) (by simpa using hi)) _ _ _ (hh 0 (by simp) i n h)
    ·exact h
  intro i n h
  unfold Sp.looks
  split
  ·exact h
  ·split
   ·exact h
   ·exact this ks ih _ _ _ (by omega)
theorem lG {ks:List Sp.Tree} {j:Nat} (hj:j<ks.length) (i n:Int):Sp.zB i 0 n (ks.drop j)=Sp.zB i (Sp.looks i n ks[j]).1 (Sp.looks i n ks[j]).2 (ks.drop (j+1)):=by
 rw [List.drop_eq_getElem_cons hj,Sp.zB,if_pos rfl]
theorem oJ {ks:List Sp.Tree} {e:Int} (h:e≠0) (i n:Int):Sp.zB i e n ks=(e,n):=by
 cases ks <;> simp [Sp.zB,h]
theorem jGX {S:NP} (q:Addr) (hq:¬ S q.block) (T:TypeId) (t:Sp.Tree):∀(s:Sl) (inside seen:Int) (w:World),0≤inside→0≤seen→TreeAt S w s t→Box w q [.int .i64 seen] T →
  Calls prog 27 #[.agg (vD t s).toArray,.int .i64 inside,.pointer (some q)] w
   (fun e w'=>∃r:Int,e=.returned (.int .i64 r)∧(r=(Sp.looks inside seen t).1∧Box w' q [.int .i64 (Sp.looks inside seen t).2] T∧Ext (·=q.block) w w')):=by
 induction t using Sp.Tree.ind with
 | h k f t u x ks ih =>
 intro s inside seen w hi0 hn0 hT hB
 suffices key:∀K:Int→WP,(∀r w',(r=(Sp.looks inside seen (.mk k f t u x ks)).1∧Box w' q [.int .i64 (Sp.looks inside seen (.mk k f t u x ks)).2] T∧Ext (·=q.block) w w')→K r w')→m_D k f t u x s inside (some q) w K from
  w_D _ _ _ _ _ _ _ _ w _ (key _ (fun _ _ h=>h))
 intro K hK
 unfold m_D
 intro p1 w1 h1
 have b1:=Box.of_new h1
 have E1:Pure w w1:=Ext.new h1
 have n1:q.block≠p1.block:=New.ne h1 hB.blk
 have hB1:=hB.pure E1
 have hT1:=hT.pure E1
 refine ⟨q,rfl,seen,hB1.cell0,fun h=>?_,fun h=>⟨fun h'=>?_,fun h'=>?_⟩⟩
 ·have h:=of_decide_eq_true h
  have:Sp.looks inside seen (.mk k f t u x ks)=(52,seen):=by rw [Sp.looks,if_pos (by omega)]
  rw [this] at hK;exact hK _ _ ⟨rfl,hB1,E1.pure⟩
 ·have h:=of_decide_eq_false h;have h':=of_decide_eq_true h'
  have:Sp.looks inside seen (.mk k f t u x ks)=(52,seen):=by rw [Sp.looks,if_neg (by omega),if_pos (by omega)]
  rw [this] at hK;exact hK _ _ ⟨rfl,hB1,E1.pure⟩
 have h:=of_decide_eq_false h;have h':=of_decide_eq_false h'
 have hsp:Sp.looks inside seen (.mk k f t u x ks)=Sp.zB (inside+1) (Sp.zZ ⟨k,f,t,u,x,0,0⟩ ks.length) (seen+1) ks:=by rw [Sp.looks,if_neg (by omega),if_neg (by omega)]
 rw [hsp] at hK
 unfold m_D_j1
 refine ⟨q,rfl,seen,hB1.cell0,q,rfl,hB1.canW0 (by simp),?_⟩
 rw [i64 (n:=seen+1) (by omega) (by omega)]
 intro w2 hw2
 have hB2:Box w2 q [.int .i64 (seen+1)] T:=by rw [hw2];exact hB1.set0
 have E12:Ext (·=q.block) w1 w2:=by rw [hw2];exact Ext.setCell q _
 clear hw2
 have b2:=b1.ext E12 (fun e=>n1 e.symm)
 have hT2:=hT1.ext E12 (fun b hb e=>hq (e▸hb))
 have E2:Ext (·=q.block) w w2:=E1.pure.trans E12
 refine ⟨_,_,_,_,_,_,b2.row,?_⟩
 refine (jAO _ _ _ _ _ _ w2).mono ?_
 rintro _ w3 ⟨k',f',t',u',x',a',b',rfl,hn,E23⟩
 cases hn
 refine ⟨_,_,_,_,_,_,_,rfl,?_⟩
 intro p2 w4 h4
 have n2:p1.block≠p2.block:=New.ne h4 (b2.pure E23).blk
 have E24:Pure w2 w4:=E23.trans (Ext.new h4)
 have o2:=New.own E23 h4
 refine bx 7 (Box.of_new h4) rfl rfl (fun w5 c2 E45=>?_)
 have E25:Pure w2 w5:=E24.own o2 E45
 refine ⟨_,_,_,_,_,_,_,c2.row,?_⟩
 refine (jDK _ _ _ _ _ _ _ w5).mono ?_
 rintro _ w6 ⟨s1,s2,s3,s4,s5,pe,rfl,⟨hs,hpe⟩,E56⟩
 refine ⟨_,_,_,_,_,_,rfl,?_⟩
 intro p3 w7 h7
 have n3:p2.block≠p3.block:=New.ne h7 (c2.pure E56).blk
 have E27:Pure w2 w7:=(E25.trans E56).trans (Ext.new h7)
 have o3:=New.own (E25.trans E56) h7
 refine bx 5 (Box.of_new h7) rfl rfl (fun w8 c3 E78=>?_)
 have E28:Pure w2 w8:=E27.own o3 E78
 have d2:=((c2.pure E56).pure (Ext.new h7)).ext E78 n3
 have d1:=b2.pure E28
 have hB8:=hB2.pure E28
 have hT8:=hT2.pure E28
 have E8:Ext (·=q.block) w w8:=E2.thenPure E28
 clear E78 E27 E56 E25 E45 E24 E23 E12 c2 b2 b1 hT2 hT1 hB1 h1 h4 h7
 have hlen:s.len=ks.length:=by cases hT;assumption
 have hfit:ks.length≤9223372036854775807:=by cases hT;assumption
 have hsh:Sp.jL k=⟨s1,s2,s3,s4,s5⟩:=hs.symm
 have J3:∀e w',Pure w8 w'→e=Sp.zZ ⟨k,f,t,u,x,0,0⟩ ks.length→m_D_j3 inside (some q) p1 e w' K:=by
  intro e w' E hown;rw [← hown] at hK;unfold m_D_j3;refine ⟨fun e i w'=>∃j:Nat,i=j∧j≤ks.length∧∃n:Int,0≤n∧Ext (·=q.block) w8 w'∧Box w' q [.int .i64 n] T∧Sp.zB (inside+1) e n (ks.drop j)=Sp.zB (inside+1) (Sp.zZ ⟨k,f,t,u,x,0,0⟩ ks.length) (seen+1) ks,fun _ i _=>((ks.length:Int) - i).toNat,⟨0,rfl,Nat.zero_le _,seen+1,by omega,E.pure,hB8.pure E,by rw [hown];rfl⟩,?_⟩;rintro e1 _ wl ⟨j,rfl,hj,n,hn,El,hBl,heq⟩;unfold m_D_l4;have dl:=d1.ext El (fun e=>n1 e.symm);have hTl:=hT8.ext El (fun b hb e=>hq (e▸hb));rw [← hown] at heq;have fin:∀n',Sp.zB (inside+1) e ((seen:Int)+1) ks=(e1,n')→n'=n→K e1 wl:=by
   rintro n' h rfl;refine hK _ _ ⟨by rw [h],by rw [h];exact hBl,E8.trans El⟩
  refine ⟨s,dl.cell rfl,fun hlt=>⟨fun he=>?_,fun he=>?_⟩,fun hlt=>?_⟩
  ·have hlt:j<ks.length:=by have h:=of_decide_eq_true hlt;omega
   have he:e1=0:=by simpa using he
   subst he;cases hTl with
   | mk _ _ _ _ _ _ _ rs len fit row kid =>
   obtain ⟨a,hat,ha,hr⟩:=row j hlt;refine ⟨s,dl.cell rfl,a,hat,_,_,_,_,_,rs j,hr,?_⟩;rw [i64 (n:=inside+1) (by omega) (by omega)];refine (ih j hlt (rs j) (inside+1) n wl (by omega) hn (kid j hlt) hBl).mono ?_;rintro _ w9 ⟨r,rfl,rfl,hB9,E9⟩;rw [lG hlt] at heq;refine ⟨_,rfl,⟨j+1,?_,hlt,_,jBB _ _ _ hn,El.trans E9,hB9,by rw [← hown];exact heq⟩,?_⟩
   ·rw [i64 (by omega) (by omega)];omega
   ·show ((ks.length:Int) - IntKind.i64.wrap ((j:Int)+1)).toNat<((ks.length:Int) - (j:Int)).toNat;rw [i64 (by omega) (by omega)];omega
  ·have he:e1≠0:=by simpa using he
   rw [oJ he] at heq;exact fin _ heq.symm rfl
  ·have hge:j=ks.length:=by have h:=of_decide_eq_false hlt;omega
   rw [hge,List.drop_length,Sp.zB] at heq;exact fin _ heq.symm rfl
 have J2:∀e1,e1=(if pe=0 then if (ks.length:Int)≠s5 then 53 else 0 else pe)→m_D_j2 inside (some q) p1 p2 p3 e1 w8 K:=by
  intro e1 he1;have hown:Sp.zZ ⟨k,f,t,u,x,0,0⟩ ks.length=if e1=0 then Sp.jT ⟨s1,s2,s3,s4,s5⟩ ⟨k,f,t,u,x,0,0⟩ else e1:=by
   unfold Sp.zZ;simp only [hsh,← hpe,he1]
  unfold m_D_j2;refine ⟨fun h=>⟨_,_,_,_,_,c3.row,_,_,_,_,_,_,_,d2.row,?_⟩,fun h=>J3 _ _ (Ext.refl _) ?_⟩
  ·have h:e1=0:=by simpa using h
   refine (jAQ _ _ _ _ _ _ _ _ _ _ _ _ _).mono ?_;rintro _ w9 ⟨_,rfl,rfl,E9⟩;exact ⟨_,rfl,J3 _ _ E9 (by rw [hown,if_pos h])⟩
  ·have h:e1≠0:=by simpa using h
   rw [hown,if_neg h]
 refine ⟨fun h=>⟨s,d1.cell rfl,s5,c3.cell rfl,fun h5=>J2 _ ?_,fun h5=>J2 _ ?_⟩,fun h=>J2 _ ?_⟩
 ·have h:pe=0:=by simpa using h
  have h5:(s.len:Int)≠s5:=by simpa using h5
  rw [if_pos h,if_pos (by omega)]
 ·have h:pe=0:=by simpa using h
  have h5:(s.len:Int)=s5:=by simpa using h5
  rw [if_pos h,if_neg (by omega),h]
 ·have h:pe≠0:=by simpa using h
  rw [if_neg h]
theorem c_New (w:World):Calls prog 17 #[] w (fun e w'=>∃r:Option Addr,e=.returned (.pointer r)∧∃p,r=some p∧Pure w w'∧∃F,zR w' p [] F∧∀b,F b→w.heap.size≤b):=by
 refine w_C1 w (fun r w'=>∃p,r=some p∧Pure w w'∧∃F,zR w' p [] F∧∀b,F b→w.heap.size≤b) ?_;unfold m_C1;intro p1 w1 h1 p2 w2 h2;have E1:Pure w w1:=Ext.new h1;have m2:CMap w2 p1.block []:=(CMap.of_new h1).ext (Ext.new h2:Pure w1 w2) id;have n12:p1.block≠p2.block:=New.ne h2 h1.block_new;refine ⟨p2,rfl,E1.trans (Ext.new h2),fun b=>b=p2.block∨Sl.nil.blk b∨b=p1.block,⟨Sl.nil,p1.block,⟨Box.of_new h2,by simpa using Rws.nil _ _ _,by simpa [qC] using m2,n12,?_,?_⟩,fun _=>Iff.rfl⟩,?_⟩
 ·rintro ⟨a,h,_⟩;cases h
 ·rintro ⟨a,h,_⟩;cases h
 ·rintro b (rfl | ⟨a,h,_⟩ | rfl)
  ·exact New.own E1 h2
  ·cases h
  ·exact New.own (Ext.refl w) h1
theorem jCK (L:Sp.Pool) (n:Nat):qC (L.take n)=(qC L).take n:=by
 apply List.ext_getElem?;intro i;simp only [qC,List.getElem?_map,List.getElem?_zipIdx,List.getElem?_take];split <;> simp
theorem jEE (L:Sp.Pool):(qC L).map (·.1)=(L.map (·.node)).map lF:=by
 apply List.ext_getElem?;intro i;simp only [qC,List.getElem?_map,List.getElem?_zipIdx];cases L[i]? <;> simp
theorem c_cut (p:Addr) (n:Nat) (w:World) {L:Sp.Pool} {F:NP} (hP:zR w p L F) (hok:Sp.Ok L) (hn:n≤L.length) :
  Calls prog 29 #[.pointer (some p),.int .i64 n] w (fun e w'=>e=.returned (.tuple #[])∧zR w' p (L.take n) F∧Ext F w w'):=by
 suffices key:∀K:WP,(∀w',zR w' p (L.take n) F∧Ext F w w'→K w')→m_R (some p) n w K from
  w_R _ _ w _ (key _ (fun _ h=>h))
 intro K hK
 unfold m_R
 obtain ⟨s,m,hS,hF⟩:=hP
 have hfew:=hok.few
 have hcap:s.len≤s.cap:=by
  have:=hS.rows.len;rcases hS.rows.own with ⟨rfl,_⟩ | ⟨g,cur,_,_,hc,_⟩
  ·simp [Sl.nil]
  ·omega
 obtain ⟨s1,hr1,hl1⟩:=hS.rows.lst.lo (P:=prog) gI hcap (k:=.i64) (n:=n) (by omega) (by simpa using hn)
 have hlen1:s1.len=L.length - n:=by rw [hl1.len];simp
 refine ⟨p,rfl,s,hS.box.cell0,s1,hr1,?_⟩
 refine ⟨fun x w'=>∃j:Nat,x=j∧j≤L.length - n∧Ext (·=m) w w'∧CMap w' m ((qC L).take n++(qC L).drop (n+j)),fun x _=>((L.length:Int) - x).toNat,⟨0,rfl,Nat.zero_le _,Ext.refl w,by simpa using hS.map⟩,?_⟩
 rintro _ wl ⟨j,rfl,hj,El,hml⟩
 have hboxl:=hS.box.ext El hS.n1.symm
 have hrowsl:=hS.rows.ext El (fun b hb e=>hS.n3 (e▸hb))
 unfold m_R_l1
 refine ⟨fun h=>?_,fun h=>?_⟩
 ·have hlt:n+j<L.length:=by have h:=of_decide_eq_true h;omega
  have hll:=hl1.ext El (fun b hb e=>hS.n3 (e▸hb))
  obtain ⟨a,hat,_,hrow⟩:=hll.at_ j (by simp;omega)
  generalize he:L[n+j]=e at *
  have hrow':Row wl a (jDO e):=by
   have:((L.map jDO).drop ((n:Int).toNat))[j]'(by simp;omega)=jDO e:=by simp [he]
   rw [this] at hrow;exact hrow
  obtain ⟨nd,sz,dp⟩:=e
  obtain ⟨k,f,t,u,x,a1,b1⟩:=nd
  refine ⟨a,hat,_,_,_,_,_,_,_,_,_,hrow',?_⟩
  intro p2 w1 h1
  have E1:Pure wl w1:=Ext.new h1
  have o1:=New.own (Ext.refl wl) h1
  refine bx 9 (Box.of_new h1) rfl rfl (fun w2 b2 E=>?_)
  have E2:Pure wl w2:=E1.own o1 E
  refine ⟨fun w'=>w'.cell? (p.add 1)=some (.map (some m))∧Row w' p2 (xG ⟨k,f,t,u,x,a1,b1⟩),⟨(hboxl.pure (E2.thenPure (Ext.drew w2))).cell (i:=1) rfl,?_⟩,?_⟩
  ·have : Row w2 p2 (xG ⟨k, f, t, u, x, a1, b1⟩) := fun i hi => by
    have:=b2.row i (by simp [xG] at hi ⊢;omega);rw [this];have h7:i<7:=by simpa [xG] using hi
    have:i=0∨i=1∨i=2∨i=3∨i=4∨i=5∨i=6:=by omega
    rcases this with rfl | rfl | rfl | rfl | rfl | rfl | rfl <;> rfl
   exact Ext.row (F:=None) (Ext.drew w2) this id
  intro w3 hw3
  have E3:Pure wl w3:=by rw [hw3];exact E2.thenPure (Ext.drew w2)
  clear hw3
  refine ⟨p,rfl,some m,fun w' h=>h.1,k,f,t,u,x,a1,b1,fun w' h=>h.2,?_⟩
  have hm3:=hml.ext E3 id
  have hpl:(qC L).length=L.length:=by simp [qC]
  have hget:(qC L)[n+j]?=some (lF ⟨k,f,t,u,x,a1,b1⟩,.int .i64 (n+j+1:Nat)):=by
   simp only [qC,List.getElem?_map,List.getElem?_zipIdx,List.getElem?_eq_getElem hlt,he];simp
  have hidx:((qC L).take n++(qC L).drop (n+j))[n]?=some (lF ⟨k,f,t,u,x,a1,b1⟩,.int .i64 (n+j+1:Nat)):=by
   have e0:n+j+(n - ((qC L).take n).length)=n+j:=by rw [List.length_take];omega
   rw [List.getElem?_append_right (by rw [List.length_take];omega),List.getElem?_drop,e0,hget]
  have hnd:((qC L).map (·.1)).Nodup:=by
   rw [jEE,List.nodup_iff_pairwise_ne,List.pairwise_map];exact hok.nodup.imp (fun h e=>h (lE.1 e))
  have hsub:List.Sublist ((qC L).take n++(qC L).drop (n+j)) (qC L):=by
   conv=>rhs;rw [← List.take_append_drop n (qC L)]
   refine (List.Sublist.refl _).append ?_;have e0:(qC L).drop (n+j)=((qC L).drop n).drop j:=by rw [List.drop_drop]
   rw [e0];exact List.drop_sublist _ _
  have hnd2:(((qC L).take n++(qC L).drop (n+j)).map (·.1)).Nodup:=hnd.sublist (hsub.map _)
  obtain ⟨w4,hr4,hm4,E4⟩:=hm3.delete (P:=prog) (Q:=84) (z:=0) underlying63 uC (fun q hq=>gN q (hsub.subset hq)) ⟨_,rfl⟩ hidx (fun i u hi=>by
   obtain ⟨hi1,hi2⟩:=List.getElem?_eq_some_iff.1 hi;obtain ⟨hn1,hn2⟩:=List.getElem?_eq_some_iff.1 hidx;refine Classical.byContradiction fun hne=>?_;have hne:=List.pairwise_iff_getElem.1 hnd2;rcases Nat.lt_or_gt_of_ne ‹_› with hlt | hlt
   ·exact hne i n (by simpa using hi1) (by simpa using hn1) hlt (by rw [List.getElem_map,List.getElem_map,hi2,hn2])
   ·exact hne n i (by simpa using hn1) (by simpa using hi1) hlt (by rw [List.getElem_map,List.getElem_map,hi2,hn2]))
  refine ⟨w4,hr4,⟨j+1,?_,by omega,(El.trans E3.pure).trans E4,?_⟩,?_⟩
  ·rw [i64 (by omega) (by omega)];omega
  ·rw [List.eraseIdx_append_of_length_le (by rw [List.length_take];omega)] at hm4
   have:n - ((qC L).take n).length=0:=by rw [List.length_take];omega
   rw [this] at hm4
   have hd:((qC L).drop (n+j)).eraseIdx 0=(qC L).drop (n+(j+1)):=by
    rw [List.drop_eq_getElem_cons (by omega)];simp;rfl
   rw [hd] at hm4;exact hm4
  ·show ((L.length:Int) - IntKind.i64.wrap ((j:Int)+1)).toNat<((L.length:Int) - (j:Int)).toNat
   rw [i64 (by omega) (by omega)];omega
 ·have hge:n+j=L.length:=by have h:=of_decide_eq_false h;omega
  have hpl:(qC L).length=L.length:=by simp [qC]
  rw [hge,← hpl,List.drop_length,List.append_nil] at hml
  obtain ⟨s2,hr2,hrows2,hb2⟩:=hrowsl.hi (P:=prog) gI (k:=.i64) (n:=n) (by omega) (by simpa using hn)
  refine ⟨p,rfl,s,hboxl.cell0,s2,hr2,p,rfl,hboxl.canW0 (by simp),?_⟩
  rintro w5 hw5
  have hbox5:Box w5 p [s2.v,.map (some m)] 66:=by rw [hw5];exact hboxl.set0
  have E5:Ext (·=p.block) wl w5:=by rw [hw5];exact Ext.setCell p _
  clear hw5
  refine hK _ ⟨⟨s2,m,⟨hbox5,?_,?_,hS.n1,fun h=>hS.n2 ((hb2 _).1 h),fun h=>hS.n3 ((hb2 _).1 h)⟩,fun b=>by rw [hF b,hb2 b]⟩,?_⟩
  ·have:=hrows2.ext E5 (fun b hb e=>hS.n2 (by rw [← e];exact (hb2 _).1 hb))
   simpa using this
  ·rw [jCK];exact hml.ext E5 hS.n1
  ·exact (El.mono (fun i _ h=>(hF i).2 (.inr (.inr h)))).trans' E5 (fun i _ h=>(hF i).2 (.inl h))
theorem tV {n:Sp.Node} {i:Nat} {L:Sp.Pool} {t:Sp.Tree} {ts:List Sp.Tree} (h:(Sp.grow L t).2.1≠0):Sp.zK n i L (t :: ts)=(0,(Sp.grow L t).2.1,(Sp.grow L t).2.2):=by rw [Sp.zK,if_pos h]
theorem oQ {n:Sp.Node} {i:Nat} {L:Sp.Pool} {t:Sp.Tree} {ts:List Sp.Tree} (h:(Sp.grow L t).2.1=0):Sp.zK n i L (t :: ts)=Sp.zK (if i=0 then { n with a:=(Sp.grow L t).1 } else { n with b:=(Sp.grow L t).1 }) (i+1) (Sp.grow L t).2.2 ts:=by rw [Sp.zK,if_neg (by simp [h])]
def Sp.Tree.two (t:Sp.Tree):Prop:=Sp.Tree.rec (motive_1:=fun _=>Prop) (motive_2:=fun _=>Prop) (fun _ _ _ _ _ ks h=>ks.length≤2∧h) True (fun _ _ h1 h2=>h1∧h2) t
def lX:List Sp.Tree→Prop
 | []=>True
 | t :: ts=>Sp.Tree.two t∧lX ts
theorem jFH {k f t u:Int} {x:ByteArray} {ks:List Sp.Tree}:Sp.Tree.two (.mk k f t u x ks)↔ks.length≤2∧lX ks:=by
 have:∀ks:List Sp.Tree,(Sp.Tree.rec_1 (motive_1:=fun _=>Prop) (motive_2:=fun _=>Prop) (fun _ _ _ _ _ ks h=>ks.length≤2∧h) True (fun _ _ h1 h2=>h1∧h2) ks:Prop)=lX ks:=by
  intro ks;induction ks with
  | nil=>rfl
  | cons t ts ih=>show (Sp.Tree.two t∧_)=(Sp.Tree.two t∧_);rw [ih]
 show (ks.length≤2∧_)↔_;rw [this]
theorem jAW {ks:List Sp.Tree} (h:lX ks) {i:Nat} (hi:i<ks.length):Sp.Tree.two ks[i]:=by
 induction ks generalizing i with
 | nil=>simp at hi
 | cons t ts ih =>
  cases i with
  | zero=>exact h.1
  | succ i=>exact ih h.2 (by simpa using hi)
theorem c_grow {S:NP} (p:Addr) (t:Sp.Tree):∀(s:Sl) (w:World) (L:Sp.Pool) (F:NP),Sp.Tree.two t→TreeAt S w s t→zR w p L F→Sp.Ok L→(∀b,F b→¬ S b)→(∀b,S b→b<w.heap.size) →
  Calls prog 28 #[.pointer (some p),.agg (vD t s).toArray] w
   (fun e w'=>∃r1:Int,∃r2:Int,e=.returned (.tuple #[.int .i64 r1,.int .i64 r2])∧((r1,r2)=((Sp.grow L t).1,(Sp.grow L t).2.1)∧∃F',zR w' p (Sp.grow L t).2.2 F'∧Ext F w w'∧∀b,F' b→F b∨w.heap.size≤b)):=by
 induction t using Sp.Tree.ind with
 | h k f t u x ks ih =>
 intro s w L F h2 hT hP hok hFS hSw
 suffices key:∀K:Int→Int→WP,(∀r1 r2 w',((r1,r2)=((Sp.grow L (.mk k f t u x ks)).1,(Sp.grow L (.mk k f t u x ks)).2.1)∧∃F',zR w' p (Sp.grow L (.mk k f t u x ks)).2.2 F'∧Ext F w w'∧∀b,F' b→F b∨w.heap.size≤b)→K r1 r2 w')→m_Q (some p) k f t u x s w K from
  w_Q _ _ _ _ _ _ _ w _ (key _ (fun _ _ _ h=>h))
 intro K hK
 obtain ⟨hk2,hall⟩:=jFH.1 h2
 unfold m_Q
 intro p2 w1 h1
 have b1:=Box.of_new h1
 have E1:Pure w w1:=Ext.new h1
 refine ⟨_,_,_,_,_,_,b1.row,?_⟩
 refine (jAO _ _ _ _ _ _ w1).mono ?_
 rintro _ w2 ⟨k',f',t',u',x',a',b',rfl,hn,E12⟩
 cases hn
 refine ⟨_,_,_,_,_,_,_,rfl,?_⟩
 intro p3 w3 h3
 have E3:Pure w w3:=(E1.trans E12).trans (Ext.new h3)
 have o3:=New.own (E1.trans E12) h3
 have n23:p2.block≠p3.block:=New.ne h3 (b1.pure E12).blk
 refine bx 7 (Box.of_new h3) rfl rfl (fun w4 b3 E34=>?_)
 have E4:Pure w w4:=E3.own o3 E34
 have b2:=((b1.pure E12).pure (Ext.new h3)).ext E34 n23
 intro p4 w5 h5
 have E5:Pure w w5:=E4.trans (Ext.new h5)
 have o4:=New.own E4 h5
 have n34:p3.block≠p4.block:=New.ne h5 b3.blk
 have c3:=b3.pure (Ext.new h5:Pure w4 w5)
 have c4:=Box.of_new h5
 have c2:=b2.pure (Ext.new h5:Pure w4 w5)
 refine ⟨s,c2.cell rfl,?_⟩
 have hsp:Sp.grow L (.mk k f t u x ks)=Sp.zK ⟨k,f,t,u,x,0,0⟩ 0 L ks:=by rw [Sp.grow]
 rw [hsp] at hK
 have hlen:s.len=ks.length:=by cases hT;assumption
 refine ⟨fun i w'=>∃j:Nat,i=j∧j≤ks.length∧∃(nd:Sp.Node) (L':Sp.Pool) (F':NP),Sp.zK ⟨k,f,t,u,x,0,0⟩ 0 L ks=Sp.zK nd j L' (ks.drop j)∧Sp.Ok L'∧zR w' p L' F'∧(∀b,F' b→F b∨w.heap.size≤b)∧¬ F' p3.block∧¬ F' p4.block∧Ext F w w'∧Box w' p3 (xG nd) 84∧Box w' p4 [.pointer (some (p3.add 5)),.pointer (some (p3.add 6))] 91,fun i _=>((ks.length:Int) - i).toNat,
  ⟨0,rfl,Nat.zero_le _,⟨k,f,t,u,x,0,0⟩,L,F,by simp,hok,hP.pure E5,fun b h=>.inl h,fun h=>by have:=hP.lt h;omega,fun h=>by have:=hP.lt h;omega,E5.pure,c3,c4⟩,?_⟩
 rintro _ wl ⟨j,rfl,hj,nd,L',F',heq,hok',hPl,hF',hn3,hn4,El,d3,d4⟩
 unfold m_Q_l1
 refine ⟨fun h=>?_,fun h=>?_⟩
 ·have hlt:j<ks.length:=by have h:=of_decide_eq_true h;omega
  have hTl:TreeAt S wl s (.mk k f t u x ks):=hT.ext El (fun b hs hf=>hFS b hf hs)
  have hkid:∀i (h:i<ks.length),∃a r,At s i 6 a∧Row wl a (vD ks[i] r)∧TreeAt S wl r ks[i]:=by
   cases hTl with
   | mk _ _ _ _ _ _ _ rs len fit row kid=>exact fun i h=>let ⟨a,h1,_,h3⟩:=row i h;⟨a,rs i,h1,h3,kid i h⟩
  obtain ⟨a,r,hat,hrow,hTk⟩:=hkid j hlt
  refine ⟨a,hat,_,_,_,_,_,r,hrow,?_⟩
  intro p5 w6 h6
  have o5:=New.own (Ext.refl wl) h6
  refine bx 6 (Box.of_new h6) rfl rfl (fun w7 b5 E67=>?_)
  have E7:Pure wl w7:=Ext.own (Ext.new h6) o5 E67
  refine ⟨_,_,_,_,_,r,b5.row,?_⟩
  have hsz:w.heap.size≤wl.heap.size:=El.size
  refine (ih j hlt r w7 L' F' (jAW hall hlt) (hTk.pure E7) (hPl.pure E7) hok' (fun b hb hs=>(hF' b hb).elim (fun h=>hFS b h hs) (fun h=>by have:=hSw b hs;omega)) (fun b hs=>by have:=hSw b hs;have:=E7.size;omega)).mono ?_
  rintro _ w8 ⟨r1,r2,rfl,hr,F8,hP8,E8,hF8⟩
  have e1:r1=(Sp.grow L' ks[j]).1:=congrArg Prod.fst hr
  have e2:r2=(Sp.grow L' ks[j]).2.1:=congrArg Prod.snd hr
  rw [List.drop_eq_getElem_cons hlt] at heq
  have hF8':∀b,F8 b→F b∨w.heap.size≤b:=fun b hb=>(hF8 b hb).elim (hF' b) (fun h=>by right;have:=E7.size;omega)
  have Ew8:Ext F w w8:=(El.thenPure E7).trans' E8 (fun i hi h=>(hF' i h).elim id (fun h=>by omega))
  refine ⟨_,_,rfl,fun h=>?_,fun h=>?_⟩
  ·have h:(Sp.grow L' ks[j]).2.1≠0:=by rw [← e2];simpa using h
   rw [tV h] at heq
   refine hK _ _ _ ?_
   rw [heq];exact ⟨by rw [e2],F8,hP8,Ew8,hF8'⟩
  ·have h:(Sp.grow L' ks[j]).2.1=0:=by rw [← e2];simpa using h
   rw [oQ h] at heq
   have q3:=(d3.pure E7).ext E8 hn3
   have q4:=(d4.pure E7).ext E8 hn4
   have hs7:wl.heap.size≤w7.heap.size:=E7.size
   have n38:¬ F8 p3.block:=fun h=>(hF8 _ h).elim hn3 (fun h=>by have:=(d3.pure E7).lt;omega)
   have n48:¬ F8 p4.block:=fun h=>(hF8 _ h).elim hn4 (fun h=>by have:=(d4.pure E7).lt;omega)
   have hok8:=(Sp.xJ ks[j] L' hok').1
   have fin : ∀ (w9 : World) (nd' : Sp.Node), nd' = (if j = 0 then { nd with a := (Sp.grow L' ks[j]).1 } else { nd with b := (Sp.grow L' ks[j]).1 }) → Box w9 p3 (xG nd') 84 → Ext (· = p3.block) w8 w9 →
     (∃j':Nat,IntKind.i64.wrap ((j:Int)+1)=j'∧j'≤ks.length∧∃(nd:Sp.Node) (L':Sp.Pool) (F':NP),Sp.zK ⟨k,f,t,u,x,0,0⟩ 0 L ks=Sp.zK nd j' L' (ks.drop j')∧Sp.Ok L'∧zR w9 p L' F'∧(∀b,F' b→F b∨w.heap.size≤b)∧¬ F' p3.block∧¬ F' p4.block∧Ext F w w9∧Box w9 p3 (xG nd) 84∧Box w9 p4 [.pointer (some (p3.add 5)),.pointer (some (p3.add 6))] 91)∧((ks.length:Int) - IntKind.i64.wrap ((j:Int)+1)).toNat<((ks.length:Int) - (j:Int)).toNat:=by
    intro w9 nd' hnd B9 E9
    rw [i64 (by omega) (by omega)]
    refine ⟨⟨j+1,by omega,hlt,nd',_,F8,by rw [heq,hnd],hok8,hP8.ext E9 (fun b hb e=>n38 (e▸hb)),hF8',n38,n48,Ew8.trans' E9 (fun i hi h=>by subst h;omega),B9,q4.ext E9 n34.symm⟩,by omega⟩
   have hj2:j=0∨j=1:=by omega
   rcases hj2 with rfl | rfl
   ·refine ⟨p4,⟨by omega,by simp,p4,rfl,rfl⟩,some (p3.add 5),q4.cell0,p3.add 5,rfl,q3.canW (by simp [xG]),?_⟩
    intro w9 hw9
    refine fin w9 _ rfl ?_ ?_
    ·rw [hw9,e1];exact q3.set 5 _
    ·rw [hw9];have:=Ext.setCell (w:=w8) (p3.add 5) (.int .i64 r1);rw [kA] at this;exact this
   ·refine ⟨p4.add 1,⟨by omega,by simp,p4,rfl,rfl⟩,some (p3.add 6),q4.cell rfl,p3.add 6,rfl,q3.canW (by simp [xG]),?_⟩
    intro w9 hw9
    refine fin w9 _ rfl ?_ ?_
    ·rw [hw9,e1];exact q3.set 6 _
    ·rw [hw9];have:=Ext.setCell (w:=w8) (p3.add 6) (.int .i64 r1);rw [kA] at this;exact this
 ·have hge:j=ks.length:=by have h:=of_decide_eq_false h;omega
  rw [hge,List.drop_length,Sp.zK] at heq
  obtain ⟨k0,f0,t0,u0,x0,a0,b0⟩:=nd
  refine ⟨_,_,_,_,_,_,_,d3.row,?_⟩
  refine (c_Make p k0 f0 t0 u0 x0 a0 b0 wl hPl hok').mono ?_
  rintro _ w9 ⟨r1,r2,rfl,hr,F9,hP9,E9,hF9⟩
  have hsz:w.heap.size≤wl.heap.size:=El.size
  refine ⟨_,_,rfl,hK _ _ _ ?_⟩
  rw [heq]
  exact ⟨hr,F9,hP9,El.trans' E9 (fun i hi h=>(hF' i h).elim id (fun h=>by omega)),fun b hb=>(hF9 b hb).elim (hF' b) (fun h=>by right;omega)⟩
theorem jCQ (t:Sp.Tree):∀i n:Int,(Sp.looks i n t).1=0→Sp.Tree.two t:=by
 induction t using Sp.Tree.ind with
 | h k f t u x ks ih =>
  have hA:∀(ks:List Sp.Tree),(∀i (hi:i<ks.length),∀j n:Int,(Sp.looks j n ks[i]).1=0→Sp.Tree.two ks[i])→∀i e n:Int,(Sp.zB i e n ks).1=0→e=0∧lX ks:=by
   intro ks;induction ks with
   | nil=>intro _ i e n h;exact ⟨by simpa [Sp.zB] using h,trivial⟩
   | cons t ts iht =>
    intro hh i e n h
    unfold Sp.zB at h
    split at h
    ·rename_i he
     have:=iht (fun i hi=>hh (i+1) (by simpa using hi)) _ _ _ h
     exact ⟨he,hh 0 (by simp) i n this.1,this.2⟩
    ·rename_i he;exact absurd h he
  intro i n h
  unfold Sp.looks at h
  split at h
  ·cases h
  ·split at h
   ·cases h
   ·have:=hA ks ih _ _ _ h
    refine jFH.2 ⟨?_,this.2⟩
    have ho:=this.1
    unfold Sp.zZ at ho
    simp only at ho
    have hk:=Sp.jCX k
    by_cases hp:Sp.jY ⟨k,f,t,u,x,0,0⟩=0
    ·rw [if_pos hp] at ho
     by_cases hl:(ks.length:Int)≠(Sp.jL k).kids
     ·rw [if_pos hl] at ho;simp at ho
     ·omega
    ·rw [if_neg hp,if_neg hp] at ho;exact absurd ho hp
theorem c_Of {S:NP} (p:Addr) (t:Sp.Tree) (s:Sl) (w:World) {L:Sp.Pool} {F:NP} (hT:TreeAt S w s t) (hP:zR w p L F) (hok:Sp.Ok L) (hFS:∀b,F b→¬ S b) (hSw:∀b,S b→b<w.heap.size) :
  Calls prog 18 #[.pointer (some p),.agg (vD t s).toArray] w
   (fun e w'=>∃r1:Int,∃r2:Int,e=.returned (.tuple #[.int .i64 r1,.int .i64 r2])∧((r1,r2)=((Sp.of L t).1,(Sp.of L t).2.1)∧∃F',zR w' p (Sp.of L t).2.2 F'∧Ext F w w'∧∀b,F' b→F b∨w.heap.size≤b)):=by
 obtain ⟨k,f,to,u,x,ks⟩:=t
 suffices key:∀K:Int→Int→WP,(∀r1 r2 w',((r1,r2)=((Sp.of L (.mk k f to u x ks)).1,(Sp.of L (.mk k f to u x ks)).2.1)∧∃F',zR w' p (Sp.of L (.mk k f to u x ks)).2.2 F'∧Ext F w w'∧∀b,F' b→F b∨w.heap.size≤b)→K r1 r2 w')→m_Y (some p) k f to u x s w K from
  w_Y _ _ _ _ _ _ _ w _ (key _ (fun _ _ _ h=>h))
 intro K hK
 unfold m_Y
 intro p2 w1 h1
 have b1:=Box.of_new h1
 have E1:Pure w w1:=Ext.new h1
 refine Br.f rfl ?_
 intro p3 w2 h2
 have E2:Pure w w2:=E1.trans (Ext.new h2)
 have o3:=New.own E1 h2
 have c3:=Box.of_new h2
 have n23:p2.block≠p3.block:=New.ne h2 b1.blk
 refine ⟨c3.canW0 (by simp),?_⟩
 intro w3 hw3
 have c3':Box w3 p3 [.int .i64 0] 3:=by rw [hw3];exact c3.set0
 have E23:Ext (·=p3.block) w2 w3:=by rw [hw3];exact Ext.setCell p3 _
 clear hw3
 have E3:Pure w w3:=E2.own o3 E23
 have b3:=(b1.pure (Ext.new h2:Pure w1 w2)).ext E23 n23
 refine ⟨_,_,_,_,_,s,b3.row,?_⟩
 generalize ht:Sp.Tree.mk k f to u x ks=t at *
 have htr:(Value.agg #[.int .i64 k,.int .i64 f,.int .i64 to,.int .u64 u,.string x,s.v])=.agg (vD t s).toArray:=by rw [← ht];rfl
 rw [htr]
 refine (jGX p3 (fun h=>by have:=hSw _ h;omega) _ t s 0 0 w3 (by omega) (by omega) (hT.pure E3) c3').mono ?_
 rintro _ w4 ⟨r1,rfl,rfl,_,E34⟩
 have E4:Pure w w4:=E3.own o3 E34
 have b4:=b3.ext E34 n23
 have xY:∀w',Pure w w'→∃F',zR w' p L F'∧Ext F w w'∧∀b,F' b→F b∨w.heap.size≤b:=fun w' E=>⟨F,hP.pure E,E.pure,fun _ h=>.inl h⟩
 refine ⟨_,rfl,fun h=>?_,fun h=>?_⟩
 ·have h:(Sp.looks 0 0 t).1≠0:=by simpa using h
  have:Sp.of L t=(0,(Sp.looks 0 0 t).1,L):=by rw [Sp.of,if_pos h]
  refine hK _ _ _ ?_
  rw [this];exact ⟨rfl,xY _ E4⟩
 ·have h:(Sp.looks 0 0 t).1=0:=by simpa using h
  have hP4:=hP.pure E4
  obtain ⟨s0,m0,hS0,hF0⟩:=id hP4
  have hl0:s0.len=L.length:=by rw [hS0.rows.len];simp
  refine ⟨p,rfl,s0,hS0.box.cell0,_,_,_,_,_,s,b4.row,?_⟩
  rw [htr]
  refine (c_grow p t s w4 L F (jCQ t _ _ h) (hT.pure E4) hP4 hok hFS (fun b hb=>by have:=hSw b hb;have:=E4.size;omega)).mono ?_
  rintro _ w5 ⟨r1,r2,rfl,hr,F5,hP5,E45,hF5⟩
  have e1:r1=(Sp.grow L t).1:=congrArg Prod.fst hr
  have e2:r2=(Sp.grow L t).2.1:=congrArg Prod.snd hr
  have hs4:w.heap.size≤w4.heap.size:=E4.size
  have E5:Ext F w w5:=E4.pure.trans E45
  have hF5':∀b,F5 b→F b∨w.heap.size≤b:=fun b hb=>(hF5 b hb).elim .inl (fun h=>.inr (by omega))
  refine ⟨_,_,rfl,fun h'=>?_,fun h'=>?_⟩
  ·have h':(Sp.grow L t).2.1≠0:=by rw [← e2];simpa using h'
   obtain ⟨hok5,M,hM⟩:=Sp.xJ t L hok
   rw [hl0]
   refine (c_cut p L.length w5 hP5 hok5 (by rw [hM];simp)).mono ?_
   rintro _ w6 ⟨rfl,hP6,E56⟩
   have:Sp.of L t=(0,(Sp.grow L t).2.1,L):=by rw [Sp.of,if_neg (by simp [h]),if_pos h']
   refine ⟨rfl,hK _ _ _ ?_⟩
   rw [this]
   rw [hM,List.take_left] at hP6
   exact ⟨by rw [e2],F5,hP6,E5.trans' E56 (fun i hi h=>(hF5' i h).elim id (fun h=>by omega)),hF5'⟩
  ·have h':(Sp.grow L t).2.1=0:=by rw [← e2];simpa using h'
   have:Sp.of L t=((Sp.grow L t).1,0,(Sp.grow L t).2.2):=by rw [Sp.of,if_neg (by simp [h]),if_neg (by simp [h'])]
   refine hK _ _ _ ?_
   rw [this]
   exact ⟨by rw [e1],F5,hP5,E5,hF5'⟩
end Go.Proofs
end
section
open Go Go.SE
namespace Go.Proofs
attribute [local irreducible] wpL wpX opE wpE Calls
end Go.Proofs
end
section
open Go Go.SE
namespace Go.Sp
end Go.Sp
namespace Go.Proofs
attribute [local irreducible] Calls
theorem TreeAt.leaf {S:NP} {w:World} {k f t u:Int} {x:ByteArray}:TreeAt S w Sl.nil (.mk k f t u x []) :=
 .mk k f t u x [] Sl.nil (fun _=>Sl.nil) rfl (by simp) (fun i h=>by simp at h) (fun i h=>by simp at h)
theorem TreeAt.one {S:NP} {w:World} {k f t u:Int} {x:ByteArray} {p:Addr} {A:Sp.Tree} {sa:Sl} {T:TypeId} (hB:Box w p (vD A sa) T) (hS:S p.block) (hA:TreeAt S w sa A):TreeAt S w ⟨some p,1,1⟩ (.mk k f t u x [A]):=by
 refine .mk k f t u x [A] _ (fun _=>sa) rfl (by simp) (fun i h=>?_) (fun i h=>?_)
 ·have:i=0:=by simpa using h
  subst this;exact ⟨p,⟨by omega,by simp,p,rfl,rfl⟩,hS,hB.row⟩
 ·have:i=0:=by simpa using h
  subst this;exact hA
theorem TreeAt.pair {S:NP} {w:World} {k f t u:Int} {x:ByteArray} {p:Addr} {A B:Sp.Tree} {sa sb:Sl} {T:TypeId} (hB:Box w p (vD A sa++vD B sb) T) (hS:S p.block) (hA:TreeAt S w sa A) (hB2:TreeAt S w sb B):TreeAt S w ⟨some p,2,2⟩ (.mk k f t u x [A,B]):=by
 refine .mk k f t u x [A,B] _ (fun i=>if i=0 then sa else sb) rfl (by simp) (fun i h=>?_) (fun i h=>?_)
 ·have:i=0∨i=1:=by simp at h;omega
  rcases this with rfl | rfl
  ·refine ⟨p,⟨by omega,by simp,p,rfl,rfl⟩,hS,fun i hi=>?_⟩;have:=hB.row i (by simp [vD] at hi ⊢;omega);have hi':i<6:=by simpa [vD] using hi
   rw [this];exact List.getElem?_append_left (by simp [vD];omega)
  ·refine ⟨p.add (1*6),⟨by omega,by simp,p,rfl,rfl⟩,by rw [kA];exact hS,fun i hi=>?_⟩;have hi':i<6:=by simpa [vD] using hi
   have:=hB.row (6+i) (by simp [vD];omega);rw [qD,this,List.getElem?_append_right (by simp [vD])];simp [vD]
 ·have:i=0∨i=1:=by simp at h;omega
  rcases this with rfl | rfl
  ·exact hA
  ·exact hB2
end Go.Proofs
end
section
open Go Go.SE
namespace Go.Sp
end Go.Sp
namespace Go.Proofs
attribute [local irreducible] Calls
end Go.Proofs
end
section
namespace Go.Sp
end Go.Sp
end
section
open Go Go.SE
namespace Go.Sp
open Go.Proofs
def hexT:ByteArray:=⟨#[48,49,50,51,52,53,54,55,56,57,97,98,99,100,101,102]⟩
def jFO (n:Nat):UInt8:=(hexT.data.toList[n]?).getD 0
end Go.Sp
end
section
open Go Go.SE
namespace Go.Sp
open Go.Proofs
def tO (c:UInt8):List UInt8:=if c.toNat=34∨c.toNat=92 then [92,c] else if c.toNat<32∨126<c.toNat then [92,120,jFO (c.toNat / 16),jFO (c.toNat % 16)] else [c]
def quoT (x:List UInt8):List UInt8:=34 :: (x.flatMap tO++[34])
def u64N (n:Int):Nat:=(IntKind.u64.wrap n).toNat
def jES (k f t u:Int) (x:ByteArray):List UInt8 :=
 if k=1 then 110 :: Lib.decDigits (u64N f) else if k=2 then 35 :: Lib.decDigits u.toNat else if k=6 then 107 :: Lib.decDigits (u64N f) else if k=3 then quoT x.data.toList
 else if k=4 then [] else if k=5 then [104] else if k=7 then 115 :: Lib.decDigits (u64N f) else if k=8 then 112 :: Lib.decDigits (u64N f)++62 :: Lib.decDigits (u64N t) else if k=9 then 102 :: Lib.decDigits (u64N f)++62 :: Lib.decDigits (u64N t) else []
mutual
def shw:Tree→List UInt8
 | .mk k f t u x ks=>jES k f t u x++jAD ks
def jAD:List Tree→List UInt8
 | []=>[]
 | t :: ts=>40 :: (shw t++shwR ts)
def shwR:List Tree→List UInt8
 | []=>[41]
 | t :: _=>32 :: (shw t++[41])
end
theorem jEB (c:UInt8):(tO c).length≤4:=by
 unfold tO;repeat' split
 all_goals simp
theorem gM:∀l:List UInt8,(l.flatMap tO).length≤4*l.length
 | []=>by simp
 | c :: l=>by
  have:=jEB c;have:=gM l;rw [List.flatMap_cons,List.length_append,List.length_cons];omega
end Go.Sp
end
section
open Go Go.SE
namespace Go.Proofs
open Tryd
theorem jDW {P:Program} {t:TypeId} (n:Nat) (w:World):(Go.binOp .shr t (.int .u8 (n:Int)) (.int .u64 4)).run P w=.ok (.int .u8 ((n / 16:Nat):Int)) w:=by
 simp [Go.binOp,go_sem,IntKind.bits]
theorem jCI {P:Program} {t:TypeId} (c:Nat) (h:c<256) (w:World):(Go.binOp .and t (.int .u8 (c:Int)) (.int .u8 15)).run P w=.ok (.int .u8 ((c % 16:Nat):Int)) w:=by
 have hr:IntKind.u8.wrap ((BitVec.ofInt IntKind.u8.bits (c:Int) &&& BitVec.ofInt IntKind.u8.bits 15).toNat:Int)=((c % 16:Nat):Int):=by
  have e1:(BitVec.ofInt IntKind.u8.bits (c:Int)).toNat=c:=by
   rw [BitVec.toNat_ofInt];simp [IntKind.bits];omega
  have e2:(BitVec.ofInt IntKind.u8.bits 15).toNat=2 ^ 4 - 1:=by decide
  rw [BitVec.toNat_and,e1,e2,Nat.and_two_pow_sub_one_eq_mod,jFZ];simp only [UInt8.toNat_ofNat'];omega
 show ((pure (Value.int .u8 _):Sem Value)).run P w=_;rw [hr];rfl
theorem jGS (x:ByteArray) (n:Nat) (h:n<x.data.toList.length) (w:World):(Instr.index 9 (.string x) (.int .i64 (n:Int))).run prog w=.ok (.int .u8 ((x.data.toList[n]).toNat:Int)) w:=by
 have hs:x.size=x.data.toList.length:=by rw [Array.length_toList];rfl
 have hn:n<x.size:=by omega
 rw [run_index_string w _ _ _ _ underlying9,dif_pos ⟨by omega,by omega⟩];rfl
end Go.Proofs
end
section
open Go
namespace Go.Sp
inductive Rr (α:Type) | ok (a:α) (i:Nat) | no (e:Int) (i:Nat)
def Rr.bind {α β:Type} (r:Rr α) (f:α→Nat→Rr β):Rr β:=match r with | .ok a i=>f a i | .no e i=>.no e i
def isDig (c:UInt8):Bool:=decide (48≤c.toNat) && decide (c.toNat≤57)
def zU (B:List UInt8) (c i:Nat):Rr Unit:=match B[i]? with | none=>.no 3 i | some d=>if d.toNat=c then .ok () (i+1) else .no 60 i
def jQ (B:List UInt8) (i:Nat):Nat:=i+((B.drop i).takeWhile (fun c=>c.toNat == 32)).length
def jX (B:List UInt8) (i:Nat):List UInt8:=(B.drop i).takeWhile isDig
def decV (l:List UInt8):Nat:=l.foldl (fun n c=>10*n+(c.toNat - 48)) 0
def qR (l:List UInt8):Bool:=decide (18446744073709551616≤decV l) || (decide (1<l.length) && (l.head? == some 48))
def vZ (B:List UInt8) (i:Nat):Rr Nat:=match B[i]? with
 | none=>.no 3 i
 | some d=>if isDig d=false then .no 60 i else if qR (jX B i)=true then .no 61 i else .ok (decV (jX B i)) (i+(jX B i).length)
def zP (B:List UInt8) (nt:Int) (i:Nat):Rr Nat:=(vZ B i).bind fun n j=>if 16≤n∨(n:Int)=nt then .no 50 i else .ok n j
def tU (c:Nat):Option Nat:=if 48≤c∧c≤57 then some (c - 48) else if 97≤c∧c≤102 then some (c - 87) else if 65≤c∧c≤70 then some (c - 55) else none
def kT (B:List UInt8) (i:Nat):Rr Nat:=match B[i]? with | none=>.no 3 i | some d=>match tU d.toNat with | none=>.no 60 i | some v=>.ok v (i+1)
def vR (B:List UInt8) (frm:Nat):Nat→Nat→List UInt8→Rr (List UInt8)
 | 0,i,_=>.no 3 i
 | f+1,i,acc=>match B[i]? with
  | none=>.no 3 i
  | some c=>if c.toNat<32∨126<c.toNat then .no 60 i
   else if c.toNat=34 then (if 64<acc.length then .no 1 frm else .ok acc (i+1))
   else if c.toNat=92 then (match B[i+1]? with
    | none=>.no 3 (i+1)
    | some d=>if d.toNat=120 then (kT B (i+2)).bind fun hi j=>(kT B j).bind fun lo j2=>vR B frm f j2 (acc++[UInt8.ofNat (16*hi+lo)])
     else if d.toNat=34∨d.toNat=92 then vR B frm f (i+2) (acc++[d]) else .no 60 (i+1))
   else vR B frm f (i+1) (acc++[c])
def qA (B:List UInt8) (frm:Nat):Rr (List UInt8):=vR B frm (B.length+1) (frm+1) []
def kC (c:Nat):Int:=if c=110 then 1 else if c=35 then 2 else if c=107 then 6 else if c=34 then 3 else if c=40 then 4 else if c=104 then 5 else if c=115 then 7 else if c=112 then 8 else if c=102 then 9 else 0
abbrev Rt:=Rr (Tree×Nat)
def kL (B:List UInt8) (T:Nat→Nat→Rt) (n i:Nat):Rt:=(zU B 40 i).bind fun _ i1=>(T i1 n).bind fun t i2=>(zU B 41 i2).bind fun _ i3=>.ok t i3
def tre (k f t u:Int) (x:List UInt8) (ks:List Tree):Tree:=.mk k f t u ⟨x.toArray⟩ ks
def kR (B:List UInt8) (T:Nat→Nat→Rt) (k:Int) (n j:Nat):Rt :=
 if k=1∨k=6 then (zP B (-1) (j+1)).bind fun v i=>.ok (tre k v 0 0 [] [],n) i
 else if k=2 then (vZ B (j+1)).bind fun v i=>.ok (tre k 0 0 v [] [],n) i
 else if k=3 then (qA B j).bind fun x i=>.ok (tre k 0 0 0 x [],n) i
 else if k=4 then (T (j+1) n).bind fun a i1=>(T i1 a.2).bind fun b i2=>(zU B 41 i2).bind fun _ i3=>.ok (tre k 0 0 0 [] [a.1,b.1],b.2) i3
 else if k=5 then (kL B T n (j+1)).bind fun a i=>.ok (tre k 0 0 0 [] [a.1],a.2) i
 else if k=7 then (zP B (-1) (j+1)).bind fun v i=>(kL B T n i).bind fun a i2=>.ok (tre k v 0 0 [] [a.1],a.2) i2
 else (zP B (-1) (j+1)).bind fun v i=>(zU B 62 i).bind fun _ i1=>(zP B v i1).bind fun u i2=>(kL B T n i2).bind fun a i3=>.ok (tre k v u 0 [] [a.1],a.2) i3
def jR (B:List UInt8):Nat→Nat→Nat→Rt
 | 0,i,_=>match B[jQ B i]? with | none=>.no 3 (jQ B i) | some c=>if kC c.toNat=0 then .no 60 (jQ B i) else .no 52 (jQ B i)
 | d+1,i,n=>match B[jQ B i]? with
  | none=>.no 3 (jQ B i)
  | some c=>if kC c.toNat=0 then .no 60 (jQ B i) else if n=4096 then .no 52 (jQ B i)
   else (kR B (jR B d) (kC c.toNat) (n+1) (jQ B i)).bind fun t k=>.ok t (jQ B k)
def tQ:Tree:=tre 0 0 0 0 [] []
def xV (B:List UInt8):Tree×Int×Int:=match jR B 64 0 0 with
 | .no e i=>(tQ,e,i)
 | .ok t i=>if i<B.length then (tQ,4,i) else (t.1,0,0)
def qM (B:List UInt8):Tree×Int×Int:=if 1048576<B.length then (tQ,1,0) else xV B
theorem jFI {α:Type} (p:α→Bool) (l:List α):(l.takeWhile p).length≤l.length:=(List.takeWhile_sublist p).length_le
theorem kH {B:List UInt8} {i:Nat} (h:i≤B.length):i≤jQ B i∧jQ B i≤B.length:=by
 unfold jQ;have:=jFI (fun c:UInt8=>c.toNat == 32) (B.drop i);rw [List.length_drop] at this;omega
theorem uH {B:List UInt8} {i:Nat} (h:i<B.length) (hc:B[i].toNat=32):jQ B i=jQ B (i+1):=by
 unfold jQ;rw [List.drop_eq_getElem_cons h,List.takeWhile_cons_of_pos (by simp [hc])];simp only [List.length_cons];omega
theorem uG {B:List UInt8} {i:Nat} (h:i<B.length) (hc:B[i].toNat≠32):jQ B i=i:=by
 unfold jQ;rw [List.drop_eq_getElem_cons h,List.takeWhile_cons_of_neg (by simp [hc])];rfl
theorem qB {B:List UInt8} {i:Nat} (h:B.length≤i):jQ B i=i:=by
 unfold jQ;rw [List.drop_eq_nil_of_le h];rfl
theorem vH {B:List UInt8} {i:Nat} (h:i<B.length) (hc:isDig B[i]=true):jX B i=B[i] :: jX B (i+1):=by
 unfold jX;rw [List.drop_eq_getElem_cons h,List.takeWhile_cons_of_pos hc]
theorem yC {B:List UInt8} {i:Nat} (h:i<B.length) (hc:isDig B[i]=false):jX B i=[]:=by
 unfold jX;rw [List.drop_eq_getElem_cons h,List.takeWhile_cons_of_neg (by simp [hc])]
theorem xA {B:List UInt8} {i:Nat} (h:B.length≤i):jX B i=[]:=by
 unfold jX;rw [List.drop_eq_nil_of_le h];rfl
theorem lZ {B:List UInt8} {i:Nat} (h:i≤B.length):i+(jX B i).length≤B.length:=by
 have:=jFI isDig (B.drop i);rw [List.length_drop] at this;unfold jX;omega
theorem jAX (B:List UInt8) (i:Nat):∀c∈jX B i,isDig c=true:=fun c hc=>by
 unfold jX at hc;have:=List.all_takeWhile (p:=isDig) (l:=B.drop i);rw [List.all_eq_true] at this;exact this c hc
theorem tJ (B:List UInt8) (i:Nat):(B.drop i).take (jX B i).length=jX B i:=by
 unfold jX;exact (List.prefix_iff_eq_take.1 (List.takeWhile_prefix isDig)).symm
def uX {α:Type} (B:List UInt8) (i:Nat) (r:Rr α):Prop:=∀a j,r=.ok a j→i≤j∧j≤B.length
theorem uX.bind {α β:Type} {B:List UInt8} {i:Nat} {r:Rr α} {f:α→Nat→Rr β} (h:uX B i r) (hf:∀a j,r=.ok a j→i≤j→j≤B.length→uX B j (f a j)):uX B i (r.bind f):=by
 intro b k hb;cases r with
 | no e j=>cases hb
 | ok a j =>
  obtain ⟨h1,h2⟩:=h a j rfl
  obtain ⟨h3,h4⟩:=hf a j rfl h1 h2 b k hb
  exact ⟨by omega,h4⟩
theorem uX.no {α:Type} (B:List UInt8) (i:Nat) (e:Int) (j:Nat):uX B i (.no e j:Rr α):=fun _ _ h=>by cases h
theorem uX.ok {α:Type} {B:List UInt8} {i j:Nat} {a:α} (h:i≤j) (h2:j≤B.length):uX B i (.ok a j:Rr α):=fun _ _ e=>by cases e;exact ⟨h,h2⟩
theorem uX.mono {α:Type} {B:List UInt8} {i i':Nat} {r:Rr α} (h:uX B i r) (hi:i'≤i):uX B i' r:=fun a j e=>⟨by have:=(h a j e).1;omega,(h a j e).2⟩
theorem lN {B:List UInt8} {i:Nat} {c:UInt8} (h:B[i]?=some c):i<B.length:=(List.getElem?_eq_some_iff.1 h).1
theorem vQ (B:List UInt8) (c i:Nat):uX B i (zU B c i):=by
 unfold zU;split
 ·exact .no _ _ _ _
 ·rename_i d hd;split
  ·exact .ok (by omega) (lN hd)
  ·exact .no _ _ _ _
theorem uR (B:List UInt8) (i:Nat):uX B i (vZ B i):=by
 unfold vZ;split
 ·exact .no _ _ _ _
 ·rename_i d hd;have:=lN hd;split
  ·exact .no _ _ _ _
  ·split
   ·exact .no _ _ _ _
   ·exact .ok (by omega) (lZ (by omega))
theorem qN (B:List UInt8) (nt:Int) (i:Nat):uX B i (zP B nt i):=(uR B i).bind fun n j _ h1 h2=>by
 split
 ·exact .no _ _ _ _
 ·exact .ok (Nat.le_refl _) h2
theorem qT (B:List UInt8) (i:Nat):uX B i (kT B i):=by
 unfold kT;split
 ·exact .no _ _ _ _
 ·rename_i d hd;split
  ·exact .no _ _ _ _
  ·exact .ok (by omega) (lN hd)
theorem qO (B:List UInt8) (frm:Nat):∀f i acc,uX B i (vR B frm f i acc)
 | 0,_,_=>.no _ _ _ _
 | f+1,i,acc=>by
  unfold vR;split
  ·exact .no _ _ _ _
  ·rename_i c hc;have hi:=lN hc;split
   ·exact .no _ _ _ _
   ·split
    ·split
     ·exact .no _ _ _ _
     ·exact .ok (by omega) hi
    ·split
     ·split
      ·exact .no _ _ _ _
      ·rename_i d hd;split
       ·exact (((qT B (i+2)).bind fun hi j _ _ _=>((qT B j).bind fun lo j2 _ _ _=>qO B frm f j2 _)).mono (by omega))
       ·split
        ·exact (qO B frm f (i+2) _).mono (by omega)
        ·exact .no _ _ _ _
     ·exact (qO B frm f (i+1) _).mono (by omega)
theorem yM {B:List UInt8} {T:Nat→Nat→Rt} (hT:∀i n,uX B i (T i n)) (n i:Nat):uX B i (kL B T n i) :=
 (vQ B 40 i).bind fun _ i1 _ _ _=>(hT i1 n).bind fun t i2 _ _ _=>(vQ B 41 i2).bind fun _ i3 _ _ h=>.ok (Nat.le_refl _) h
theorem jCB {B:List UInt8} {T:Nat→Nat→Rt} (hT:∀i n,uX B i (T i n)) (k:Int) (n j:Nat):uX B j (kR B T k n j):=by
 unfold kR;split
 ·exact ((qN B (-1) (j+1)).bind fun v i _ _ h=>.ok (Nat.le_refl _) h).mono (by omega)
 ·split
  ·exact ((uR B (j+1)).bind fun v i _ _ h=>.ok (Nat.le_refl _) h).mono (by omega)
  ·split
   ·exact ((qO B j (B.length+1) (j+1) []).bind fun v i _ _ h=>.ok (Nat.le_refl _) h).mono (by omega)
   ·split
    ·exact ((hT (j+1) n).bind fun a i1 _ _ _=>(hT i1 a.2).bind fun b i2 _ _ _=>(vQ B 41 i2).bind fun _ i3 _ _ h=>.ok (Nat.le_refl _) h).mono (by omega)
    ·split
     ·exact ((yM hT n (j+1)).bind fun a i _ _ h=>.ok (Nat.le_refl _) h).mono (by omega)
     ·split
      ·exact ((qN B (-1) (j+1)).bind fun v i _ _ _=>(yM hT n i).bind fun a i2 _ _ h=>.ok (Nat.le_refl _) h).mono (by omega)
      ·exact ((qN B (-1) (j+1)).bind fun v i _ _ _=>(vQ B 62 i).bind fun _ i1 _ _ _=>(qN B v i1).bind fun u i2 _ _ _=>(yM hT n i2).bind fun a i3 _ _ h=>.ok (Nat.le_refl _) h).mono (by omega)
theorem qL (B:List UInt8):∀d i n,i≤B.length→uX B i (jR B d i n)
 | 0,i,n,_=>by
  unfold jR;split
  ·exact .no _ _ _ _
  ·split <;> exact .no _ _ _ _
 | d+1,i,n,hi=>by
  have hb:=kH hi;unfold jR;split
  ·exact .no _ _ _ _
  ·split
   ·exact .no _ _ _ _
   ·split
    ·exact .no _ _ _ _
    ·have hT : ∀ i n, uX B i (jR B d i n) := fun i n => by
      by_cases h:i≤B.length
      ·exact qL B d i n h
      ·intro a j e;exfalso;have hb:jQ B i=i:=qB (by omega);cases d <;> (unfold jR at e;rw [hb,List.getElem?_eq_none (by omega)] at e;cases e)
     exact (((jCB hT _ (n+1) _).bind fun t k _ _ h=>.ok (kH h).1 (kH h).2).mono (by omega))
end Go.Sp
namespace Go.Sp
def RtN (r:Rt):Prop:=∀a j,r=.ok a j→a.2≤4096
theorem RtN.bind {α:Type} {r:Rr α} {f:α→Nat→Rt} (hf:∀a j,r=.ok a j→RtN (f a j)):RtN (r.bind f):=by
 intro a k h;cases r with
 | no e j=>cases h
 | ok b j=>exact hf b j rfl a k h
theorem RtN.no (e:Int) (j:Nat):RtN (.no e j):=fun _ _ h=>by cases h
theorem RtN.ok {t:Tree×Nat} {j:Nat} (h:t.2≤4096):RtN (.ok t j):=fun _ _ e=>by cases e;exact h
theorem xW {B:List UInt8} {T:Nat→Nat→Rt} (hT:∀i n,n≤4096→RtN (T i n)) {n i:Nat} (h:n≤4096):RtN (kL B T n i) :=
 .bind fun _ _ _=>.bind fun t _ e=>.bind fun _ _ _=>.ok (by have:=hT _ _ h _ _ e;exact this)
theorem jDT {B:List UInt8} {T:Nat→Nat→Rt} (hT:∀i n,n≤4096→RtN (T i n)) (k:Int) {n j:Nat} (h:n≤4096):RtN (kR B T k n j):=by
 unfold kR;split
 ·exact .bind fun _ _ _=>.ok h
 ·split
  ·exact .bind fun _ _ _=>.ok h
  ·split
   ·exact .bind fun _ _ _=>.ok h
   ·split
    ·exact .bind fun a _ e=>.bind fun b _ e2=>.bind fun _ _ _=>.ok (by have:=hT _ _ (hT _ _ h _ _ e) _ _ e2;exact this)
    ·split
     ·exact .bind fun a _ e=>.ok (by have:=xW hT h _ _ e;exact this)
     ·split
      ·exact .bind fun _ _ _=>.bind fun a _ e=>.ok (by have:=xW hT h _ _ e;exact this)
      ·exact .bind fun _ _ _=>.bind fun _ _ _=>.bind fun _ _ _=>.bind fun a _ e=>.ok (by have:=xW hT h _ _ e;exact this)
theorem xU (B:List UInt8):∀d i n,n≤4096→RtN (jR B d i n)
 | 0,i,n,_=>by
  unfold jR;split
  ·exact .no _ _
  ·split <;> exact .no _ _
 | d+1,i,n,h=>by
  unfold jR;split
  ·exact .no _ _
  ·split
   ·exact .no _ _
   ·split
    ·exact .no _ _
    ·exact .bind fun t _ e=>.ok (by have:=jDT (fun i n hn=>xU B d i n hn) _ (by omega) _ _ e;exact this)
end Go.Sp
end
section
namespace Go.SE
section
variable {P:Program} {ε:Operand→Value} {w w':World} {d:Option Tmp} {ty:TypeId} {pos:String} {aft:Array Edge} {g:Option (Nat×Bool)}
end
end Go.SE
end
section
open Go Go.SE
open Go.IntKind renaming i64 → q6
namespace Go.Proofs
open Tryd
set_option maxRecDepth 100000
set_option maxHeartbeats 4000000
attribute [local irreducible] wpL wpX opE wpE Calls
def m_J1 (b1:Sl) (c1 n1:Int) (w0:World) (K:Sl→WP):Prop :=∀p1 w1,New w0 (.cells #[(.int .u8 c1)] 5) p1 w1→∃s1:Sl,∃w2:World,(Builtin.append_ #[49,49] 49 #[b1.v,(Sl.mk (some p1) 1 1).v]).run prog w1=.ok s1.v w2∧Calls prog 49 #[s1.v,(vu n1),(vi 10)] w2 (fun e w3=>∃r1:Sl,e=.returned r1.v∧K r1 w3)
theorem w_J1 (b1 c1 n1 w0 K) (h:m_J1 b1 c1 n1 w0 K):
  Calls prog 30 #[b1.v,(.int .u8 c1),(vu n1)] w0 (fun e w'=>∃r2:Sl,e=.returned r2.v∧K r2 w'):=by
 refine cw (args:=[b1.v,(.int .u8 c1),(vu n1)]) func30 ntmps30 (eg (q0 Sl.nil.v (ln (eg (q0 b1.v (q0 (.int .u8 c1) (kU (O:=(.cells #[(.int .u8 c1)] 5)) (fun p=>(Sl.mk (some p) 1 1).v) (jF rfl) (jS (vs:=#[(0,(.int .u8 c1))]) (by kernel_rfl) (by kernel_rfl)) ?_)))))))
 intro p1 w1 hn1
 have h:=h p1 w1 hn1
 obtain ⟨s1,w2,hv1,h⟩:=h
 refine st (v:=s1.v) (jF rfl) (jO (args:=#[b1.v,(Sl.mk (some p1) 1 1).v]) (by kernel_rfl) (fun _=>rfl) hv1) (q0 (vu n1) (sc call49 (h.mono fun e w3 ⟨r1,k,h⟩=>⟨_,k,?_⟩)))
 refine q (ln (er (rs1 results30 ⟨r1,rfl,h⟩)))
def m_U_l1 (s1:ByteArray) (b2:Sl) (i1:Int) (w0:World) (Hl1:NP) (wl1:World) (Kc1:Sl→Int→NP→WP) (K:Sl→WP):Prop :=Br (decide (i1<(s1.size:Int))) (∃e1:Int,(Instr.index 9 (vs s1) (vi i1)).run prog wl1=.ok (.int .u8 e1) wl1∧Br ((e1 == 34) || (e1 == 92)) (∀H2 w4,Hst w0 Hl1 wl1 H2 w4→∀p2 w6,New w4 (.cells #[(.int .u8 92),(.int .u8 e1)] 5) p2 w6→∃s3:Sl,∃w7:World,(Builtin.append_ #[49,49] 49 #[b2.v,(Sl.mk (some p2) 2 2).v]).run prog w6=.ok s3.v w7∧Kept H2 w6 w7∧Kc1 s3 (q6.wrap (i1+1)) H2 w7) (Br ((decide (e1<32)) || (decide (e1>126))) (∀H5 w9,Hst w0 Hl1 wl1 H5 w9→∃C1:WP,C1 w9.drew∧∀w11,w11=w9.drew→∃z1:Int,(Go.binOp .shr 5 (.int .u8 e1) (vu 4)).run prog w11=.ok (.int .u8 z1) w11∧∃e2:Int,(Instr.index 9 (vs (⟨#[48,49,50,51,52,53,54,55,56,57,97,98,99,100,101,102]⟩:ByteArray)) (.int .u8 z1)).run prog w11=.ok (.int .u8 e2) w11∧∃z2:Int,(Go.binOp .and 5 (.int .u8 e1) (.int .u8 15)).run prog w11=.ok (.int .u8 z2) w11∧∃e3:Int,(Instr.index 9 (vs (⟨#[48,49,50,51,52,53,54,55,56,57,97,98,99,100,101,102]⟩:ByteArray)) (.int .u8 z2)).run prog w11=.ok (.int .u8 e3) w11∧∀p3 w12,New w11 (.cells #[(.int .u8 92),(.int .u8 120),(.int .u8 e2),(.int .u8 e3)] 5) p3 w12→C1 w12∧∃s4:Sl,∃w13:World,(Builtin.append_ #[49,49] 49 #[b2.v,(Sl.mk (some p3) 4 4).v]).run prog w12=.ok s4.v w13∧C1 w13∧Kept H5 w12 w13∧Kc1 s4 (q6.wrap (i1+1)) H5 w13) (∀H5 w9,Hst w0 Hl1 wl1 H5 w9→∀p4 w14,New w9 (.cells #[(.int .u8 e1)] 5) p4 w14→∃s5:Sl,∃w15:World,(Builtin.append_ #[49,49] 49 #[b2.v,(Sl.mk (some p4) 1 1).v]).run prog w14=.ok s5.v w15∧Kept H5 w14 w15∧Kc1 s5 (q6.wrap (i1+1)) H5 w15))) (∀p5 w16,New wl1 (.cells #[(.int .u8 34)] 5) p5 w16→∃s6:Sl,∃w17:World,(Builtin.append_ #[49,49] 49 #[b2.v,(Sl.mk (some p5) 1 1).v]).run prog w16=.ok s6.v w17∧Kept Hl1 w16 w17∧K s6 w17)
def m_U (b1:Sl) (s1:ByteArray) (w0:World) (K:Sl→WP):Prop :=∀p1 w1,New w0 (.cells #[(.int .u8 34)] 5) p1 w1→∃s2:Sl,∃w2:World,(Builtin.append_ #[49,49] 49 #[b1.v,(Sl.mk (some p1) 1 1).v]).run prog w1=.ok s2.v w2∧Kept None w1 w2∧∃(I1:Sl→Int→NP→WP) (mu1:Sl→Int→World→Nat),I1 s2 0 None w2∧∀(b2:Sl) (i1:Int) (Hl1:NP) (wl1:World),Hst w0 Hl1 wl1 Hl1 wl1→I1 b2 i1 Hl1 wl1→m_U_l1 s1 b2 i1 w0 Hl1 wl1 (fun y'0 y'1 H' w'=>I1 y'0 y'1 H' w'∧mu1 y'0 y'1 w'<mu1 b2 i1 wl1) K
theorem w_U (b1 s1 w0 K) (h:m_U b1 s1 w0 K):
  Calls prog 31 #[b1.v,(vs s1)] w0 (fun e w'=>∃r1:Sl,e=.returned r1.v∧K r1 w'):=by
 refine cw (args:=[b1.v,(vs s1)]) func31 ntmps31 ?_
 obtain ⟨hs,hb⟩:=st0 w0
 refine eg (q (ln (eg (q (nw5 (fun p=>(Sl.mk (some p) 1 1).v) hs hb h fun p1 w1 hs hb h=>?_)))))
 obtain ⟨s2,w2,hv10,hk,h⟩:=h
 refine st (v:=s2.v) (jF rfl) (jO (args:=#[b1.v,(Sl.mk (some p1) 1 1).v]) (by kernel_rfl) (fun _=>rfl) hv10) ?_
 obtain ⟨hs,hb⟩:=hk.hh hs hb
 refine q (ln (jC (eg (q (ln (jP ?_))))))
 obtain ⟨I1,mu1,h0,hr⟩:=h
 refine kN (σ:=Sl×Int×NP×World) (fun s ρ w=>w=s.2.2.2∧Has ρ [(0,s.1.v),(1,(vs s1)),(5,(vi s.2.1))]∧Hst w0 s.2.2.1 w s.2.2.1 w∧HB s.2.2.1 w []∧I1 s.1 s.2.1 s.2.2.1 s.2.2.2) (fun s=>mu1 s.1 s.2.1 s.2.2.2) (s2,0,None,w2) ⟨rfl,hm,hs,hb,h0⟩ ?_
 rintro ⟨b2,i1,Hl1,wl1⟩ ρ w ⟨hw,hH,hs,hb,hI⟩
 dsimp only at hw hH hs hb;subst w
 have h:=hr b2 i1 Hl1 wl1 hs hI
 refine jZ hH (jC (eg (qd (ln (cbr h ?_ ?_)))))<;>intro h
 refine jG (jM (jC (jP (eg (qb ?_)))))
 obtain ⟨e1,hv8,h⟩:=h
 refine q2 (.int .u8 e1) (zO (by kernel_rfl) (by kernel_rfl) hv8) (q (ln (jP (jC (zW (fun ρ wJ=>∃HJ:NP,Hst w0 Hl1 wl1 HJ wJ∧HB HJ wJ []∧Has ρ [(0,b2.v),(1,(vs s1)),(5,(vi i1)),(6,(.int .u8 e1)),(23,(vb ((e1 == 34) || (e1 == 92))))]) ?_ ?_)))))
 refine rg (qc (jN 3 (fun ρ wJ=>∃b5'0:Bool,∃HJ:NP,((e1 == 34)=b5'0)∧Hst w0 Hl1 wl1 HJ wJ∧HB HJ wJ []∧Has ρ [(0,b2.v),(1,(vs s1)),(5,(vi i1)),(6,(.int .u8 e1)),(29,(vb (b5'0 || (e1 == 92))))]) ?_ ?_))
 rintro ρ w5 ⟨b5'0,H3,he0,hs,hb,hH⟩
 subst he0
 refine jU hH (q (ln ⟨_,hs,hb,hm⟩))
 rcases bte (e1 == 34) with hg4 | hg4
 refine sj2 26 hg4 (q2 (vb true) (xT hg4) (jB ⟨true,_,hg4,hs,hb,hm⟩))
 refine qk 26 hg4 (qk 26 hg4 (q2 (vb (e1 == 92)) (xF hg4) (jB ⟨false,_,hg4,hs,hb,hm⟩)))
 rintro ρ w4 ⟨H2,hs,hb,hH⟩
 refine zL hH (jM (cbr h ?_ ?_))<;>intro h
 refine rg (qb ?_)
 have ⟨h,hs⟩:=hs.hr (h H2 w4)
 refine nw5 (fun p=>(Sl.mk (some p) 2 2).v) hs hb h fun p2 w6 hs hb h=>?_
 obtain ⟨s3,w7,hv1,hk,h⟩:=h
 refine st (v:=s3.v) (jF rfl) (jO (args:=#[b2.v,(Sl.mk (some p2) 2 2).v]) (by kernel_rfl) (fun _=>rfl) hv1) ?_
 obtain ⟨hs,hb⟩:=hk.hh hs hb
 refine q (jB (kY (kY (jM (rg (qc (ln ⟨(s3,(q6.wrap (i1+1)),H2,w7),⟨rfl,hm,hs,hb,h.1⟩,h.2⟩)))))))
 refine jC (zW (fun ρ wJ=>∃HJ:NP,Hst w0 Hl1 wl1 HJ wJ∧HB HJ wJ []∧Has ρ [(0,b2.v),(1,(vs s1)),(5,(vi i1)),(6,(.int .u8 e1)),(34,(vb ((decide (e1<32)) || (decide (e1>126)))))]) ?_ ?_)
 refine rg (qc (jN 3 (fun ρ wJ=>∃b8'0:Bool,∃HJ:NP,((decide (e1<32))=b8'0)∧Hst w0 Hl1 wl1 HJ wJ∧HB HJ wJ []∧Has ρ [(0,b2.v),(1,(vs s1)),(5,(vi i1)),(6,(.int .u8 e1)),(40,(vb (b8'0 || (decide (e1>126)))))]) ?_ ?_))
 rintro ρ w10 ⟨b8'0,H6,he0,hs,hb,hH⟩
 subst he0
 refine jU hH (q (ln ⟨_,hs,hb,hm⟩))
 rcases bte (decide (e1<32)) with hg8 | hg8
 refine sj2 37 hg8 (q2 (vb true) (xT hg8) (jB ⟨true,_,hg8,hs,hb,hm⟩))
 refine qk 37 hg8 (qk 37 hg8 (q2 (vb (decide (e1>126))) (xF hg8) (jB ⟨false,_,hg8,hs,hb,hm⟩)))
 rintro ρ w9 ⟨H5,hs,hb,hH⟩
 refine zL hH (jM (cbr h ?_ ?_))<;>intro h
 have ⟨h,hs⟩:=hs.hr (h H5 w9)
 obtain ⟨C1,hC,h⟩:=h
 refine dr2 C1 [7,8] [] hC h hs hb fun w11 hs hb h=>?_
 have hs:=hs.here
 refine qx 0 b2.v Kp0 (qx 1 (.int .u8 e1) Kp1 (qg 2 ?_))
 obtain ⟨z1,hv6,h⟩:=h
 refine sye (v:=(.int .u8 z1)) Kp2 (jBT (by kernel_rfl) (by kernel_rfl) (by kernel_rfl) hv6) (qg 3 ?_)
 obtain ⟨e2,hv5,h⟩:=h
 refine sye (v:=(.int .u8 e2)) Kp3 (zO (by kernel_rfl) (by kernel_rfl) hv5) (qx 4 (.int .u8 e1) Kp4 (qg 5 ?_))
 obtain ⟨z2,hv4,h⟩:=h
 refine sye (v:=(.int .u8 z2)) Kp5 (jBT (by kernel_rfl) (by kernel_rfl) (by kernel_rfl) hv4) (qg 6 ?_)
 obtain ⟨e3,hv3,h⟩:=h
 refine sye (v:=(.int .u8 e3)) Kp6 (zO (by kernel_rfl) (by kernel_rfl) hv3) (lg 7 (vI (O:=(.cells #[(.int .u8 92),(.int .u8 120),(.int .u8 e2),(.int .u8 e3)] 5)) (fun p=>(Sl.mk (some p) 4 4).v) Kp7 (jF rfl) (by kernel_rfl) (jS (vs:=#[(0,(.int .u8 92)),(1,(.int .u8 120)),(2,(.int .u8 e2)),(3,(.int .u8 e3))]) (by kernel_rfl) (by kernel_rfl)) ?_))
 intro p3 w12 hn2
 have h:=h p3 w12 hn2
 refine ⟨.inr h.1,?_⟩
 have h:=h.2
 obtain ⟨hs,hb⟩:=hs.nw hb hn2
 refine lg 8 ?_
 obtain ⟨s4,w13,hv2,hC,hk,h⟩:=h
 refine sl (v:=s4.v) Kp8 (jF rfl) (by kernel_rfl) (jO (args:=#[b2.v,(Sl.mk (some p3) 4 4).v]) (by kernel_rfl) (fun _=>rfl) hv2) (.inr hC) ?_
 obtain ⟨hs,hb⟩:=hk.hh hs hb
 refine qx 9 s4.v Kp9 (wn (kY (kY (jM (rg (qc (ln ⟨(s4,(q6.wrap (i1+1)),H5,w13),⟨rfl,hm,hs,hb,h.1⟩,h.2⟩)))))))
 refine rg (qb ?_)
 have ⟨h,hs⟩:=hs.hr (h H5 w9)
 refine nw5 (fun p=>(Sl.mk (some p) 1 1).v) hs hb h fun p4 w14 hs hb h=>?_
 obtain ⟨s5,w15,hv7,hk,h⟩:=h
 refine st (v:=s5.v) (jF rfl) (jO (args:=#[b2.v,(Sl.mk (some p4) 1 1).v]) (by kernel_rfl) (fun _=>rfl) hv7) ?_
 obtain ⟨hs,hb⟩:=hk.hh hs hb
 refine q (jB (kY (kY (jM (rg (qc (ln ⟨(s5,(q6.wrap (i1+1)),H5,w15),⟨rfl,hm,hs,hb,h.1⟩,h.2⟩)))))))
 refine zQ (qI (qI (qH (jM (eg (q0 b2.v (kU (O:=(.cells #[(.int .u8 34)] 5)) (fun p=>(Sl.mk (some p) 1 1).v) (jF rfl) (jS (vs:=#[(0,(.int .u8 34))]) (by kernel_rfl) (by kernel_rfl)) ?_)))))))
 intro p5 w16 hn4
 have h:=h p5 w16 hn4
 obtain ⟨hs,hb⟩:=hs.nw hb hn4
 obtain ⟨s6,w17,hv9,hk,h⟩:=h
 refine st (v:=s6.v) (jF rfl) (jO (args:=#[b2.v,(Sl.mk (some p5) 1 1).v]) (by kernel_rfl) (fun _=>rfl) hv9) ?_
 obtain ⟨hs,hb⟩:=hk.hh hs hb
 refine q (ln (er (rs1 results31 ⟨s6,rfl,h⟩)))
def m_K_j1 (aC b2:Sl) (H:NP) (w:World) (K:Sl→WP):Prop :=∃C1:WP,C1 w.drew∧∀w2,w2=w.drew→∃a1:Addr,At aC 0 6 a1∧∃aS aT aU aV aW aX,(∀w',C1 w'→Row w' a1 (Aa aS aT aU aV aW aX))∧(∀p2 w3,New w2 (.cells #[(.int .u8 40)] 5) p2 w3→C1 w3∧(∃s1:Sl,∃w4:World,(Builtin.append_ #[49,49] 49 #[b2.v,(Sl.mk (some p2) 1 1).v]).run prog w3=.ok s1.v w4∧C1 w4∧Kept H w3 w4∧(Calls prog 19 #[s1.v,(.agg #[(vi aS),(vi aT),(vi aU),(vu aV),(vs aW),aX.v])] w4 (fun e w5=>∃r1:Sl,e=.returned r1.v∧C1 w5∧Kept H w4 w5∧∀p3 w6,New w5 (.cells #[(.int .u8 41)] 5) p3 w6→C1 w6∧∃s2:Sl,∃w7:World,(Builtin.append_ #[49,49] 49 #[r1.v,(Sl.mk (some p3) 1 1).v]).run prog w6=.ok s2.v w7∧C1 w7∧Kept H w6 w7∧K s2 w7))∧(∀p4 w8,New w4 (.cells #[(.int .u8 41)] 5) p4 w8→C1 w8∧Calls prog 19 #[s1.v,(.agg #[(vi aS),(vi aT),(vi aU),(vu aV),(vs aW),aX.v])] w8 (fun e w9=>∃r2:Sl,e=.returned r2.v∧C1 w9∧Kept H w8 w9∧∃s3:Sl,∃w10:World,(Builtin.append_ #[49,49] 49 #[r2.v,(Sl.mk (some p4) 1 1).v]).run prog w9=.ok s3.v w10∧C1 w10∧Kept H w9 w10∧K s3 w10)))∧(∀p5 w11,New w3 (.cells #[(.int .u8 41)] 5) p5 w11→C1 w11∧∃s4:Sl,∃w12:World,(Builtin.append_ #[49,49] 49 #[b2.v,(Sl.mk (some p2) 1 1).v]).run prog w11=.ok s4.v w12∧C1 w12∧Kept H w11 w12∧Calls prog 19 #[s4.v,(.agg #[(vi aS),(vi aT),(vi aU),(vu aV),(vs aW),aX.v])] w12 (fun e w13=>∃r3:Sl,e=.returned r3.v∧C1 w13∧Kept H w12 w13∧∃s5:Sl,∃w14:World,(Builtin.append_ #[49,49] 49 #[r3.v,(Sl.mk (some p5) 1 1).v]).run prog w13=.ok s5.v w14∧C1 w14∧Kept H w13 w14∧K s5 w14)))∧(∀p6 w15,New w2 (.cells #[(.int .u8 41)] 5) p6 w15→C1 w15∧∀p7 w16,New w15 (.cells #[(.int .u8 40)] 5) p7 w16→C1 w16∧∃s6:Sl,∃w17:World,(Builtin.append_ #[49,49] 49 #[b2.v,(Sl.mk (some p7) 1 1).v]).run prog w16=.ok s6.v w17∧C1 w17∧Kept H w16 w17∧Calls prog 19 #[s6.v,(.agg #[(vi aS),(vi aT),(vi aU),(vu aV),(vs aW),aX.v])] w17 (fun e w18=>∃r4:Sl,e=.returned r4.v∧C1 w18∧Kept H w17 w18∧∃s7:Sl,∃w19:World,(Builtin.append_ #[49,49] 49 #[r4.v,(Sl.mk (some p6) 1 1).v]).run prog w18=.ok s7.v w19∧C1 w19∧Kept H w18 w19∧K s7 w19))
def m_K (b1:Sl) (aA aB:Int) (aD aE:Int) (aF:ByteArray) (aC:Sl) (w0:World) (K:Sl→WP):Prop :=Br (aA == 1) (∀H1 w1,Hst w0 None w0 H1 w1→Calls prog 30 #[b1.v,(.int .u8 110),(vu (IntKind.u64.wrap aB))] w1 (fun e w20=>∃r5:Sl,e=.returned r5.v∧Kept H1 w1 w20∧K r5 w20)) (Br (aA == 2) (∀H1 w1,Hst w0 None w0 H1 w1→Calls prog 30 #[b1.v,(.int .u8 35),(vu aE)] w1 (fun e w21=>∃r6:Sl,e=.returned r6.v∧Kept H1 w1 w21∧K r6 w21)) (Br (aA == 6) (∀H1 w1,Hst w0 None w0 H1 w1→Calls prog 30 #[b1.v,(.int .u8 107),(vu (IntKind.u64.wrap aB))] w1 (fun e w22=>∃r7:Sl,e=.returned r7.v∧Kept H1 w1 w22∧K r7 w22)) (Br (aA == 3) (∀H1 w1,Hst w0 None w0 H1 w1→Calls prog 31 #[b1.v,(vs aF)] w1 (fun e w23=>∃r8:Sl,e=.returned r8.v∧Kept H1 w1 w23∧K r8 w23)) (Br (aA == 4) (∀H1 w1,Hst w0 None w0 H1 w1→∃C2:WP,C2 w1.drew∧∀w24,w24=w1.drew→∃a2:Addr,At aC 0 6 a2∧∃bE bF bG bH bI bJ,(∀w',C2 w'→Row w' a2 (Aa bE bF bG bH bI bJ))∧∀p8 w25,New w24 (.cells #[(.int .u8 40)] 5) p8 w25→C2 w25∧∃s8:Sl,∃w26:World,(Builtin.append_ #[49,49] 49 #[b1.v,(Sl.mk (some p8) 1 1).v]).run prog w25=.ok s8.v w26∧C2 w26∧Kept H1 w25 w26∧Calls prog 19 #[s8.v,(.agg #[(vi bE),(vi bF),(vi bG),(vu bH),(vs bI),bJ.v])] w26 (fun e w27=>∃r9:Sl,e=.returned r9.v∧C2 w27∧Kept H1 w26 w27∧∃C3:WP,C3 w27.drew∧∀w28,w28=w27.drew→∃a3:Addr,At aC 1 6 a3∧∃aY aZ bA bB bC bD,(∀w',C3 w'→Row w' a3 (Aa aY aZ bA bB bC bD))∧(∀p9 w29,New w28 (.cells #[(.int .u8 32)] 5) p9 w29→C3 w29∧(∃s9:Sl,∃w30:World,(Builtin.append_ #[49,49] 49 #[r9.v,(Sl.mk (some p9) 1 1).v]).run prog w29=.ok s9.v w30∧C3 w30∧Kept H1 w29 w30∧(Calls prog 19 #[s9.v,(.agg #[(vi aY),(vi aZ),(vi bA),(vu bB),(vs bC),bD.v])] w30 (fun e w31=>∃r10:Sl,e=.returned r10.v∧C3 w31∧Kept H1 w30 w31∧∀p10 w32,New w31 (.cells #[(.int .u8 41)] 5) p10 w32→C3 w32∧∃s10:Sl,∃w33:World,(Builtin.append_ #[49,49] 49 #[r10.v,(Sl.mk (some p10) 1 1).v]).run prog w32=.ok s10.v w33∧C3 w33∧Kept H1 w32 w33∧K s10 w33))∧(∀p11 w34,New w30 (.cells #[(.int .u8 41)] 5) p11 w34→C3 w34∧Calls prog 19 #[s9.v,(.agg #[(vi aY),(vi aZ),(vi bA),(vu bB),(vs bC),bD.v])] w34 (fun e w35=>∃r11:Sl,e=.returned r11.v∧C3 w35∧Kept H1 w34 w35∧∃s11:Sl,∃w36:World,(Builtin.append_ #[49,49] 49 #[r11.v,(Sl.mk (some p11) 1 1).v]).run prog w35=.ok s11.v w36∧C3 w36∧Kept H1 w35 w36∧K s11 w36)))∧(∀p12 w37,New w29 (.cells #[(.int .u8 41)] 5) p12 w37→C3 w37∧∃s12:Sl,∃w38:World,(Builtin.append_ #[49,49] 49 #[r9.v,(Sl.mk (some p9) 1 1).v]).run prog w37=.ok s12.v w38∧C3 w38∧Kept H1 w37 w38∧Calls prog 19 #[s12.v,(.agg #[(vi aY),(vi aZ),(vi bA),(vu bB),(vs bC),bD.v])] w38 (fun e w39=>∃r12:Sl,e=.returned r12.v∧C3 w39∧Kept H1 w38 w39∧∃s13:Sl,∃w40:World,(Builtin.append_ #[49,49] 49 #[r12.v,(Sl.mk (some p12) 1 1).v]).run prog w39=.ok s13.v w40∧C3 w40∧Kept H1 w39 w40∧K s13 w40)))∧(∀p13 w41,New w28 (.cells #[(.int .u8 41)] 5) p13 w41→C3 w41∧∀p14 w42,New w41 (.cells #[(.int .u8 32)] 5) p14 w42→C3 w42∧∃s14:Sl,∃w43:World,(Builtin.append_ #[49,49] 49 #[r9.v,(Sl.mk (some p14) 1 1).v]).run prog w42=.ok s14.v w43∧C3 w43∧Kept H1 w42 w43∧Calls prog 19 #[s14.v,(.agg #[(vi aY),(vi aZ),(vi bA),(vu bB),(vs bC),bD.v])] w43 (fun e w44=>∃r13:Sl,e=.returned r13.v∧C3 w44∧Kept H1 w43 w44∧∃s15:Sl,∃w45:World,(Builtin.append_ #[49,49] 49 #[r13.v,(Sl.mk (some p13) 1 1).v]).run prog w44=.ok s15.v w45∧C3 w45∧Kept H1 w44 w45∧K s15 w45)))) (Br (aA == 5) (∀H1 w1,Hst w0 None w0 H1 w1→∀p15 w46,New w1 (.cells #[(.int .u8 104)] 5) p15 w46→∃s16:Sl,∃w47:World,(Builtin.append_ #[49,49] 49 #[b1.v,(Sl.mk (some p15) 1 1).v]).run prog w46=.ok s16.v w47∧Kept H1 w46 w47∧m_K_j1 aC s16 H1 w47 K) (Br (aA == 7) (∀H1 w1,Hst w0 None w0 H1 w1→Calls prog 30 #[b1.v,(.int .u8 115),(vu (IntKind.u64.wrap aB))] w1 (fun e w48=>∃r14:Sl,e=.returned r14.v∧Kept H1 w1 w48∧m_K_j1 aC r14 H1 w48 K)) (Br (aA == 8) (∀H1 w1,Hst w0 None w0 H1 w1→∃C4:WP,C4 w1.drew∧∀w49,w49=w1.drew→Calls prog 30 #[b1.v,(.int .u8 112),(vu (IntKind.u64.wrap aB))] w49 (fun e w50=>∃r15:Sl,e=.returned r15.v∧C4 w50∧Kept H1 w49 w50∧Calls prog 30 #[r15.v,(.int .u8 62),(vu (IntKind.u64.wrap aD))] w50 (fun e w51=>∃r16:Sl,e=.returned r16.v∧C4 w51∧Kept H1 w50 w51∧m_K_j1 aC r16 H1 w51 K))) (Br (aA == 9) (∀H1 w1,Hst w0 None w0 H1 w1→∃C5:WP,C5 w1.drew∧∀w52,w52=w1.drew→Calls prog 30 #[b1.v,(.int .u8 102),(vu (IntKind.u64.wrap aB))] w52 (fun e w53=>∃r17:Sl,e=.returned r17.v∧C5 w53∧Kept H1 w52 w53∧Calls prog 30 #[r17.v,(.int .u8 62),(vu (IntKind.u64.wrap aD))] w53 (fun e w54=>∃r18:Sl,e=.returned r18.v∧C5 w54∧Kept H1 w53 w54∧m_K_j1 aC r18 H1 w54 K))) (∀H1 w1,Hst w0 None w0 H1 w1→m_K_j1 aC b1 H1 w1 K)))))))))
theorem w_K (b1 aA aB aD aE aF aC w0 K) (h:m_K b1 aA aB aD aE aF aC w0 K):
  Calls prog 19 #[b1.v,(.agg #[(vi aA),(vi aB),(vi aD),(vu aE),(vs aF),aC.v])] w0 (fun e w'=>∃r19:Sl,e=.returned r19.v∧K r19 w'):=by
 refine cw (args:=[b1.v,(Ab aA aB aD aE aF aC)]) func19 ntmps19 ?_
 obtain ⟨hs,hb⟩:=st0 w0
 refine eg (nw3 (Aa aA aB aD aE aF aC) 25 hs hb xb fun p1 w1 H1 hs hb=>q (ln (jC (eg (q (q3 (xl (isAgg3 _) (hb.d0 0 gZ)) (ln (zJ (fun ρ w=>∃b2:Sl,∃H:NP,Has ρ [(0,b2.v),(3,(vp (some p1)))]∧Hst w0 H w H w∧HB H w [(p1,(Aa aA aB aD aE aF aC),25)]∧m_K_j1 aC b2 H w K) ?_ ?_))))))))
 rintro ρ w ⟨b2,H,hH,hs,hb,h⟩
 refine jZ hH (jC ?_)
 obtain ⟨C1,hC,h⟩:=h
 refine dr2 (fun x=>C1 x∧HB H x _) [1,2,7,8,9] [] ⟨hC,hb.drew⟩ h hs hb fun w2 hs hb h=>?_
 have hs:=hs.here
 refine qx 0 b2.v Kp0 (qx 3 (vp (some (p1.add 5))) Kp3 (qz 4 aC.v Kp4 (fun w' hw'=>(xl (isAgg23 _) (hw'.2.cell 0 5 gZ (by kernel_rfl)))) (qg 5 ?_)))
 obtain ⟨a1,hv9,h⟩:=h
 refine sy Kp5 (fun _ _=>xi (runUnderlying23 _) (sizeOf25 _) hv9) (qg 6 ?_)
 obtain ⟨aS,aT,aU,aV,aW,aX,hv8,h⟩:=h
 refine sy (v:=(Ab aS aT aU aV aW aX)) Kp6 (fun w' hw'=>(xa a1 (Aa aS aT aU aV aW aX) (isAgg25 _) (sizeOf25 _) (hv8 w' hw'.1))) (lgo2 (k:=1) (k':=8) (by kernel_rfl) ?_ ?_)
 have h:=h.1
 refine vI (O:=(.cells #[(.int .u8 40)] 5)) (fun p=>(Sl.mk (some p) 1 1).v) Kp1 (jF rfl) (by kernel_rfl) (jS (vs:=#[(0,(.int .u8 40))]) (by kernel_rfl) (by kernel_rfl)) ?_
 intro p2 w3 hn5
 have h:=h p2 w3 hn5
 refine ⟨.inr ⟨h.1,hb.kept (Ext.new (F:=None) hn5).keptP⟩,?_⟩
 have h:=h.2
 obtain ⟨hs,hb⟩:=hs.nw hb hn5
 refine lgo2 (k:=2) (k':=8) (by kernel_rfl) ?_ ?_
 have h:=h.1
 obtain ⟨s1,w4,hv3,hC,hk,h⟩:=h
 refine sl (v:=s1.v) Kp2 (jF rfl) (by kernel_rfl) (jO (args:=#[b2.v,(Sl.mk (some p2) 1 1).v]) (by kernel_rfl) (fun _=>rfl) hv3) (.inr ⟨hC,hb.kept hk⟩) ?_
 obtain ⟨hs,hb⟩:=hk.hh hs hb
 refine lgo2 (k:=7) (k':=8) (by kernel_rfl) ?_ ?_
 have h:=h.1
 refine slc Kp7 call19 (h.mono ?_)
 rintro e w5 ⟨r1,rfl,hC,hk,h⟩
 refine ⟨_,rfl,.inr ⟨hC,hb.kept hk⟩,?_⟩
 obtain ⟨hs,hb⟩:=hk.hh hs hb
 refine lg 8 (vI (O:=(.cells #[(.int .u8 41)] 5)) (fun p=>(Sl.mk (some p) 1 1).v) Kp8 (jF rfl) (by kernel_rfl) (jS (vs:=#[(0,(.int .u8 41))]) (by kernel_rfl) (by kernel_rfl)) ?_)
 intro p3 w6 hn2
 have h:=h p3 w6 hn2
 refine ⟨.inr ⟨h.1,hb.kept (Ext.new (F:=None) hn2).keptP⟩,?_⟩
 have h:=h.2
 obtain ⟨hs,hb⟩:=hs.nw hb hn2
 refine lg 9 ?_
 obtain ⟨s2,w7,hv1,hC,hk,h⟩:=h
 refine sl (v:=s2.v) Kp9 (jF rfl) (by kernel_rfl) (jO (args:=#[r1.v,(Sl.mk (some p3) 1 1).v]) (by kernel_rfl) (fun _=>rfl) hv1) (.inr ⟨hC,hb.kept hk⟩) ?_
 obtain ⟨hs,hb⟩:=hk.hh hs hb
 refine qx 10 s2.v (jE (S8 (jA (jA jD)))) (wn (jM (er (rs1 results19 ⟨s2,rfl,h⟩))))
 have h:=h.2
 refine vI (O:=(.cells #[(.int .u8 41)] 5)) (fun p=>(Sl.mk (some p) 1 1).v) Kp8 (jF rfl) (by kernel_rfl) (jS (vs:=#[(0,(.int .u8 41))]) (by kernel_rfl) (by kernel_rfl)) ?_
 intro p4 w8 hn3
 have h:=h p4 w8 hn3
 refine ⟨.inr ⟨h.1,hb.kept (Ext.new (F:=None) hn3).keptP⟩,?_⟩
 have h:=h.2
 obtain ⟨hs,hb⟩:=hs.nw hb hn3
 refine lg 7 (slc Kp7 call19 (h.mono ?_))
 rintro e w9 ⟨r2,rfl,hC,hk,h⟩
 refine ⟨_,rfl,.inr ⟨hC,hb.kept hk⟩,?_⟩
 obtain ⟨hs,hb⟩:=hk.hh hs hb
 refine lg 9 ?_
 obtain ⟨s3,w10,hv2,hC,hk,h⟩:=h
 refine sl (v:=s3.v) Kp9 (jF rfl) (by kernel_rfl) (jO (args:=#[r2.v,(Sl.mk (some p4) 1 1).v]) (by kernel_rfl) (fun _=>rfl) hv2) (.inr ⟨hC,hb.kept hk⟩) ?_
 obtain ⟨hs,hb⟩:=hk.hh hs hb
 refine qx 10 s3.v (jE (S8 (jA (jA jD)))) (wn (jM (er (rs1 results19 ⟨s3,rfl,h⟩))))
 have h:=h.2
 refine vI (O:=(.cells #[(.int .u8 41)] 5)) (fun p=>(Sl.mk (some p) 1 1).v) Kp8 (jF rfl) (by kernel_rfl) (jS (vs:=#[(0,(.int .u8 41))]) (by kernel_rfl) (by kernel_rfl)) ?_
 intro p5 w11 hn4
 have h:=h p5 w11 hn4
 refine ⟨.inr ⟨h.1,hb.kept (Ext.new (F:=None) hn4).keptP⟩,?_⟩
 have h:=h.2
 obtain ⟨hs,hb⟩:=hs.nw hb hn4
 refine lg 2 ?_
 obtain ⟨s4,w12,hv5,hC,hk,h⟩:=h
 refine sl (v:=s4.v) Kp2 (jF rfl) (by kernel_rfl) (jO (args:=#[b2.v,(Sl.mk (some p2) 1 1).v]) (by kernel_rfl) (fun _=>rfl) hv5) (.inr ⟨hC,hb.kept hk⟩) ?_
 obtain ⟨hs,hb⟩:=hk.hh hs hb
 refine lg 7 (slc Kp7 call19 (h.mono ?_))
 rintro e w13 ⟨r3,rfl,hC,hk,h⟩
 refine ⟨_,rfl,.inr ⟨hC,hb.kept hk⟩,?_⟩
 obtain ⟨hs,hb⟩:=hk.hh hs hb
 refine lg 9 ?_
 obtain ⟨s5,w14,hv4,hC,hk,h⟩:=h
 refine sl (v:=s5.v) Kp9 (jF rfl) (by kernel_rfl) (jO (args:=#[r3.v,(Sl.mk (some p5) 1 1).v]) (by kernel_rfl) (fun _=>rfl) hv4) (.inr ⟨hC,hb.kept hk⟩) ?_
 obtain ⟨hs,hb⟩:=hk.hh hs hb
 refine qx 10 s5.v (jE (S8 (jA (jA jD)))) (wn (jM (er (rs1 results19 ⟨s5,rfl,h⟩))))
 have h:=h.2
 refine vI (O:=(.cells #[(.int .u8 41)] 5)) (fun p=>(Sl.mk (some p) 1 1).v) Kp8 (jF rfl) (by kernel_rfl) (jS (vs:=#[(0,(.int .u8 41))]) (by kernel_rfl) (by kernel_rfl)) ?_
 intro p6 w15 hn7
 have h:=h p6 w15 hn7
 refine ⟨.inr ⟨h.1,hb.kept (Ext.new (F:=None) hn7).keptP⟩,?_⟩
 have h:=h.2
 obtain ⟨hs,hb⟩:=hs.nw hb hn7
 refine lg 1 (vI (O:=(.cells #[(.int .u8 40)] 5)) (fun p=>(Sl.mk (some p) 1 1).v) Kp1 (jF rfl) (by kernel_rfl) (jS (vs:=#[(0,(.int .u8 40))]) (by kernel_rfl) (by kernel_rfl)) ?_)
 intro p7 w16 hn6
 have h:=h p7 w16 hn6
 refine ⟨.inr ⟨h.1,hb.kept (Ext.new (F:=None) hn6).keptP⟩,?_⟩
 have h:=h.2
 obtain ⟨hs,hb⟩:=hs.nw hb hn6
 refine lg 2 ?_
 obtain ⟨s6,w17,hv7,hC,hk,h⟩:=h
 refine sl (v:=s6.v) Kp2 (jF rfl) (by kernel_rfl) (jO (args:=#[b2.v,(Sl.mk (some p7) 1 1).v]) (by kernel_rfl) (fun _=>rfl) hv7) (.inr ⟨hC,hb.kept hk⟩) ?_
 obtain ⟨hs,hb⟩:=hk.hh hs hb
 refine lg 7 (slc Kp7 call19 (h.mono ?_))
 rintro e w18 ⟨r4,rfl,hC,hk,h⟩
 refine ⟨_,rfl,.inr ⟨hC,hb.kept hk⟩,?_⟩
 obtain ⟨hs,hb⟩:=hk.hh hs hb
 refine lg 9 ?_
 obtain ⟨s7,w19,hv6,hC,hk,h⟩:=h
 refine sl (v:=s7.v) Kp9 (jF rfl) (by kernel_rfl) (jO (args:=#[r4.v,(Sl.mk (some p6) 1 1).v]) (by kernel_rfl) (fun _=>rfl) hv6) (.inr ⟨hC,hb.kept hk⟩) ?_
 obtain ⟨hs,hb⟩:=hk.hh hs hb
 refine qx 10 s7.v (jE (S8 (jA (jA jD)))) (wn (jM (er (rs1 results19 ⟨s7,rfl,h⟩))))
 refine jP (eg (qb (ln (cbr h ?_ ?_))))<;>intro h
 refine eg (qb (q3 (xl (isAgg3 _) (hb.d 0 1 gZ)) (q ?_)))
 have ⟨h,hs⟩:=hs.hr (h H1 w1)
 refine sc call30 (h.mono fun e w20 ⟨r5,k,hk,h⟩=>have ⟨hs,hb⟩:=hk.hh hs hb;⟨_,k,?_⟩)
 refine q (ln (er (yK (kB (rs1 results19 ⟨r5,rfl,h⟩)))))
 refine eg (qb (ln (cbr h ?_ ?_)))<;>intro h
 refine eg (qb (q3 (xl (isAgg22 _) (hb.d 0 3 gZ)) ?_))
 have ⟨h,hs⟩:=hs.hr (h H1 w1)
 refine sc call30 (h.mono fun e w21 ⟨r6,k,hk,h⟩=>have ⟨hs,hb⟩:=hk.hh hs hb;⟨_,k,?_⟩)
 refine q (ln (er (yK (kB (rs1 results19 ⟨r6,rfl,h⟩)))))
 refine eg (qb (ln (cbr h ?_ ?_)))<;>intro h
 refine eg (qb (q3 (xl (isAgg3 _) (hb.d 0 1 gZ)) (q ?_)))
 have ⟨h,hs⟩:=hs.hr (h H1 w1)
 refine sc call30 (h.mono fun e w22 ⟨r7,k,hk,h⟩=>have ⟨hs,hb⟩:=hk.hh hs hb;⟨_,k,?_⟩)
 refine q (ln (er (yK (kB (rs1 results19 ⟨r7,rfl,h⟩)))))
 refine eg (qb (ln (cbr h ?_ ?_)))<;>intro h
 refine eg (qb (q3 (xl (isAgg9 _) (hb.d 0 4 gZ)) ?_))
 have ⟨h,hs⟩:=hs.hr (h H1 w1)
 refine sc call31 (h.mono fun e w23 ⟨r8,k,hk,h⟩=>have ⟨hs,hb⟩:=hk.hh hs hb;⟨_,k,?_⟩)
 refine q (ln (er (yK (kB (rs1 results19 ⟨r8,rfl,h⟩)))))
 refine eg (qb (ln (cbr h ?_ ?_)))<;>intro h
 refine jC ?_
 have ⟨h,hs⟩:=hs.hr (h H1 w1)
 obtain ⟨C2,hC,h⟩:=h
 refine dr2 (fun x=>C2 x∧HB H1 x _) [1,2,7] [] ⟨hC,hb.drew⟩ h hs hb fun w24 hs hb h=>?_
 have hs:=hs.here
 refine qx 0 b1.v Kp0 (qx 3 (vp (some (p1.add 5))) Kp3 (qz 4 aC.v Kp4 (fun w' hw'=>(xl (isAgg23 _) (hw'.2.cell 0 5 gZ (by kernel_rfl)))) (qg 5 ?_)))
 obtain ⟨a2,hv21,h⟩:=h
 refine sy Kp5 (fun _ _=>xi (runUnderlying23 _) (sizeOf25 _) hv21) (qg 6 ?_)
 obtain ⟨bE,bF,bG,bH,bI,bJ,hv20,h⟩:=h
 refine sy (v:=(Ab bE bF bG bH bI bJ)) Kp6 (fun w' hw'=>(xa a2 (Aa bE bF bG bH bI bJ) (isAgg25 _) (sizeOf25 _) (hv20 w' hw'.1))) (lg 1 (vI (O:=(.cells #[(.int .u8 40)] 5)) (fun p=>(Sl.mk (some p) 1 1).v) Kp1 (jF rfl) (by kernel_rfl) (jS (vs:=#[(0,(.int .u8 40))]) (by kernel_rfl) (by kernel_rfl)) ?_))
 intro p8 w25 hn14
 have h:=h p8 w25 hn14
 refine ⟨.inr ⟨h.1,hb.kept (Ext.new (F:=None) hn14).keptP⟩,?_⟩
 have h:=h.2
 obtain ⟨hs,hb⟩:=hs.nw hb hn14
 refine lg 2 ?_
 obtain ⟨s8,w26,hv19,hC,hk,h⟩:=h
 refine sl (v:=s8.v) Kp2 (jF rfl) (by kernel_rfl) (jO (args:=#[b1.v,(Sl.mk (some p8) 1 1).v]) (by kernel_rfl) (fun _=>rfl) hv19) (.inr ⟨hC,hb.kept hk⟩) ?_
 obtain ⟨hs,hb⟩:=hk.hh hs hb
 refine lg 7 (slc Kp7 call19 (h.mono ?_))
 rintro e w27 ⟨r9,rfl,hC,hk,h⟩
 refine ⟨_,rfl,.inr ⟨hC,hb.kept hk⟩,?_⟩
 obtain ⟨hs,hb⟩:=hk.hh hs hb
 refine qx 8 r9.v Kp8 (wn (jM (jC ?_)))
 obtain ⟨C3,hC,h⟩:=h
 refine dr2 (fun x=>C3 x∧HB H1 x _) [1,2,7,8,9] [] ⟨hC,hb.drew⟩ h hs hb fun w28 hs hb h=>?_
 have hs:=hs.here
 refine qx 0 r9.v Kp0 (qx 3 (vp (some (p1.add 5))) Kp3 (qz 4 aC.v Kp4 (fun w' hw'=>(xl (isAgg23 _) (hw'.2.cell 0 5 gZ (by kernel_rfl)))) (qg 5 ?_)))
 obtain ⟨a3,hv18,h⟩:=h
 refine sy Kp5 (fun _ _=>xi (runUnderlying23 _) (sizeOf25 _) hv18) (qg 6 ?_)
 obtain ⟨aY,aZ,bA,bB,bC,bD,hv17,h⟩:=h
 refine sy (v:=(Ab aY aZ bA bB bC bD)) Kp6 (fun w' hw'=>(xa a3 (Aa aY aZ bA bB bC bD) (isAgg25 _) (sizeOf25 _) (hv17 w' hw'.1))) (lgo2 (k:=1) (k':=8) (by kernel_rfl) ?_ ?_)
 have h:=h.1
 refine vI (O:=(.cells #[(.int .u8 32)] 5)) (fun p=>(Sl.mk (some p) 1 1).v) Kp1 (jF rfl) (by kernel_rfl) (jS (vs:=#[(0,(.int .u8 32))]) (by kernel_rfl) (by kernel_rfl)) ?_
 intro p9 w29 hn11
 have h:=h p9 w29 hn11
 refine ⟨.inr ⟨h.1,hb.kept (Ext.new (F:=None) hn11).keptP⟩,?_⟩
 have h:=h.2
 obtain ⟨hs,hb⟩:=hs.nw hb hn11
 refine lgo2 (k:=2) (k':=8) (by kernel_rfl) ?_ ?_
 have h:=h.1
 obtain ⟨s9,w30,hv12,hC,hk,h⟩:=h
 refine sl (v:=s9.v) Kp2 (jF rfl) (by kernel_rfl) (jO (args:=#[r9.v,(Sl.mk (some p9) 1 1).v]) (by kernel_rfl) (fun _=>rfl) hv12) (.inr ⟨hC,hb.kept hk⟩) ?_
 obtain ⟨hs,hb⟩:=hk.hh hs hb
 refine lgo2 (k:=7) (k':=8) (by kernel_rfl) ?_ ?_
 have h:=h.1
 refine slc Kp7 call19 (h.mono ?_)
 rintro e w31 ⟨r10,rfl,hC,hk,h⟩
 refine ⟨_,rfl,.inr ⟨hC,hb.kept hk⟩,?_⟩
 obtain ⟨hs,hb⟩:=hk.hh hs hb
 refine lg 8 (vI (O:=(.cells #[(.int .u8 41)] 5)) (fun p=>(Sl.mk (some p) 1 1).v) Kp8 (jF rfl) (by kernel_rfl) (jS (vs:=#[(0,(.int .u8 41))]) (by kernel_rfl) (by kernel_rfl)) ?_)
 intro p10 w32 hn8
 have h:=h p10 w32 hn8
 refine ⟨.inr ⟨h.1,hb.kept (Ext.new (F:=None) hn8).keptP⟩,?_⟩
 have h:=h.2
 obtain ⟨hs,hb⟩:=hs.nw hb hn8
 refine lg 9 ?_
 obtain ⟨s10,w33,hv10,hC,hk,h⟩:=h
 refine sl (v:=s10.v) Kp9 (jF rfl) (by kernel_rfl) (jO (args:=#[r10.v,(Sl.mk (some p10) 1 1).v]) (by kernel_rfl) (fun _=>rfl) hv10) (.inr ⟨hC,hb.kept hk⟩) ?_
 obtain ⟨hs,hb⟩:=hk.hh hs hb
 refine qx 10 s10.v (jE (S8 (jA (jA jD)))) (wn (jM (er (yK (kB (rs1 results19 ⟨s10,rfl,h⟩))))))
 have h:=h.2
 refine vI (O:=(.cells #[(.int .u8 41)] 5)) (fun p=>(Sl.mk (some p) 1 1).v) Kp8 (jF rfl) (by kernel_rfl) (jS (vs:=#[(0,(.int .u8 41))]) (by kernel_rfl) (by kernel_rfl)) ?_
 intro p11 w34 hn9
 have h:=h p11 w34 hn9
 refine ⟨.inr ⟨h.1,hb.kept (Ext.new (F:=None) hn9).keptP⟩,?_⟩
 have h:=h.2
 obtain ⟨hs,hb⟩:=hs.nw hb hn9
 refine lg 7 (slc Kp7 call19 (h.mono ?_))
 rintro e w35 ⟨r11,rfl,hC,hk,h⟩
 refine ⟨_,rfl,.inr ⟨hC,hb.kept hk⟩,?_⟩
 obtain ⟨hs,hb⟩:=hk.hh hs hb
 refine lg 9 ?_
 obtain ⟨s11,w36,hv11,hC,hk,h⟩:=h
 refine sl (v:=s11.v) Kp9 (jF rfl) (by kernel_rfl) (jO (args:=#[r11.v,(Sl.mk (some p11) 1 1).v]) (by kernel_rfl) (fun _=>rfl) hv11) (.inr ⟨hC,hb.kept hk⟩) ?_
 obtain ⟨hs,hb⟩:=hk.hh hs hb
 refine qx 10 s11.v (jE (S8 (jA (jA jD)))) (wn (jM (er (yK (kB (rs1 results19 ⟨s11,rfl,h⟩))))))
 have h:=h.2
 refine vI (O:=(.cells #[(.int .u8 41)] 5)) (fun p=>(Sl.mk (some p) 1 1).v) Kp8 (jF rfl) (by kernel_rfl) (jS (vs:=#[(0,(.int .u8 41))]) (by kernel_rfl) (by kernel_rfl)) ?_
 intro p12 w37 hn10
 have h:=h p12 w37 hn10
 refine ⟨.inr ⟨h.1,hb.kept (Ext.new (F:=None) hn10).keptP⟩,?_⟩
 have h:=h.2
 obtain ⟨hs,hb⟩:=hs.nw hb hn10
 refine lg 2 ?_
 obtain ⟨s12,w38,hv14,hC,hk,h⟩:=h
 refine sl (v:=s12.v) Kp2 (jF rfl) (by kernel_rfl) (jO (args:=#[r9.v,(Sl.mk (some p9) 1 1).v]) (by kernel_rfl) (fun _=>rfl) hv14) (.inr ⟨hC,hb.kept hk⟩) ?_
 obtain ⟨hs,hb⟩:=hk.hh hs hb
 refine lg 7 (slc Kp7 call19 (h.mono ?_))
 rintro e w39 ⟨r12,rfl,hC,hk,h⟩
 refine ⟨_,rfl,.inr ⟨hC,hb.kept hk⟩,?_⟩
 obtain ⟨hs,hb⟩:=hk.hh hs hb
 refine lg 9 ?_
 obtain ⟨s13,w40,hv13,hC,hk,h⟩:=h
 refine sl (v:=s13.v) Kp9 (jF rfl) (by kernel_rfl) (jO (args:=#[r12.v,(Sl.mk (some p12) 1 1).v]) (by kernel_rfl) (fun _=>rfl) hv13) (.inr ⟨hC,hb.kept hk⟩) ?_
 obtain ⟨hs,hb⟩:=hk.hh hs hb
 refine qx 10 s13.v (jE (S8 (jA (jA jD)))) (wn (jM (er (yK (kB (rs1 results19 ⟨s13,rfl,h⟩))))))
 have h:=h.2
 refine vI (O:=(.cells #[(.int .u8 41)] 5)) (fun p=>(Sl.mk (some p) 1 1).v) Kp8 (jF rfl) (by kernel_rfl) (jS (vs:=#[(0,(.int .u8 41))]) (by kernel_rfl) (by kernel_rfl)) ?_
 intro p13 w41 hn13
 have h:=h p13 w41 hn13
 refine ⟨.inr ⟨h.1,hb.kept (Ext.new (F:=None) hn13).keptP⟩,?_⟩
 have h:=h.2
 obtain ⟨hs,hb⟩:=hs.nw hb hn13
 refine lg 1 (vI (O:=(.cells #[(.int .u8 32)] 5)) (fun p=>(Sl.mk (some p) 1 1).v) Kp1 (jF rfl) (by kernel_rfl) (jS (vs:=#[(0,(.int .u8 32))]) (by kernel_rfl) (by kernel_rfl)) ?_)
 intro p14 w42 hn12
 have h:=h p14 w42 hn12
 refine ⟨.inr ⟨h.1,hb.kept (Ext.new (F:=None) hn12).keptP⟩,?_⟩
 have h:=h.2
 obtain ⟨hs,hb⟩:=hs.nw hb hn12
 refine lg 2 ?_
 obtain ⟨s14,w43,hv16,hC,hk,h⟩:=h
 refine sl (v:=s14.v) Kp2 (jF rfl) (by kernel_rfl) (jO (args:=#[r9.v,(Sl.mk (some p14) 1 1).v]) (by kernel_rfl) (fun _=>rfl) hv16) (.inr ⟨hC,hb.kept hk⟩) ?_
 obtain ⟨hs,hb⟩:=hk.hh hs hb
 refine lg 7 (slc Kp7 call19 (h.mono ?_))
 rintro e w44 ⟨r13,rfl,hC,hk,h⟩
 refine ⟨_,rfl,.inr ⟨hC,hb.kept hk⟩,?_⟩
 obtain ⟨hs,hb⟩:=hk.hh hs hb
 refine lg 9 ?_
 obtain ⟨s15,w45,hv15,hC,hk,h⟩:=h
 refine sl (v:=s15.v) Kp9 (jF rfl) (by kernel_rfl) (jO (args:=#[r13.v,(Sl.mk (some p13) 1 1).v]) (by kernel_rfl) (fun _=>rfl) hv15) (.inr ⟨hC,hb.kept hk⟩) ?_
 obtain ⟨hs,hb⟩:=hk.hh hs hb
 refine qx 10 s15.v (jE (S8 (jA (jA jD)))) (wn (jM (er (yK (kB (rs1 results19 ⟨s15,rfl,h⟩))))))
 refine eg (qb (ln (cbr h ?_ ?_)))<;>intro h
 refine rg (q ?_)
 have ⟨h,hs⟩:=hs.hr (h H1 w1)
 refine nw5 (fun p=>(Sl.mk (some p) 1 1).v) hs hb h fun p15 w46 hs hb h=>?_
 obtain ⟨s16,w47,hv22,hk,h⟩:=h
 refine st (v:=s16.v) (jF rfl) (jO (args:=#[b1.v,(Sl.mk (some p15) 1 1).v]) (by kernel_rfl) (fun _=>rfl) hv22) ?_
 obtain ⟨hs,hb⟩:=hk.hh hs hb
 refine q (jB (kY (jM ⟨s16,H1,hm,hs,hb,h⟩)))
 refine eg (qb (ln (cbr h ?_ ?_)))<;>intro h
 refine rg (qb (q3 (xl (isAgg3 _) (hb.d 0 1 gZ)) (q ?_)))
 have ⟨h,hs⟩:=hs.hr (h H1 w1)
 refine sc call30 (h.mono fun e w48 ⟨r14,k,hk,h⟩=>have ⟨hs,hb⟩:=hk.hh hs hb;⟨_,k,?_⟩)
 refine q (jB (kY (jM ⟨r14,H1,hm,hs,hb,h⟩)))
 refine eg (qb (ln (cbr h ?_ ?_)))<;>intro h
 have ⟨h,hs⟩:=hs.hr (h H1 w1)
 obtain ⟨C4,hC,h⟩:=h
 refine dr2 (fun x=>C4 x∧HB H1 x _) [4,8] [] ⟨hC,hb.drew⟩ h hs hb fun w49 hs hb h=>?_
 have hs:=hs.here
 refine qx 0 b1.v Kp0 (qx 1 (vp (some (p1.add 1))) Kp1 (qz 2 (vi aB) Kp2 (fun w' hw'=>(xl (isAgg3 _) (hw'.2.cell 0 1 gZ (by kernel_rfl)))) (qx 3 (vu (IntKind.u64.wrap aB)) Kp3 (qx 5 (vp (some (p1.add 2))) Kp5 (qz 6 (vi aD) Kp6 (fun w' hw'=>(xl (isAgg3 _) (hw'.2.cell 0 2 gZ (by kernel_rfl)))) (qx 7 (vu (IntKind.u64.wrap aD)) Kp7 (lg 4 (slc Kp4 call30 (h.mono ?_)))))))))
 rintro e w50 ⟨r15,rfl,hC,hk,h⟩
 refine ⟨_,rfl,.inr ⟨hC,hb.kept hk⟩,?_⟩
 obtain ⟨hs,hb⟩:=hk.hh hs hb
 refine lg 8 (slc Kp8 call30 (h.mono ?_))
 rintro e w51 ⟨r16,rfl,hC,hk,h⟩
 refine ⟨_,rfl,.inr ⟨hC,hb.kept hk⟩,?_⟩
 obtain ⟨hs,hb⟩:=hk.hh hs hb
 refine qx 9 r16.v Kp9 (wn (kY (jM ⟨r16,H1,hm,hs,hb,h⟩)))
 refine eg (qb (ln (cbr h ?_ ?_)))<;>intro h
 have ⟨h,hs⟩:=hs.hr (h H1 w1)
 obtain ⟨C5,hC,h⟩:=h
 refine dr2 (fun x=>C5 x∧HB H1 x _) [4,8] [] ⟨hC,hb.drew⟩ h hs hb fun w52 hs hb h=>?_
 have hs:=hs.here
 refine qx 0 b1.v Kp0 (qx 1 (vp (some (p1.add 1))) Kp1 (qz 2 (vi aB) Kp2 (fun w' hw'=>(xl (isAgg3 _) (hw'.2.cell 0 1 gZ (by kernel_rfl)))) (qx 3 (vu (IntKind.u64.wrap aB)) Kp3 (qx 5 (vp (some (p1.add 2))) Kp5 (qz 6 (vi aD) Kp6 (fun w' hw'=>(xl (isAgg3 _) (hw'.2.cell 0 2 gZ (by kernel_rfl)))) (qx 7 (vu (IntKind.u64.wrap aD)) Kp7 (lg 4 (slc Kp4 call30 (h.mono ?_)))))))))
 rintro e w53 ⟨r17,rfl,hC,hk,h⟩
 refine ⟨_,rfl,.inr ⟨hC,hb.kept hk⟩,?_⟩
 obtain ⟨hs,hb⟩:=hk.hh hs hb
 refine lg 8 (slc Kp8 call30 (h.mono ?_))
 rintro e w54 ⟨r18,rfl,hC,hk,h⟩
 refine ⟨_,rfl,.inr ⟨hC,hb.kept hk⟩,?_⟩
 obtain ⟨hs,hb⟩:=hk.hh hs hb
 refine qx 9 r18.v Kp9 (wn (kY (jM ⟨r18,H1,hm,hs,hb,h⟩)))
 refine jG (kY ?_)
 have ⟨h,hs⟩:=hs.hr (h H1 w1)
 refine jM ⟨b1,H1,hm,hs,hb,h⟩
def m_K1 (aA aB:Int) (aD aE:Int) (aF:ByteArray) (aC:Sl) (w0:World) (K:ByteArray→Int→WP):Prop :=∀H1 w1,Hst w0 None w0 H1 w1→∃C1:WP,C1 w1.drew∧∀w2,w2=w1.drew→Calls prog 17 #[] w2 (fun e w3=>∃r1,e=.returned (vp r1)∧C1 w3∧Kept H1 w2 w3∧Calls prog 18 #[(vp r1),(.agg #[(vi aA),(vi aB),(vi aD),(vu aE),(vs aF),aC.v])] w3 (fun e w4=>∃r2 r3,e=.returned (.tuple #[(vi r2),(vi r3)])∧C1 w4∧Kept H1 w3 w4∧Br (r3 != 0) (K ⟨#[]⟩ r3 w4) (Calls prog 19 #[Sl.nil.v,(.agg #[(vi aA),(vi aB),(vi aD),(vu aE),(vs aF),aC.v])] w4 (fun e w5=>∃r4:Sl,e=.returned r4.v∧Kept H1 w4 w5∧∃c1,(convert 49 9 r4.v).run prog w5=.ok (vs c1) w5∧K c1 0 w5))))
theorem w_K1 (aA aB aD aE aF aC w0 K) (h:m_K1 aA aB aD aE aF aC w0 K):
  Calls prog 9 #[(.agg #[(vi aA),(vi aB),(vi aD),(vu aE),(vs aF),aC.v])] w0 (fun e w'=>∃r5 r6,e=.returned (.tuple #[(vs r5),(vi r6)])∧K r5 r6 w'):=by
 refine cw (args:=[(Ab aA aB aD aE aF aC)]) func9 ntmps9 ?_
 obtain ⟨hs,hb⟩:=st0 w0
 refine eg (nw3 (Aa aA aB aD aE aF aC) 25 hs hb xb fun p1 w1 H1 hs hb=>qb (ln (jC (jC ?_))))
 have ⟨h,hs⟩:=hs.hr (h H1 w1)
 obtain ⟨C1,hC,h⟩:=h
 refine dr2 (fun x=>C1 x∧HB H1 x _) [0,2] [] ⟨hC,hb.drew⟩ h hs hb fun w2 hs hb h=>?_
 have hs:=hs.here
 refine qz 1 (Ab aA aB aD aE aF aC) Kp1 (fun w' hw'=>(xa p1 (Aa aA aB aD aE aF aC) (isAgg25 _) (sizeOf25 _) (hw'.2.r0 0 6 gZ))) (lg 0 (slc Kp0 call17 (h.mono ?_)))
 rintro e w3 ⟨r1,rfl,hC,hk,h⟩
 refine ⟨_,rfl,.inr ⟨hC,hb.kept hk⟩,?_⟩
 obtain ⟨hs,hb⟩:=hk.hh hs hb
 refine lg 2 (slc Kp2 call18 (h.mono ?_))
 rintro e w4 ⟨r2,r3,rfl,hC,hk,h⟩
 refine ⟨_,rfl,.inr ⟨hC,hb.kept hk⟩,?_⟩
 obtain ⟨hs,hb⟩:=hk.hh hs hb
 refine qx 3 (.tuple #[(vi r2),(vi r3)]) Kp3 (qx 4 (vi r2) Kp4 (qx 5 (vi r3) Kp5 (qx 6 (vi r2) Kp6 (qx 7 (vi r3) Kp7 (wn (jM (eg (qb (jB (jM (cbr h ?_ ?_)))))))))))<;>intro h
 refine eg (qc (ln (er (kB (lC (.inl rfl) results9 (v:=ve) (by kernel_rfl) (v':=(vi r3)) (by kernel_rfl) ⟨⟨#[]⟩,r3,rfl,h⟩)))))
 refine jG (jM (eg (q2 (Ab aA aB aD aE aF aC) (xa p1 (Aa aA aB aD aE aF aC) (isAgg25 _) (sizeOf25 _) (hb.r0 0 6 gZ)) (sc call19 (h.mono fun e w5 ⟨r4,k,hk,h⟩=>have ⟨hs,hb⟩:=hk.hh hs hb;⟨_,k,?_⟩)))))
 obtain ⟨c1,hv1,h⟩:=h
 refine q2 (vs c1) (vF (by kernel_rfl) hv1) (qb (ln (er (lC (.inl rfl) results9 (v:=(vs c1)) (by kernel_rfl) (v':=(vi 0)) (by kernel_rfl) ⟨c1,0,rfl,h⟩))))
def m_V_l1 (r1:Option Addr) (w0:World) (Hl1:NP) (wl1:World) (Kc1:NP→WP) (K:WP):Prop :=∃a1,r1=some a1∧∀w1,Hst w0 Hl1 wl1 Hl1 w1→∃v1,w1.cell? (a1.add 1)=some (vi v1)∧∃a2,r1=some a2∧∃v2,w1.cell? a2=some (vs v2)∧Br (decide (v1<(v2.size:Int))) (∃a3,r1=some a3∧∃v3,w1.cell? a3=some (vs v3)∧∃a4,r1=some a4∧∃v4,w1.cell? (a4.add 1)=some (vi v4)∧∃e1:Int,(Instr.index 9 (vs v3) (vi v4)).run prog w1=.ok (.int .u8 e1) w1∧Br (e1 == 32) (∃a5,r1=some a5∧∃v5,w1.cell? (a5.add 1)=some (vi v5)∧∃a6,r1=some a6∧kD w1 (a6.add 1)∧¬ Hl1 (a6.add 1).block∧∀w2,w2=w1.setCell (a6.add 1) (vi (q6.wrap (v5+1)))→Kc1 Hl1 w2) (K w1)) (K w1)
def m_V (r1:Option Addr) (w0:World) (K:WP):Prop :=∃(I1:NP→WP) (mu1:World→Nat),I1 None w0∧∀Hl1 wl1,Hst w0 Hl1 wl1 Hl1 wl1→I1 Hl1 wl1→m_V_l1 r1 w0 Hl1 wl1 (fun H' w'=>I1 H' w'∧mu1 w'<mu1 wl1) K
theorem w_V (r1 w0 K) (h:m_V r1 w0 K):
  Calls prog 35 #[(vp r1)] w0 (fun e w'=>e=.returned (.tuple #[])∧K  w'):=by
 refine cw (args:=[(vp r1)]) func35 ntmps35 ?_
 obtain ⟨hs,hb⟩:=st0 w0
 refine jP ?_
 obtain ⟨I1,mu1,h0,hr⟩:=h
 refine kN (σ:=NP×World) (fun s ρ w=>w=s.2∧Has ρ [(0,(vp r1))]∧Hst w0 s.1 w s.1 w∧HB s.1 w []∧I1 s.1 s.2) (fun s=>mu1 s.2) (None,w0) ⟨rfl,hm,hs,hb,h0⟩ ?_
 rintro ⟨Hl1,wl1⟩ ρ w ⟨hw,hH,hs,hb,hI⟩
 dsimp only at hw hH hs hb;subst w
 have h:=hr Hl1 wl1 hs hI
 refine jZ hH (jC (jC (zC (by kernel_rfl) (by kernel_rfl) (by kernel_rfl) (by kernel_rfl) ?_)))
 intro w1 hw1
 have hs:Hst w0 Hl1 wl1 Hl1 w1:=by rw [hw1];exact hs.drew
 have hb:HB Hl1 w1 []:=by rw [hw1];exact hb.drew
 refine qq 0 (vp r1) Kp0 (qg 1 ?_)
 obtain ⟨a1,hp1,h⟩:=h
 refine sxQ Kp1 (jF rfl) rfl (xn hp1) (qq 2 (vp (some (a1.add 1))) Kp2 (qg 3 ?_))
 have ⟨h,hs⟩:=hs.hr (h w1)
 obtain ⟨v1,hv6,h⟩:=h
 refine sxQ Kp3 (jF rfl) rfl (xl (isAgg3 _) hv6) (qq 4 (vp r1) Kp4 (qg 5 ?_))
 obtain ⟨a2,hp2,h⟩:=h
 refine sxQ Kp5 (jF rfl) rfl (xn hp2) (qq 6 (vp (some a2)) Kp6 (qg 7 ?_))
 obtain ⟨v2,hv5,h⟩:=h
 refine sxQ Kp7 (jF rfl) rfl (xl (isAgg9 _) hv5) (qq 8 (vi (v2.size:Int)) Kp8 (qq 9 (vb (decide (v1<(v2.size:Int)))) Kp9 (qq 10 (vb (decide (v1<(v2.size:Int)))) (jE (S8 (jA (jA jD)))) (qg 11 ?_))))
 obtain ⟨hg1,h⟩|⟨hg1,h⟩:=h.br
 refine sxQ (v:=(vp r1)) (jE (S8 (jA (jA (jA jD))))) (wy 12 hg1) rfl (by kernel_rfl) (qg 12 ?_)
 obtain ⟨a3,hp3,h⟩:=h
 refine sxQ (jE (S8 (S4 jD))) (wy 12 hg1) rfl (xn hp3) (qg 13 (sxQ (v:=(vp (some a3))) (jE (S8 (S4 (jA jD)))) (wy 12 hg1) rfl (by kernel_rfl) (qg 14 ?_)))
 obtain ⟨v3,hv4,h⟩:=h
 refine sxQ (jE (S8 (S4 (jA (jA jD))))) (wy 12 hg1) rfl (xl (isAgg9 _) hv4) (qg 15 (sxQ (v:=(vp r1)) (jE (S8 (S4 (jA (jA (jA jD)))))) (wy 12 hg1) rfl (by kernel_rfl) (qg 16 ?_)))
 obtain ⟨a4,hp4,h⟩:=h
 refine sxQ (jE (S8 (S8 jD))) (wy 12 hg1) rfl (xn hp4) (qg 17 (sxQ (v:=(vp (some (a4.add 1)))) (jE (S8 (S8 (jA jD)))) (wy 12 hg1) rfl (by kernel_rfl) (qg 18 ?_)))
 obtain ⟨v4,hv3,h⟩:=h
 refine sxQ (jE (S8 (S8 (jA (jA jD))))) (wy 12 hg1) rfl (xl (isAgg3 _) hv3) (qg 19 ?_)
 obtain ⟨e1,hv2,h⟩:=h
 refine sxQ (v:=(.int .u8 e1)) (jE (S8 (S8 (jA (jA (jA jD)))))) (wy 12 hg1) rfl (zO (by kernel_rfl) (by kernel_rfl) hv2) (qg 20 (sxQ (v:=(vb (e1 == 32))) (jE (S8 (S8 (S4 jD)))) (wy 12 hg1) rfl (by kernel_rfl) (qr 21 (vb (e1 == 32)) (jE (S8 (S8 (S4 (jA jD))))) (xT hg1) (wn (jM (cbr h ?_ ?_))))))<;>intro h
 refine jG (jM (jP (rg (q (qm h fun a5 h=>q (ql (isAgg3 _) h fun v5 h=>q (qm h fun a6 h=>q (st2 (sizeOf3 _) hs hb h fun w2 hs hb h=>jB (kY (jM ⟨(Hl1,w2),⟨rfl,hm,hs,hb,h.1⟩,h.2⟩))))))))))
 refine zQ (qI (qI (qH (jAF (.inr rfl) results35 ⟨rfl,h⟩))))
 refine qE (jE (S8 (jA (jA (jA jD))))) (jH rfl (yD 12 hg1) rfl) (qn 12 (jE (S8 (S4 jD))) (jH rfl (yD 12 hg1) rfl) (qn 13 (jE (S8 (S4 (jA jD)))) (jH rfl (yD 12 hg1) rfl) (qn 14 (jE (S8 (S4 (jA (jA jD))))) (jH rfl (yD 12 hg1) rfl) (qn 15 (jE (S8 (S4 (jA (jA (jA jD)))))) (jH rfl (yD 12 hg1) rfl) (qn 16 (jE (S8 (S8 jD))) (jH rfl (yD 12 hg1) rfl) (qn 17 (jE (S8 (S8 (jA jD)))) (jH rfl (yD 12 hg1) rfl) (qn 18 (jE (S8 (S8 (jA (jA jD))))) (jH rfl (yD 12 hg1) rfl) (qn 19 (jE (S8 (S8 (jA (jA (jA jD)))))) (jH rfl (yD 12 hg1) rfl) (qn 20 (jE (S8 (S8 (S4 jD)))) (jH rfl (yD 12 hg1) rfl) (qr 21 (vb false) (jE (S8 (S8 (S4 (jA jD))))) (xF hg1) (wn (jM (zT (by kernel_rfl) (zQ (qI (qI (qH (jAF (.inr rfl) results35 ⟨rfl,h⟩))))))))))))))))))
def m_L1 (r1:Option Addr) (e1 at1:Int) (w0:World) (K:Option (List PanicEntry)→WP):Prop :=K (some [{ v:=(.iface 53 (.agg #[(vi e1),(vi at1)])),recovered:=false }])  w0
theorem w_L1 (r1 e1 at1 w0 K) (h:m_L1 r1 e1 at1 w0 K):
  Calls prog 24 #[(vp r1),(vi e1),(vi at1)] w0 (fun e w'=>(e=.returned (.tuple #[])∧K none  w')∨∃ch,e=.panicked ch∧K (some ch)  w'):=by
 refine zM (args:=[(vp r1),(vi e1),(vi at1)]) func24 rfl ntmps24 (Nat.le_of_ble_eq_true rfl) (jI (by kernel_rfl) (jJ 4 (q0 (vi e1) (q0 (vi at1) (q0 (.agg #[(vi e1),(vi at1)]) (q0 (.iface 53 (.agg #[(vi e1),(vi at1)])) (jB (jDS (jF rfl) (by intro c hc;cases hc) (jFX (by kernel_rfl)) (fun ρ'=>.inr ⟨_,rfl,h⟩)))))))))
def m_M1 (r1:Option Addr) (w0:World) (K:Option (List PanicEntry)→Int→WP):Prop :=∃a1,r1=some a1∧∀w1,Hst w0 None w0 None w1→∃v1,w1.cell? (a1.add 1)=some (vi v1)∧∃a2,r1=some a2∧∃v2,w1.cell? a2=some (vs v2)∧Br (v1 == (v2.size:Int)) (∃a3,r1=some a3∧∃v3,w1.cell? (a3.add 1)=some (vi v3)∧Calls prog 24 #[(vp r1),(vi 3),(vi v3)] w1 (fun e w2=>(e=.returned (.tuple #[])∧Kept None w1 w2∧∃a4,r1=some a4∧∀w3,Hst w0 None w2 None w3→∃v4,w3.cell? a4=some (vs v4)∧∃a5,r1=some a5∧∃v5,w3.cell? (a5.add 1)=some (vi v5)∧∃e1:Int,(Instr.index 9 (vs v4) (vi v5)).run prog w3=.ok (.int .u8 e1) w3∧K none e1 w3)∨∃ch,e=.panicked ch∧K (some ch) 0 w2)) (∃a6,r1=some a6∧∀w4,Hst w0 None w1 None w4→∃v6,w4.cell? a6=some (vs v6)∧∃a7,r1=some a7∧∃v7,w4.cell? (a7.add 1)=some (vi v7)∧∃e2:Int,(Instr.index 9 (vs v6) (vi v7)).run prog w4=.ok (.int .u8 e2) w4∧K none e2 w4)
theorem w_M1 (r1 w0 K) (h:m_M1 r1 w0 K):
  Calls prog 36 #[(vp r1)] w0 (fun e w'=>(∃r2:Int,e=.returned (.int .u8 r2)∧K none r2 w')∨∃ch,e=.panicked ch∧K (some ch) 0 w'):=by
 refine zM (args:=[(vp r1)]) func36 rfl ntmps36 (Nat.le_of_ble_eq_true rfl) ?_
 obtain ⟨hs,hb⟩:=st0 w0
 refine eg (q (ln (jC (jC (zC (by kernel_rfl) (by kernel_rfl) (by kernel_rfl) (by kernel_rfl) ?_)))))
 intro w1 hw1
 have hs:Hst w0 None w0 None w1:=by rw [hw1];exact hs.drew
 have hb:HB None w1 []:=by rw [hw1];exact hb.drew
 refine qq 0 (vp r1) Kp0 (qg 1 ?_)
 obtain ⟨a1,hp1,h⟩:=h
 refine sxQ Kp1 (jF rfl) rfl (xn hp1) (qq 2 (vp (some (a1.add 1))) Kp2 (qg 3 ?_))
 have ⟨h,hs⟩:=hs.hr (h w1)
 obtain ⟨v1,hv9,h⟩:=h
 refine sxQ Kp3 (jF rfl) rfl (xl (isAgg3 _) hv9) (qq 4 (vp r1) Kp4 (qg 5 ?_))
 obtain ⟨a2,hp2,h⟩:=h
 refine sxQ Kp5 (jF rfl) rfl (xn hp2) (qq 6 (vp (some a2)) Kp6 (qg 7 ?_))
 obtain ⟨v2,hv8,h⟩:=h
 refine sxQ Kp7 (jF rfl) rfl (xl (isAgg9 _) hv8) (qq 8 (vi (v2.size:Int)) Kp8 (qq 9 (vb (v1 == (v2.size:Int))) Kp9 (wn (jM (cbr h ?_ ?_)))))<;>intro h
 refine jI (by kernel_rfl) (jJ 5 (q0 (vp r1) (q0 (vp r1) (qm h fun a3 h=>q (ql (isAgg3 _) h fun v3 h=>jB (jW (jF rfl) (by intro c hc;cases hc) (xc call24) (h.mono (fun e w2 hh=>hh.elim ?_ (by rintro ⟨ch,rfl,h⟩;exact .inr ⟨ch,rfl,fun ρ'=>.inr ⟨ch,rfl,h⟩⟩)))))))))
 rintro ⟨rfl,hk,h⟩
 refine .inl ⟨_,rfl,?_⟩
 obtain ⟨hs,hb⟩:=hk.hh hs hb
 refine zS (jM (jC (zC (by kernel_rfl) (by kernel_rfl) (by kernel_rfl) (by kernel_rfl) ?_)))
 intro w3 hw3
 have hs:Hst w0 None w2 None w3:=by rw [hw3];exact hs.drew
 have hb:HB None w3 []:=by rw [hw3];exact hb.drew
 refine qq 0 (vp r1) Kp0 (qg 1 ?_)
 obtain ⟨a4,hp4,h⟩:=h
 refine sxQ Kp1 (jF rfl) rfl (xn hp4) (qq 2 (vp (some a4)) Kp2 (qg 3 ?_))
 have ⟨h,hs⟩:=hs.hr (h w3)
 obtain ⟨v4,hv3,h⟩:=h
 refine sxQ Kp3 (jF rfl) rfl (xl (isAgg9 _) hv3) (qq 4 (vp r1) Kp4 (qg 5 ?_))
 obtain ⟨a5,hp5,h⟩:=h
 refine sxQ Kp5 (jF rfl) rfl (xn hp5) (qq 6 (vp (some (a5.add 1))) Kp6 (qg 7 ?_))
 obtain ⟨v5,hv2,h⟩:=h
 refine sxQ Kp7 (jF rfl) rfl (xl (isAgg3 _) hv2) (qg 8 ?_)
 obtain ⟨e1,hv1,h⟩:=h
 refine sxQ (v:=(.int .u8 e1)) Kp8 (jF rfl) rfl (zO (by kernel_rfl) (by kernel_rfl) hv1) (qq 9 (.int .u8 e1) Kp9 (wn (jM (er (ep (rs1 results36 (v:=(.int .u8 e1)) ?_))))))
 exact .inl ⟨e1,rfl,h⟩
 refine jG (jM (jC (zC (by kernel_rfl) (by kernel_rfl) (by kernel_rfl) (by kernel_rfl) ?_)))
 intro w4 hw4
 have hs:Hst w0 None w1 None w4:=by rw [hw4];exact hs.drew
 have hb:HB None w4 []:=by rw [hw4];exact hb.drew
 refine qq 0 (vp r1) Kp0 (qg 1 ?_)
 obtain ⟨a6,hp6,h⟩:=h
 refine sxQ Kp1 (jF rfl) rfl (xn hp6) (qq 2 (vp (some a6)) Kp2 (qg 3 ?_))
 have ⟨h,hs⟩:=hs.hr (h w4)
 obtain ⟨v6,hv7,h⟩:=h
 refine sxQ Kp3 (jF rfl) rfl (xl (isAgg9 _) hv7) (qq 4 (vp r1) Kp4 (qg 5 ?_))
 obtain ⟨a7,hp7,h⟩:=h
 refine sxQ Kp5 (jF rfl) rfl (xn hp7) (qq 6 (vp (some (a7.add 1))) Kp6 (qg 7 ?_))
 obtain ⟨v7,hv6,h⟩:=h
 refine sxQ Kp7 (jF rfl) rfl (xl (isAgg3 _) hv6) (qg 8 ?_)
 obtain ⟨e2,hv5,h⟩:=h
 refine sxQ (v:=(.int .u8 e2)) Kp8 (jF rfl) rfl (zO (by kernel_rfl) (by kernel_rfl) hv5) (qq 9 (.int .u8 e2) Kp9 (wn (jM (er (ep (rs1 results36 (v:=(.int .u8 e2)) ?_))))))
 exact .inl ⟨e2,rfl,h⟩
def m_G_j2 (r1:Option Addr) (v1:Int) (w0:World) (H:NP) (w:World) (K:Option (List PanicEntry)→Int→WP):Prop :=∃a2,r1=some a2∧∀w3,Hst w0 H w H w3→∃v2,w3.cell? a2=some (vs v2)∧∃a3,r1=some a3∧∃v3,w3.cell? (a3.add 1)=some (vi v3)∧∃s1,(Instr.sliceAt 9 (vs v2) (some (vi v1)) (some (vi v3)) none).run prog w3=.ok (vs s1) w3∧Calls prog 54 #[(vs s1),(vi 10),(vi 64)] w3 (fun e w4=>∃r3,∃r4:Value,e=.returned (.tuple #[(vu r3),r4])∧Kept H w3 w4∧∃b2,(Go.binOp .neq 101 r4 (.nilIface:Value)).run prog w4=.ok (vb b2) w4∧Br b2 (Calls prog 24 #[(vp r1),(vi 61),(vi v1)] w4 (fun e w5=>(e=.returned (.tuple #[])∧Kept H w4 w5∧K none r3 w5)∨∃ch,e=.panicked ch∧K (some ch) 0 w5)) (Br (decide ((s1.size:Int)>1)) (∃e1:Int,(Instr.index 9 (vs s1) (vi 0)).run prog w4=.ok (.int .u8 e1) w4∧Br (e1 == 48) (Calls prog 24 #[(vp r1),(vi 61),(vi v1)] w4 (fun e w6=>(e=.returned (.tuple #[])∧Kept H w4 w6∧K none r3 w6)∨∃ch,e=.panicked ch∧K (some ch) 0 w6)) (K none r3 w4)) (K none r3 w4)))
def m_G_l3 (r1:Option Addr) (v1:Int) (w0:World) (Hl1:NP) (wl1:World) (Kc3:NP→WP) (K:Option (List PanicEntry)→Int→WP):Prop :=∃a4,r1=some a4∧∀w7,Hst w0 Hl1 wl1 Hl1 w7→∃v4,w7.cell? (a4.add 1)=some (vi v4)∧∃a5,r1=some a5∧∃v5,w7.cell? a5=some (vs v5)∧Br (decide (v4<(v5.size:Int))) (∃a6,r1=some a6∧∃v6,w7.cell? a6=some (vs v6)∧∃a7,r1=some a7∧∃v7,w7.cell? (a7.add 1)=some (vi v7)∧∃e2:Int,(Instr.index 9 (vs v6) (vi v7)).run prog w7=.ok (.int .u8 e2) w7∧Br (decide (e2≥48)) (∃a8,r1=some a8∧∃v8,w7.cell? a8=some (vs v8)∧∃a9,r1=some a9∧∃v9,w7.cell? (a9.add 1)=some (vi v9)∧∃e3:Int,(Instr.index 9 (vs v8) (vi v9)).run prog w7=.ok (.int .u8 e3) w7∧Br (decide (e3≤57)) (∃a10,r1=some a10∧∃v10,w7.cell? (a10.add 1)=some (vi v10)∧∃a11,r1=some a11∧kD w7 (a11.add 1)∧¬ Hl1 (a11.add 1).block∧∀w8,w8=w7.setCell (a11.add 1) (vi (q6.wrap (v10+1)))→Kc3 Hl1 w8) (m_G_j2 r1 v1 w0 Hl1 w7 K)) (m_G_j2 r1 v1 w0 Hl1 w7 K)) (m_G_j2 r1 v1 w0 Hl1 w7 K)
def m_G_j1 (r1:Option Addr) (v1:Int) (w0:World) (H:NP) (w:World) (K:Option (List PanicEntry)→Int→WP):Prop :=∃(I1:NP→WP) (mu1:World→Nat),I1 H w∧∀Hl1 wl1,Hst w0 Hl1 wl1 Hl1 wl1→I1 Hl1 wl1→m_G_l3 r1 v1 w0 Hl1 wl1 (fun H' w'=>I1 H' w'∧mu1 w'<mu1 wl1) K
def m_G (r1:Option Addr) (w0:World) (K:Option (List PanicEntry)→Int→WP):Prop :=∃a1,r1=some a1∧∃v1,w0.cell? (a1.add 1)=some (vi v1)∧Calls prog 36 #[(vp r1)] w0 (fun e w1=>(∃r2:Int,e=.returned (.int .u8 r2)∧Kept None w0 w1∧Br ((decide (r2<48)) || (decide (r2>57))) (∃a12,r1=some a12∧∀H1 w2,Hst w0 None w1 H1 w2→∃v11,w2.cell? (a12.add 1)=some (vi v11)∧Calls prog 24 #[(vp r1),(vi 60),(vi v11)] w2 (fun e w9=>(e=.returned (.tuple #[])∧Kept H1 w2 w9∧m_G_j1 r1 v1 w0 H1 w9 K)∨∃ch,e=.panicked ch∧K (some ch) 0 w9)) (∀H1 w2,Hst w0 None w1 H1 w2→m_G_j1 r1 v1 w0 H1 w2 K))∨∃ch,e=.panicked ch∧K (some ch) 0 w1)
theorem w_G (r1 w0 K) (h:m_G r1 w0 K):
  Calls prog 38 #[(vp r1)] w0 (fun e w'=>(∃r5,e=.returned (vu r5)∧K none r5 w')∨∃ch,e=.panicked ch∧K (some ch) 0 w'):=by
 refine zM (args:=[(vp r1)]) func38 rfl ntmps38 (Nat.le_of_ble_eq_true rfl) ?_
 obtain ⟨hs,hb⟩:=st0 w0
 refine eg (q (ln (eg (q (qm h fun a1 h=>q (ql (isAgg3 _) h fun v1 h=>q (ln (jC (jC (jI (by kernel_rfl) (jJ 1 (q0 (vp r1) (jB (jW (jF rfl) (by intro c hc;cases hc) (xc call36) (h.mono (fun e w1 hh=>hh.elim ?_ (by rintro ⟨ch,rfl,h⟩;exact .inr ⟨ch,rfl,fun ρ'=>.inr ⟨ch,rfl,h⟩⟩)))))))))))))))))
 rintro ⟨r2,rfl,hk,h⟩
 refine .inl ⟨_,rfl,?_⟩
 obtain ⟨hs,hb⟩:=hk.hh hs hb
 refine zA (q0 (.int .u8 r2) (ln (jC (zW (fun ρ wJ=>∃b1'0:Bool,∃HJ:NP,((decide (r2<48))=b1'0)∧Hst w0 None w1 HJ wJ∧HB HJ wJ []∧Has ρ [(0,(vp r1)),(3,(vi v1)),(19,(vb (b1'0 || (decide (r2>57)))))]) ?_ ?_))))
 refine rg (qc ?_)
 rcases bte (decide (r2<48)) with hg2 | hg2
 refine sj2 16 hg2 (q2 (vb true) (xT hg2) (ln ⟨true,_,hg2,hs,hb,hm⟩))
 refine qk 16 hg2 (qk 16 hg2 (q2 (vb (decide (r2>57))) (xF hg2) (ln ⟨false,_,hg2,hs,hb,hm⟩)))
 rintro ρ w2 ⟨b1'0,H1,he0,hs,hb,hH⟩
 subst he0
 refine zL hH (jM (zJ (fun ρ w=>∃H:NP,Has ρ [(0,(vp r1)),(3,(vi v1))]∧Hst w0 H w H w∧HB H w []∧m_G_j1 r1 v1 w0 H w K) ?_ ?_))
 rintro ρ w ⟨H,hH,hs,hb,h⟩
 refine jZ hH (jC (zJ (fun ρ w=>∃H:NP,Has ρ [(0,(vp r1)),(3,(vi v1))]∧Hst w0 H w H w∧HB H w []∧m_G_j2 r1 v1 w0 H w K) ?_ ?_))
 rintro ρ w ⟨H,hH,hs,hb,h⟩
 refine jZ hH (jC (zC (by kernel_rfl) (by kernel_rfl) (by kernel_rfl) (by kernel_rfl) ?_))
 intro w3 hw3
 have hs:Hst w0 H w H w3:=by rw [hw3];exact hs.drew
 have hb:HB H w3 []:=by rw [hw3];exact hb.drew
 refine qq 0 (vp r1) Kp0 (qg 1 ?_)
 obtain ⟨a2,hp2,h⟩:=h
 refine sxQ Kp1 (jF rfl) rfl (xn hp2) (qq 2 (vp (some a2)) Kp2 (qg 3 ?_))
 have ⟨h,hs⟩:=hs.hr (h w3)
 obtain ⟨v2,hv5,h⟩:=h
 refine sxQ Kp3 (jF rfl) rfl (xl (isAgg9 _) hv5) (qq 4 (vi v1) Kp4 (qq 5 (vp r1) Kp5 (qg 6 ?_)))
 obtain ⟨a3,hp3,h⟩:=h
 refine sxQ Kp6 (jF rfl) rfl (xn hp3) (qq 7 (vp (some (a3.add 1))) Kp7 (qg 8 ?_))
 obtain ⟨v3,hv4,h⟩:=h
 refine sxQ Kp8 (jF rfl) rfl (xl (isAgg3 _) hv4) (qg 9 ?_)
 obtain ⟨s1,hv3,h⟩:=h
 refine sxQ (v:=(vs s1)) Kp9 (jF rfl) rfl (yX (by kernel_rfl) (by kernel_rfl) (by kernel_rfl) (by kernel_rfl) hv3) (qq 10 (vs s1) (jE (S8 (jA (jA jD)))) (wn (jM (eg (q (sc call54 (h.mono fun e w4 ⟨r3,r4,k,hk,h⟩=>have ⟨hs,hb⟩:=hk.hh hs hb;⟨_,k,?_⟩)))))))
 refine q (qd (ln (jC (eg (q ?_)))))
 obtain ⟨b2,hv2,h⟩:=h
 refine q2 (vb b2) (x_bini (by kernel_rfl) (by kernel_rfl) hv2) (q ?_)
 obtain ⟨hg3,h⟩|⟨hg3,h⟩:=h.br
 refine sj4 84 hg3 (sm (sm (sm (sj 84 hg3 (q2 (vb true) (xT hg3) (ln (kE (by kernel_rfl) (jI (by kernel_rfl) (jJ 2 (q0 (vp r1) (q0 (vi v1) (jB (jW (jF rfl) (by intro c hc;cases hc) (xc call24) (h.mono (fun e w5 hh=>hh.elim ?_ (by rintro ⟨ch,rfl,h⟩;exact .inr ⟨ch,rfl,fun ρ'=>.inr ⟨ch,rfl,h⟩⟩))))))))))))))))
 rintro ⟨rfl,hk,h⟩
 refine .inl ⟨_,rfl,?_⟩
 obtain ⟨hs,hb⟩:=hk.hh hs hb
 refine zS (jM (eg (q0 (vu r3) (q0 (vu r3) (ln (er (ep (rs1 results38 (v:=(vu r3)) ?_))))))))
 exact .inl ⟨r3,rfl,h⟩
 refine qk 84 hg3 (qk 84 hg3 (qk 84 hg3 (qk 84 hg3 ?_)))
 obtain ⟨hg4,h⟩|⟨hg4,h⟩:=h.br
 refine qk 88 hg4 ?_
 obtain ⟨e1,hv1,h⟩:=h
 refine stq (v:=(.int .u8 e1)) (wy 88 hg4) (zO (by kernel_rfl) (by kernel_rfl) hv1) (qk 88 hg4 (stq (v:=(vb (e1 == 48))) (wy 84 hg3) (xT hg4) (q2 (vb (e1 == 48)) (xF hg3) (ln (cbr h ?_ ?_)))))<;>intro h
 refine jI (by kernel_rfl) (jJ 2 (q0 (vp r1) (q0 (vi v1) (jB (jW (jF rfl) (by intro c hc;cases hc) (xc call24) (h.mono (fun e w6 hh=>hh.elim ?_ (by rintro ⟨ch,rfl,h⟩;exact .inr ⟨ch,rfl,fun ρ'=>.inr ⟨ch,rfl,h⟩⟩))))))))
 rintro ⟨rfl,hk,h⟩
 refine .inl ⟨_,rfl,?_⟩
 obtain ⟨hs,hb⟩:=hk.hh hs hb
 refine zS (jM (eg (q0 (vu r3) (q0 (vu r3) (ln (er (ep (rs1 results38 (v:=(vu r3)) ?_))))))))
 exact .inl ⟨r3,rfl,h⟩
 refine jG (jM (eg (qb (ln (er (ep (rs1 results38 (v:=(vu r3)) ?_)))))))
 exact .inl ⟨r3,rfl,h⟩
 refine sj3 88 hg4 (stq (v:=(vb false)) (wy 84 hg3) (xF hg4) (q2 (vb false) (xF hg3) (ln (zT (by kernel_rfl) (jG (jM (eg (qb (ln (er (ep (rs1 results38 (v:=(vu r3)) ?_))))))))))))
 exact .inl ⟨r3,rfl,h⟩
 refine jP ?_
 obtain ⟨I1,mu1,h0,hr⟩:=h
 refine kN (σ:=NP×World) (fun s ρ w=>w=s.2∧Has ρ [(0,(vp r1)),(3,(vi v1))]∧Hst w0 s.1 w s.1 w∧HB s.1 w []∧I1 s.1 s.2) (fun s=>mu1 s.2) (H,w) ⟨rfl,hm,hs,hb,h0⟩ ?_
 rintro ⟨Hl1,wl1⟩ ρ w ⟨hw,hH,hs,hb,hI⟩
 dsimp only at hw hH hs hb;subst w
 have h:=hr Hl1 wl1 hs hI
 refine jZ hH (jC (jC (zC (by kernel_rfl) (by kernel_rfl) (by kernel_rfl) (by kernel_rfl) ?_)))
 intro w7 hw7
 have hs:Hst w0 Hl1 wl1 Hl1 w7:=by rw [hw7];exact hs.drew
 have hb:HB Hl1 w7 []:=by rw [hw7];exact hb.drew
 refine qq 0 (vp r1) Kp0 (qg 1 ?_)
 obtain ⟨a4,hp4,h⟩:=h
 refine sxQ Kp1 (jF rfl) rfl (xn hp4) (qq 2 (vp (some (a4.add 1))) Kp2 (qg 3 ?_))
 have ⟨h,hs⟩:=hs.hr (h w7)
 obtain ⟨v4,hv14,h⟩:=h
 refine sxQ Kp3 (jF rfl) rfl (xl (isAgg3 _) hv14) (qq 4 (vp r1) Kp4 (qg 5 ?_))
 obtain ⟨a5,hp5,h⟩:=h
 refine sxQ Kp5 (jF rfl) rfl (xn hp5) (qq 6 (vp (some a5)) Kp6 (qg 7 ?_))
 obtain ⟨v5,hv13,h⟩:=h
 refine sxQ Kp7 (jF rfl) rfl (xl (isAgg9 _) hv13) (qq 8 (vi (v5.size:Int)) Kp8 (qq 9 (vb (decide (v4<(v5.size:Int)))) Kp9 (qq 10 (vb (decide (v4<(v5.size:Int)))) (jE (S8 (jA (jA jD)))) (qg 11 ?_))))
 obtain ⟨hg5,h⟩|⟨hg5,h⟩:=h.br
 refine sxQ (v:=(vp r1)) (jE (S8 (jA (jA (jA jD))))) (wy 36 hg5) rfl (by kernel_rfl) (qg 12 ?_)
 obtain ⟨a6,hp6,h⟩:=h
 refine sxQ (jE (S8 (S4 jD))) (wy 36 hg5) rfl (xn hp6) (qg 13 (sxQ (v:=(vp (some a6))) (jE (S8 (S4 (jA jD)))) (wy 36 hg5) rfl (by kernel_rfl) (qg 14 ?_)))
 obtain ⟨v6,hv12,h⟩:=h
 refine sxQ (jE (S8 (S4 (jA (jA jD))))) (wy 36 hg5) rfl (xl (isAgg9 _) hv12) (qg 15 (sxQ (v:=(vp r1)) (jE (S8 (S4 (jA (jA (jA jD)))))) (wy 36 hg5) rfl (by kernel_rfl) (qg 16 ?_)))
 obtain ⟨a7,hp7,h⟩:=h
 refine sxQ (jE (S8 (S8 jD))) (wy 36 hg5) rfl (xn hp7) (qg 17 (sxQ (v:=(vp (some (a7.add 1)))) (jE (S8 (S8 (jA jD)))) (wy 36 hg5) rfl (by kernel_rfl) (qg 18 ?_)))
 obtain ⟨v7,hv11,h⟩:=h
 refine sxQ (jE (S8 (S8 (jA (jA jD))))) (wy 36 hg5) rfl (xl (isAgg3 _) hv11) (qg 19 ?_)
 obtain ⟨e2,hv10,h⟩:=h
 refine sxQ (v:=(.int .u8 e2)) (jE (S8 (S8 (jA (jA (jA jD)))))) (wy 36 hg5) rfl (zO (by kernel_rfl) (by kernel_rfl) hv10) (qg 20 (sxQ (v:=(vb (decide (e2≥48)))) (jE (S8 (S8 (S4 jD)))) (wy 36 hg5) rfl (by kernel_rfl) (qr 21 (vb (decide (e2≥48))) (jE (S8 (S8 (S4 (jA jD))))) (xT hg5) (qq 22 (vb (decide (e2≥48))) (jE (S8 (S8 (S4 (jA (jA jD)))))) (qg 23 ?_)))))
 obtain ⟨hg6,h⟩|⟨hg6,h⟩:=h.br
 refine sxQ (v:=(vp r1)) (jE (S8 (S8 (S4 (jA (jA (jA jD))))))) (wy 48 hg6) rfl (by kernel_rfl) (qg 24 ?_)
 obtain ⟨a8,hp8,h⟩:=h
 refine sxQ (jE (S8 (S8 (S8 jD)))) (wy 48 hg6) rfl (xn hp8) (qg 25 (sxQ (v:=(vp (some a8))) (jE (S8 (S8 (S8 (jA jD))))) (wy 48 hg6) rfl (by kernel_rfl) (qg 26 ?_)))
 obtain ⟨v8,hv9,h⟩:=h
 refine sxQ (jE (S8 (S8 (S8 (jA (jA jD)))))) (wy 48 hg6) rfl (xl (isAgg9 _) hv9) (qg 27 (sxQ (v:=(vp r1)) (jE (S8 (S8 (S8 (jA (jA (jA jD))))))) (wy 48 hg6) rfl (by kernel_rfl) (qg 28 ?_)))
 obtain ⟨a9,hp9,h⟩:=h
 refine sxQ (jE (S8 (S8 (S8 (S4 jD))))) (wy 48 hg6) rfl (xn hp9) (qg 29 (sxQ (v:=(vp (some (a9.add 1)))) (jE (S8 (S8 (S8 (S4 (jA jD)))))) (wy 48 hg6) rfl (by kernel_rfl) (qg 30 ?_)))
 obtain ⟨v9,hv8,h⟩:=h
 refine sxQ (jE (S8 (S8 (S8 (S4 (jA (jA jD))))))) (wy 48 hg6) rfl (xl (isAgg3 _) hv8) (qg 31 ?_)
 obtain ⟨e3,hv7,h⟩:=h
 refine sxQ (v:=(.int .u8 e3)) (jE (S8 (S8 (S8 (S4 (jA (jA (jA jD)))))))) (wy 48 hg6) rfl (zO (by kernel_rfl) (by kernel_rfl) hv7) (qg 32 (sxQ (v:=(vb (decide (e3≤57)))) (jE (S8 (S8 (S8 (S8 jD))))) (wy 48 hg6) rfl (by kernel_rfl) (qr 33 (vb (decide (e3≤57))) (jE (S8 (S8 (S8 (S8 (jA jD)))))) (xT hg6) (wn (jM (cbr h ?_ ?_))))))<;>intro h
 refine jG (jM (jP (rg (q (qm h fun a10 h=>q (ql (isAgg3 _) h fun v10 h=>q (qm h fun a11 h=>q (st2 (sizeOf3 _) hs hb h fun w8 hs hb h=>jB (kY (jM ⟨(Hl1,w8),⟨rfl,hm,hs,hb,h.1⟩,h.2⟩))))))))))
 refine zQ (qI (qI (qH (jM ⟨Hl1,hm,hs,hb,h⟩))))
 refine qE (jE (S8 (S8 (S4 (jA (jA (jA jD))))))) (jH rfl (yD 48 hg6) rfl) (qn 24 (jE (S8 (S8 (S8 jD)))) (jH rfl (yD 48 hg6) rfl) (qn 25 (jE (S8 (S8 (S8 (jA jD))))) (jH rfl (yD 48 hg6) rfl) (qn 26 (jE (S8 (S8 (S8 (jA (jA jD)))))) (jH rfl (yD 48 hg6) rfl) (qn 27 (jE (S8 (S8 (S8 (jA (jA (jA jD))))))) (jH rfl (yD 48 hg6) rfl) (qn 28 (jE (S8 (S8 (S8 (S4 jD))))) (jH rfl (yD 48 hg6) rfl) (qn 29 (jE (S8 (S8 (S8 (S4 (jA jD)))))) (jH rfl (yD 48 hg6) rfl) (qn 30 (jE (S8 (S8 (S8 (S4 (jA (jA jD))))))) (jH rfl (yD 48 hg6) rfl) (qn 31 (jE (S8 (S8 (S8 (S4 (jA (jA (jA jD)))))))) (jH rfl (yD 48 hg6) rfl) (qn 32 (jE (S8 (S8 (S8 (S8 jD))))) (jH rfl (yD 48 hg6) rfl) (qr 33 (vb false) (jE (S8 (S8 (S8 (S8 (jA jD)))))) (xF hg6) (wn (jM (zT (by kernel_rfl) (zQ (qI (qI (qH (jM ⟨Hl1,hm,hs,hb,h⟩))))))))))))))))))
 refine qE (jE (S8 (jA (jA (jA jD))))) (jH rfl (yD 36 hg5) rfl) (qn 12 (jE (S8 (S4 jD))) (jH rfl (yD 36 hg5) rfl) (qn 13 (jE (S8 (S4 (jA jD)))) (jH rfl (yD 36 hg5) rfl) (qn 14 (jE (S8 (S4 (jA (jA jD))))) (jH rfl (yD 36 hg5) rfl) (qn 15 (jE (S8 (S4 (jA (jA (jA jD)))))) (jH rfl (yD 36 hg5) rfl) (qn 16 (jE (S8 (S8 jD))) (jH rfl (yD 36 hg5) rfl) (qn 17 (jE (S8 (S8 (jA jD)))) (jH rfl (yD 36 hg5) rfl) (qn 18 (jE (S8 (S8 (jA (jA jD))))) (jH rfl (yD 36 hg5) rfl) (qn 19 (jE (S8 (S8 (jA (jA (jA jD)))))) (jH rfl (yD 36 hg5) rfl) (qn 20 (jE (S8 (S8 (S4 jD)))) (jH rfl (yD 36 hg5) rfl) (qr 21 (vb false) (jE (S8 (S8 (S4 (jA jD))))) (xF hg5) (qq 22 (vb false) (jE (S8 (S8 (S4 (jA (jA jD)))))) (qn 23 (jE (S8 (S8 (S4 (jA (jA (jA jD))))))) (jH rfl (yD (c:=false) 48 rfl) rfl) (qn 24 (jE (S8 (S8 (S8 jD)))) (jH rfl (yD (c:=false) 48 rfl) rfl) (qn 25 (jE (S8 (S8 (S8 (jA jD))))) (jH rfl (yD (c:=false) 48 rfl) rfl) (qn 26 (jE (S8 (S8 (S8 (jA (jA jD)))))) (jH rfl (yD (c:=false) 48 rfl) rfl) (qn 27 (jE (S8 (S8 (S8 (jA (jA (jA jD))))))) (jH rfl (yD (c:=false) 48 rfl) rfl) (qn 28 (jE (S8 (S8 (S8 (S4 jD))))) (jH rfl (yD (c:=false) 48 rfl) rfl) (qn 29 (jE (S8 (S8 (S8 (S4 (jA jD)))))) (jH rfl (yD (c:=false) 48 rfl) rfl) (qn 30 (jE (S8 (S8 (S8 (S4 (jA (jA jD))))))) (jH rfl (yD (c:=false) 48 rfl) rfl) (qn 31 (jE (S8 (S8 (S8 (S4 (jA (jA (jA jD)))))))) (jH rfl (yD (c:=false) 48 rfl) rfl) (qn 32 (jE (S8 (S8 (S8 (S8 jD))))) (jH rfl (yD (c:=false) 48 rfl) rfl) (qq 33 (vb false) (jE (S8 (S8 (S8 (S8 (jA jD)))))) (wn ?_)))))))))))))))))))))))
 refine jM (zT (by kernel_rfl) (zQ (qI (qI (qH (jM ⟨Hl1,hm,hs,hb,h⟩))))))
 refine cbr h ?_ ?_<;>intro h
 refine jI (by kernel_rfl) (jJ 5 (q0 (vp r1) (q0 (vp r1) (qm h fun a12 h=>q ?_))))
 have ⟨h,hs⟩:=hs.hr (h H1 w2)
 refine ql (isAgg3 _) h fun v11 h=>jB (jW (jF rfl) (by intro c hc;cases hc) (xc call24) (h.mono (fun e w9 hh=>hh.elim ?_ (by rintro ⟨ch,rfl,h⟩;exact .inr ⟨ch,rfl,fun ρ'=>.inr ⟨ch,rfl,h⟩⟩))))
 rintro ⟨rfl,hk,h⟩
 refine .inl ⟨_,rfl,?_⟩
 obtain ⟨hs,hb⟩:=hk.hh hs hb
 refine zS (jM ⟨H1,hm,hs,hb,h⟩)
 refine jG ?_
 have ⟨h,hs⟩:=hs.hr (h H1 w2)
 refine jM ⟨H1,hm,hs,hb,h⟩
def m_N1 (r1:Option Addr) (not1:Int) (w0:World) (K:Option (List PanicEntry)→Int→WP):Prop :=∃a1,r1=some a1∧∃v1,w0.cell? (a1.add 1)=some (vi v1)∧Calls prog 38 #[(vp r1)] w0 (fun e w1=>(∃r2,e=.returned (vu r2)∧Br ((decide (r2≥16)) || (((q6.wrap r2):Int) == not1)) (Calls prog 24 #[(vp r1),(vi 50),(vi v1)] w1 (fun e w3=>(e=.returned (.tuple #[])∧K none (q6.wrap r2) w3)∨∃ch,e=.panicked ch∧K (some ch) 0 w3)) (K none (q6.wrap r2) w1))∨∃ch,e=.panicked ch∧K (some ch) 0 w1)
theorem w_N1 (r1 not1 w0 K) (h:m_N1 r1 not1 w0 K):
  Calls prog 37 #[(vp r1),(vi not1)] w0 (fun e w'=>(∃r3,e=.returned (vi r3)∧K none r3 w')∨∃ch,e=.panicked ch∧K (some ch) 0 w'):=by
 refine zM (args:=[(vp r1),(vi not1)]) func37 rfl ntmps37 (Nat.le_of_ble_eq_true rfl) (eg (q0 (vi 0) (ln (eg (q0 (vp r1) (qm h fun a1 h=>q (ql (isAgg3 _) h fun v1 h=>q (ln (jC (jI (by kernel_rfl) (jJ 1 (q0 (vp r1) (jB (jW (jF rfl) (by intro c hc;cases hc) (xc call38) (h.mono (fun e w1 hh=>hh.elim ?_ (by rintro ⟨ch,rfl,h⟩;exact .inr ⟨ch,rfl,fun ρ'=>.inr ⟨ch,rfl,h⟩⟩)))))))))))))))))
 rintro ⟨r2,rfl,h⟩
 refine .inl ⟨_,rfl,?_⟩
 refine zA (q0 (vu r2) (ln (jC (jC (zW (fun ρ wJ=>∃b1'0:Bool,((decide (r2≥16))=b1'0)∧w1=wJ∧Has ρ [(0,(vp r1)),(5,(vi v1)),(6,(vu r2)),(20,(vb (b1'0 || (((q6.wrap r2):Int) == not1))))]) ?_ ?_)))))
 refine rg (qc ?_)
 rcases bte (decide (r2≥16)) with hg2 | hg2
 refine sj4 15 hg2 (q2 (vb true) (xT hg2) (ln ⟨true,hg2,rfl,hm⟩))
 refine qk 15 hg2 (qk 15 hg2 (qk 15 hg2 (qk 15 hg2 (q2 (vb (((q6.wrap r2):Int) == not1)) (xF hg2) (ln ⟨false,hg2,rfl,hm⟩)))))
 rintro ρ w2 ⟨b1'0,he0,hw,hH⟩
 subst he0
 subst hw
 refine zL hH (jM (cbr h ?_ ?_))<;>intro h
 refine jI (by kernel_rfl) (jJ 2 (q0 (vp r1) (q0 (vi v1) (jB (jW (jF rfl) (by intro c hc;cases hc) (xc call24) (h.mono (fun e w3 hh=>hh.elim ?_ (by rintro ⟨ch,rfl,h⟩;exact .inr ⟨ch,rfl,fun ρ'=>.inr ⟨ch,rfl,h⟩⟩))))))))
 rintro ⟨rfl,h⟩
 refine .inl ⟨_,rfl,?_⟩
 refine zS (jM (eg (q0 (vu r2) (q0 (vi (q6.wrap r2)) (q0 (vi (q6.wrap r2)) (ln (er (ep (rs1 results37 (v:=(vi (q6.wrap r2))) ?_)))))))))
 exact .inl ⟨(q6.wrap r2),rfl,h⟩
 refine jG (jM (eg (qc (ln (er (ep (rs1 results37 (v:=(vi (q6.wrap r2))) ?_)))))))
 exact .inl ⟨(q6.wrap r2),rfl,h⟩
def m_O1 (r1:Option Addr) (c1:Int) (w0:World) (K:Option (List PanicEntry)→WP):Prop :=Calls prog 36 #[(vp r1)] w0 (fun e w1=>(∃r2:Int,e=.returned (.int .u8 r2)∧Br (r2 != c1) (∃a1,r1=some a1∧∃v1,w1.cell? (a1.add 1)=some (vi v1)∧Calls prog 24 #[(vp r1),(vi 60),(vi v1)] w1 (fun e w2=>(e=.returned (.tuple #[])∧∃a2,r1=some a2∧∃v2,w2.cell? (a2.add 1)=some (vi v2)∧∃a3,r1=some a3∧kD w2 (a3.add 1)∧∀w3,w3=w2.setCell (a3.add 1) (vi (q6.wrap (v2+1)))→K none w3)∨∃ch,e=.panicked ch∧K (some ch)  w2)) (∃a4,r1=some a4∧∃v3,w1.cell? (a4.add 1)=some (vi v3)∧∃a5,r1=some a5∧kD w1 (a5.add 1)∧∀w4,w4=w1.setCell (a5.add 1) (vi (q6.wrap (v3+1)))→K none w4))∨∃ch,e=.panicked ch∧K (some ch)  w1)
theorem w_O1 (r1 c1 w0 K) (h:m_O1 r1 c1 w0 K):
  Calls prog 40 #[(vp r1),(.int .u8 c1)] w0 (fun e w'=>(e=.returned (.tuple #[])∧K none  w')∨∃ch,e=.panicked ch∧K (some ch)  w'):=by
 refine zM (args:=[(vp r1),(.int .u8 c1)]) func40 rfl ntmps40 (Nat.le_of_ble_eq_true rfl) (jC (jC (jI (by kernel_rfl) (jJ 1 (q0 (vp r1) (jB (jW (jF rfl) (by intro c hc;cases hc) (xc call36) (h.mono (fun e w1 hh=>hh.elim ?_ (by rintro ⟨ch,rfl,h⟩;exact .inr ⟨ch,rfl,fun ρ'=>.inr ⟨ch,rfl,h⟩⟩))))))))))
 rintro ⟨r2,rfl,h⟩
 refine .inl ⟨_,rfl,?_⟩
 refine zA (q0 (.int .u8 c1) (q0 (vb (r2 != c1)) (ln (cbr h ?_ ?_))))<;>intro h
 refine jI (by kernel_rfl) (jJ 5 (q0 (vp r1) (q0 (vp r1) (qm h fun a1 h=>q (ql (isAgg3 _) h fun v1 h=>jB (jW (jF rfl) (by intro c hc;cases hc) (xc call24) (h.mono (fun e w2 hh=>hh.elim ?_ (by rintro ⟨ch,rfl,h⟩;exact .inr ⟨ch,rfl,fun ρ'=>.inr ⟨ch,rfl,h⟩⟩)))))))))
 rintro ⟨rfl,h⟩
 refine .inl ⟨_,rfl,?_⟩
 refine zS (jM (rg (q0 (vp r1) (qm h fun a2 h=>q (ql (isAgg3 _) h fun v2 h=>q (qm h fun a3 h=>q (st1 (sizeOf3 _) h fun w3 h=>jB (ep (jAF (.inr rfl) results40 ?_)))))))))
 exact .inl ⟨rfl,h⟩
 refine jG (jM (rg (q (qm h fun a4 h=>q (ql (isAgg3 _) h fun v3 h=>q (qm h fun a5 h=>q (st1 (sizeOf3 _) h fun w4 h=>jB (ep (jAF (.inr rfl) results40 ?_)))))))))
 exact .inl ⟨rfl,h⟩
def m_P1 (r1:Option Addr) (w0:World) (K:Option (List PanicEntry)→Int→WP):Prop :=Calls prog 36 #[(vp r1)] w0 (fun e w1=>(∃r2:Int,e=.returned (.int .u8 r2)∧Br ((decide (r2≥48)) && (decide (r2≤57))) (∃a1,r1=some a1∧∃v1,w1.cell? (a1.add 1)=some (vi v1)∧∃a2,r1=some a2∧kD w1 (a2.add 1)∧∀w5,w5=w1.setCell (a2.add 1) (vi (q6.wrap (v1+1)))→K none (IntKind.u8.wrap (r2 - 48)) w5) (Br ((decide (r2≥97)) && (decide (r2≤102))) (∃a3,r1=some a3∧∃v2,w1.cell? (a3.add 1)=some (vi v2)∧∃a4,r1=some a4∧kD w1 (a4.add 1)∧∀w9,w9=w1.setCell (a4.add 1) (vi (q6.wrap (v2+1)))→K none (IntKind.u8.wrap (r2 - 87)) w9) (Br ((decide (r2≥65)) && (decide (r2≤70))) (∃a5,r1=some a5∧∃v3,w1.cell? (a5.add 1)=some (vi v3)∧∃a6,r1=some a6∧kD w1 (a6.add 1)∧∀w13,w13=w1.setCell (a6.add 1) (vi (q6.wrap (v3+1)))→K none (IntKind.u8.wrap (r2 - 55)) w13) (∃a7,r1=some a7∧∃v4,w1.cell? (a7.add 1)=some (vi v4)∧Calls prog 24 #[(vp r1),(vi 60),(vi v4)] w1 (fun e w14=>(e=.returned (.tuple #[])∧∃a8,r1=some a8∧∃v5,w14.cell? (a8.add 1)=some (vi v5)∧∃a9,r1=some a9∧kD w14 (a9.add 1)∧∀w15,w15=w14.setCell (a9.add 1) (vi (q6.wrap (v5+1)))→K none r2 w15)∨∃ch,e=.panicked ch∧K (some ch) 0 w14)))))∨∃ch,e=.panicked ch∧K (some ch) 0 w1)
theorem w_P1 (r1 w0 K) (h:m_P1 r1 w0 K):
  Calls prog 55 #[(vp r1)] w0 (fun e w'=>(∃r3:Int,e=.returned (.int .u8 r3)∧K none r3 w')∨∃ch,e=.panicked ch∧K (some ch) 0 w'):=by
 refine zM (args:=[(vp r1)]) func55 rfl ntmps55 (Nat.le_of_ble_eq_true rfl) (eg (q0 (.int .u8 0) (ln (jC (jI (by kernel_rfl) (jJ 1 (q0 (vp r1) (jB (jW (jF rfl) (by intro c hc;cases hc) (xc call36) (h.mono (fun e w1 hh=>hh.elim ?_ (by rintro ⟨ch,rfl,h⟩;exact .inr ⟨ch,rfl,fun ρ'=>.inr ⟨ch,rfl,h⟩⟩))))))))))))
 rintro ⟨r2,rfl,h⟩
 refine .inl ⟨_,rfl,?_⟩
 refine zA (q0 (.int .u8 r2) (ln (jC (jP (jC (zW (fun ρ wJ=>w1=wJ∧Has ρ [(0,(vp r1)),(3,(.int .u8 r2)),(12,(vb ((decide (r2≥48)) && (decide (r2≤57)))))]) ?_ ?_))))))
 refine rg (qc (jN 3 (fun ρ wJ=>∃b3'0:Bool,((decide (r2≥48))=b3'0)∧w1=wJ∧Has ρ [(0,(vp r1)),(3,(.int .u8 r2)),(18,(vb (b3'0 && (decide (r2≤57)))))]) ?_ ?_))
 rintro ρ w4 ⟨b3'0,he0,hw,hH⟩
 subst he0
 subst hw
 refine jU hH (q (ln ⟨rfl,hm⟩))
 rcases bte (decide (r2≥48)) with hg4 | hg4
 refine qk 15 hg4 (qk 15 hg4 (q2 (vb (decide (r2≤57))) (xT hg4) (jB ⟨true,hg4,rfl,hm⟩)))
 refine sj2 15 hg4 (q2 (vb false) (xF hg4) (jB ⟨false,hg4,rfl,hm⟩))
 rintro ρ w3 ⟨hw,hH⟩
 subst hw
 refine zL hH (jM (cbr h ?_ ?_))<;>intro h
 refine rg (qc (jB (kY (jM (eg (q (qm h fun a1 h=>q (ql (isAgg3 _) h fun v1 h=>q (qm h fun a2 h=>q (st1 (sizeOf3 _) h fun w5 h=>ln (eg (qb (ln (er (ep (rs1 results55 (v:=(.int .u8 (IntKind.u8.wrap (r2 - 48)))) ?_))))))))))))))))
 exact .inl ⟨(IntKind.u8.wrap (r2 - 48)),rfl,h⟩
 refine jC (zW (fun ρ wJ=>w1=wJ∧Has ρ [(0,(vp r1)),(3,(.int .u8 r2)),(21,(vb ((decide (r2≥97)) && (decide (r2≤102)))))]) ?_ ?_)
 refine rg (qc (jN 3 (fun ρ wJ=>∃b6'0:Bool,((decide (r2≥97))=b6'0)∧w1=wJ∧Has ρ [(0,(vp r1)),(3,(.int .u8 r2)),(27,(vb (b6'0 && (decide (r2≤102)))))]) ?_ ?_))
 rintro ρ w8 ⟨b6'0,he0,hw,hH⟩
 subst he0
 subst hw
 refine jU hH (q (ln ⟨rfl,hm⟩))
 rcases bte (decide (r2≥97)) with hg8 | hg8
 refine qk 24 hg8 (qk 24 hg8 (q2 (vb (decide (r2≤102))) (xT hg8) (jB ⟨true,hg8,rfl,hm⟩)))
 refine sj2 24 hg8 (q2 (vb false) (xF hg8) (jB ⟨false,hg8,rfl,hm⟩))
 rintro ρ w7 ⟨hw,hH⟩
 subst hw
 refine zL hH (jM (cbr h ?_ ?_))<;>intro h
 refine rg (qc (jB (kY (jM (eg (q (qm h fun a3 h=>q (ql (isAgg3 _) h fun v2 h=>q (qm h fun a4 h=>q (st1 (sizeOf3 _) h fun w9 h=>ln (eg (qb (ln (er (ep (rs1 results55 (v:=(.int .u8 (IntKind.u8.wrap (r2 - 87)))) ?_))))))))))))))))
 exact .inl ⟨(IntKind.u8.wrap (r2 - 87)),rfl,h⟩
 refine jC (zW (fun ρ wJ=>w1=wJ∧Has ρ [(0,(vp r1)),(3,(.int .u8 r2)),(30,(vb ((decide (r2≥65)) && (decide (r2≤70)))))]) ?_ ?_)
 refine rg (qc (jN 3 (fun ρ wJ=>∃b9'0:Bool,((decide (r2≥65))=b9'0)∧w1=wJ∧Has ρ [(0,(vp r1)),(3,(.int .u8 r2)),(36,(vb (b9'0 && (decide (r2≤70)))))]) ?_ ?_))
 rintro ρ w12 ⟨b9'0,he0,hw,hH⟩
 subst he0
 subst hw
 refine jU hH (q (ln ⟨rfl,hm⟩))
 rcases bte (decide (r2≥65)) with hg12 | hg12
 refine qk 33 hg12 (qk 33 hg12 (q2 (vb (decide (r2≤70))) (xT hg12) (jB ⟨true,hg12,rfl,hm⟩)))
 refine sj2 33 hg12 (q2 (vb false) (xF hg12) (jB ⟨false,hg12,rfl,hm⟩))
 rintro ρ w11 ⟨hw,hH⟩
 subst hw
 refine zL hH (jM (cbr h ?_ ?_))<;>intro h
 refine rg (qc (jB (kY (jM (eg (q (qm h fun a5 h=>q (ql (isAgg3 _) h fun v3 h=>q (qm h fun a6 h=>q (st1 (sizeOf3 _) h fun w13 h=>ln (eg (qb (ln (er (ep (rs1 results55 (v:=(.int .u8 (IntKind.u8.wrap (r2 - 55)))) ?_))))))))))))))))
 exact .inl ⟨(IntKind.u8.wrap (r2 - 55)),rfl,h⟩
 refine jI (by kernel_rfl) (jJ 5 (q0 (vp r1) (q0 (vp r1) (qm h fun a7 h=>q (ql (isAgg3 _) h fun v4 h=>jB (jW (jF rfl) (by intro c hc;cases hc) (xc call24) (h.mono (fun e w14 hh=>hh.elim ?_ (by rintro ⟨ch,rfl,h⟩;exact .inr ⟨ch,rfl,fun ρ'=>.inr ⟨ch,rfl,h⟩⟩)))))))))
 rintro ⟨rfl,h⟩
 refine .inl ⟨_,rfl,?_⟩
 refine zS (kY (jM (eg (q0 (vp r1) (qm h fun a8 h=>q (ql (isAgg3 _) h fun v5 h=>q (qm h fun a9 h=>q (st1 (sizeOf3 _) h fun w15 h=>ln (eg (qb (ln (er (ep (rs1 results55 (v:=(.int .u8 r2)) ?_))))))))))))))
 exact .inl ⟨r2,rfl,h⟩
def m_H_j3 (r1:Option Addr) (b1:Sl) (r3:Int) (w:World) (Kc1:Sl→WP) (K:Option (List PanicEntry)→ByteArray→WP):Prop :=∃a4,r1=some a4∧∃v3,w.cell? (a4.add 1)=some (vi v3)∧∃a5,r1=some a5∧kD w (a5.add 1)∧∀w10,w10=w.setCell (a5.add 1) (vi (q6.wrap (v3+1)))→Br (r3 == 120) (Calls prog 55 #[(vp r1)] w10 (fun e w11=>(∃r4:Int,e=.returned (.int .u8 r4)∧∃z1:Int,(Go.binOp .shl 5 (.int .u8 r4) (vu 4)).run prog w11=.ok (.int .u8 z1) w11∧Calls prog 55 #[(vp r1)] w11 (fun e w12=>(∃r5:Int,e=.returned (.int .u8 r5)∧∃z2:Int,(Go.binOp .or 5 (.int .u8 z1) (.int .u8 r5)).run prog w12=.ok (.int .u8 z2) w12∧∀p1 w13,New w12 (.cells #[(.int .u8 z2)] 5) p1 w13→∃s1:Sl,∃w14:World,(Builtin.append_ #[49,49] 49 #[b1.v,(Sl.mk (some p1) 1 1).v]).run prog w13=.ok s1.v w14∧Kc1 s1 w14)∨∃ch,e=.panicked ch∧K (some ch) ⟨#[]⟩ w12))∨∃ch,e=.panicked ch∧K (some ch) ⟨#[]⟩ w11)) (∀p2 w15,New w10 (.cells #[(.int .u8 r3)] 5) p2 w15→∃s2:Sl,∃w16:World,(Builtin.append_ #[49,49] 49 #[b1.v,(Sl.mk (some p2) 1 1).v]).run prog w15=.ok s2.v w16∧Kc1 s2 w16)
def m_H_j2 (r1:Option Addr) (v1:Int) (b1:Sl) (r2:Int) (w:World) (Kc1:Sl→WP) (K:Option (List PanicEntry)→ByteArray→WP):Prop :=∃a2,r1=some a2∧∃v2,w.cell? (a2.add 1)=some (vi v2)∧∃a3,r1=some a3∧kD w (a3.add 1)∧∀w4,w4=w.setCell (a3.add 1) (vi (q6.wrap (v2+1)))→Br (r2 == 34) (Br (decide ((b1.len:Int)>64)) (Calls prog 24 #[(vp r1),(vi 1),(vi v1)] w4 (fun e w5=>(e=.returned (.tuple #[])∧∃c1,(convert 49 9 b1.v).run prog w5=.ok (vs c1) w5∧K none c1 w5)∨∃ch,e=.panicked ch∧K (some ch) ⟨#[]⟩ w5)) (∃c2,(convert 49 9 b1.v).run prog w4=.ok (vs c2) w4∧K none c2 w4)) (Br (r2 == 92) (Calls prog 36 #[(vp r1)] w4 (fun e w6=>(∃r3:Int,e=.returned (.int .u8 r3)∧Br (((r3 != 34) && (r3 != 92)) && (r3 != 120)) (∃a6,r1=some a6∧∃v4,w6.cell? (a6.add 1)=some (vi v4)∧Calls prog 24 #[(vp r1),(vi 60),(vi v4)] w6 (fun e w17=>(e=.returned (.tuple #[])∧m_H_j3 r1 b1 r3 w17 Kc1 K)∨∃ch,e=.panicked ch∧K (some ch) ⟨#[]⟩ w17)) (m_H_j3 r1 b1 r3 w6 Kc1 K))∨∃ch,e=.panicked ch∧K (some ch) ⟨#[]⟩ w6)) (∀p3 w18,New w4 (.cells #[(.int .u8 r2)] 5) p3 w18→∃s3:Sl,∃w19:World,(Builtin.append_ #[49,49] 49 #[b1.v,(Sl.mk (some p3) 1 1).v]).run prog w18=.ok s3.v w19∧Kc1 s3 w19))
def m_H_l1 (r1:Option Addr) (v1:Int) (b1:Sl) (wl1:World) (Kc1:Sl→WP) (K:Option (List PanicEntry)→ByteArray→WP):Prop :=Calls prog 36 #[(vp r1)] wl1 (fun e w2=>(∃r2:Int,e=.returned (.int .u8 r2)∧Br ((decide (r2<32)) || (decide (r2>126))) (∃a7,r1=some a7∧∃v5,w2.cell? (a7.add 1)=some (vi v5)∧Calls prog 24 #[(vp r1),(vi 60),(vi v5)] w2 (fun e w20=>(e=.returned (.tuple #[])∧m_H_j2 r1 v1 b1 r2 w20 Kc1 K)∨∃ch,e=.panicked ch∧K (some ch) ⟨#[]⟩ w20)) (m_H_j2 r1 v1 b1 r2 w2 Kc1 K))∨∃ch,e=.panicked ch∧K (some ch) ⟨#[]⟩ w2)
def m_H (r1:Option Addr) (w0:World) (K:Option (List PanicEntry)→ByteArray→WP):Prop :=∃a1,r1=some a1∧∃v1,w0.cell? (a1.add 1)=some (vi v1)∧Calls prog 40 #[(vp r1),(.int .u8 34)] w0 (fun e w1=>(e=.returned (.tuple #[])∧∃(I1:Sl→WP) (mu1:Sl→World→Nat),I1 Sl.nil w1∧∀(b1:Sl) (wl1:World),I1 b1 wl1→m_H_l1 r1 v1 b1 wl1 (fun y'0 w'=>I1 y'0 w'∧mu1 y'0 w'<mu1 b1 wl1) K)∨∃ch,e=.panicked ch∧K (some ch) ⟨#[]⟩ w1)
theorem w_H (r1 w0 K) (h:m_H r1 w0 K):
  Calls prog 39 #[(vp r1)] w0 (fun e w'=>(∃r6,e=.returned (vs r6)∧K none r6 w')∨∃ch,e=.panicked ch∧K (some ch) ⟨#[]⟩ w'):=by
 refine zM (args:=[(vp r1)]) func39 rfl ntmps39 (Nat.le_of_ble_eq_true rfl) (eg (q0 ve (ln (eg (q0 (vp r1) (qm h fun a1 h=>q (ql (isAgg3 _) h fun v1 h=>q (ln (jC (jI (by kernel_rfl) (jJ 1 (q0 (vp r1) (jB (jW (jF rfl) (by intro c hc;cases hc) (xc call40) (h.mono (fun e w1 hh=>hh.elim ?_ (by rintro ⟨ch,rfl,h⟩;exact .inr ⟨ch,rfl,fun ρ'=>.inr ⟨ch,rfl,h⟩⟩)))))))))))))))))
 rintro ⟨rfl,h⟩
 refine .inl ⟨_,rfl,?_⟩
 refine zS (jM (eg (q0 Sl.nil.v (ln (jC (jP ?_))))))
 obtain ⟨I1,mu1,h0,hr⟩:=h
 refine kN (σ:=Sl×World) (fun s ρ w=>w=s.2∧Has ρ [(0,(vp r1)),(3,(vi v1)),(4,s.1.v)]∧I1 s.1 s.2) (fun s=>mu1 s.1 s.2) (Sl.nil,w1) ⟨rfl,hm,h0⟩ ?_
 rintro ⟨b1,wl1⟩ ρ w ⟨hw,hH,hI⟩
 dsimp only at hw hH;subst w
 have h:=hr b1 wl1 hI
 refine jZ hH (jP (jC (jI (by kernel_rfl) (jJ 1 (q0 (vp r1) (jB (jW (jF rfl) (by intro c hc;cases hc) (xc call36) (h.mono (fun e w2 hh=>hh.elim ?_ (by rintro ⟨ch,rfl,h⟩;exact .inr ⟨ch,rfl,fun ρ'=>.inr ⟨ch,rfl,h⟩⟩))))))))))
 rintro ⟨r2,rfl,h⟩
 refine .inl ⟨_,rfl,?_⟩
 refine zA (q0 (.int .u8 r2) (ln (jC (jC (zW (fun ρ wJ=>∃b2'0:Bool,((decide (r2<32))=b2'0)∧w2=wJ∧Has ρ [(0,(vp r1)),(3,(vi v1)),(4,b1.v),(5,(.int .u8 r2)),(19,(vb (b2'0 || (decide (r2>126)))))]) ?_ ?_)))))
 refine rg (qc ?_)
 rcases bte (decide (r2<32)) with hg2 | hg2
 refine sj2 16 hg2 (q2 (vb true) (xT hg2) (ln ⟨true,hg2,rfl,hm⟩))
 refine qk 16 hg2 (qk 16 hg2 (q2 (vb (decide (r2>126))) (xF hg2) (ln ⟨false,hg2,rfl,hm⟩)))
 rintro ρ w3 ⟨b2'0,he0,hw,hH⟩
 subst he0
 subst hw
 refine zL hH (jM (zJ (fun ρ w=>Has ρ [(0,(vp r1)),(3,(vi v1)),(4,b1.v),(5,(.int .u8 r2))]∧m_H_j2 r1 v1 b1 r2 w (fun y'0 w'=>I1 y'0 w'∧mu1 y'0 w'<mu1 b1 wl1) K) ?_ ?_))
 rintro ρ w ⟨hH,h⟩
 refine jZ hH (eg (q (qm h fun a2 h=>q (ql (isAgg3 _) h fun v2 h=>q (qm h fun a3 h=>q (st1 (sizeOf3 _) h fun w4 h=>ln (jC (eg (qb (ln (cbr h ?_ ?_)))))))))))<;>intro h
 refine zQ (qI (bl_ne rfl (qI (qH (jM (jC (eg (q0 b1.v (q0 (vi (b1.len:Int)) (q0 (vb (decide ((b1.len:Int)>64))) (ln (cbr h ?_ ?_))))))))))))<;>intro h
 refine jI (by kernel_rfl) (jJ 2 (q0 (vp r1) (q0 (vi v1) (jB (jW (jF rfl) (by intro c hc;cases hc) (xc call24) (h.mono (fun e w5 hh=>hh.elim ?_ (by rintro ⟨ch,rfl,h⟩;exact .inr ⟨ch,rfl,fun ρ'=>.inr ⟨ch,rfl,h⟩⟩))))))))
 rintro ⟨rfl,h⟩
 refine .inl ⟨_,rfl,?_⟩
 refine zS (jM (eg (q0 b1.v ?_)))
 obtain ⟨c1,hv1,h⟩:=h
 refine q2 (vs c1) (vF (by kernel_rfl) hv1) (q (ln (er (ep (rs1 results39 (v:=(vs c1)) ?_)))))
 exact .inl ⟨c1,rfl,h⟩
 refine jG (jM (eg (q ?_)))
 obtain ⟨c2,hv2,h⟩:=h
 refine q2 (vs c2) (vF (by kernel_rfl) hv2) (q (ln (er (ep (rs1 results39 (v:=(vs c2)) ?_)))))
 exact .inl ⟨c2,rfl,h⟩
 refine jG (jM (jC (eg (qb (ln (cbr h ?_ ?_))))))<;>intro h
 refine jC (jI (by kernel_rfl) (jJ 1 (q0 (vp r1) (jB (jW (jF rfl) (by intro c hc;cases hc) (xc call36) (h.mono (fun e w6 hh=>hh.elim ?_ (by rintro ⟨ch,rfl,h⟩;exact .inr ⟨ch,rfl,fun ρ'=>.inr ⟨ch,rfl,h⟩⟩))))))))
 rintro ⟨r3,rfl,h⟩
 refine .inl ⟨_,rfl,?_⟩
 refine zA (q0 (.int .u8 r3) (ln (jC (jC (zW (fun ρ wJ=>∃b4'0:Bool,(((r3 != 34) && (r3 != 92))=b4'0)∧w6=wJ∧Has ρ [(0,(vp r1)),(3,(vi v1)),(4,b1.v),(5,(.int .u8 r3)),(48,(vb (b4'0 && (r3 != 120))))]) ?_ ?_)))))
 refine rg (qc (jN 3 (fun ρ wJ=>∃b5'0:Bool,((r3 != 34)=b5'0)∧w6=wJ∧Has ρ [(0,(vp r1)),(3,(vi v1)),(4,b1.v),(5,(.int .u8 r3)),(44,(vb (b5'0 && (r3 != 92))))]) ?_ ?_))
 rintro ρ w9 ⟨b5'0,he0,hw,hH⟩
 subst he0
 subst hw
 refine jU hH (q ?_)
 rcases bte ((r3 != 34) && (r3 != 92)) with hg8 | hg8
 refine qk 45 hg8 (qk 45 hg8 (q2 (vb (r3 != 120)) (xT hg8) (ln ⟨true,hg8,rfl,hm⟩)))
 refine sj2 45 hg8 (q2 (vb false) (xF hg8) (ln ⟨false,hg8,rfl,hm⟩))
 rcases bte (r3 != 34) with hg7 | hg7
 refine qk 41 hg7 (qk 41 hg7 (q2 (vb (r3 != 92)) (xT hg7) (jB ⟨true,hg7,rfl,hm⟩)))
 refine sj2 41 hg7 (q2 (vb false) (xF hg7) (jB ⟨false,hg7,rfl,hm⟩))
 rintro ρ w8 ⟨b4'0,he0,hw,hH⟩
 subst he0
 subst hw
 refine zL hH (jM (zJ (fun ρ w=>Has ρ [(0,(vp r1)),(3,(vi v1)),(4,b1.v),(5,(.int .u8 r3))]∧m_H_j3 r1 b1 r3 w (fun y'0 w'=>I1 y'0 w'∧mu1 y'0 w'<mu1 b1 wl1) K) ?_ ?_))
 rintro ρ w ⟨hH,h⟩
 refine jZ hH (eg (q (qm h fun a4 h=>q (ql (isAgg3 _) h fun v3 h=>q (qm h fun a5 h=>q (st1 (sizeOf3 _) h fun w10 h=>ln (eg (qb (ln (cbr h ?_ ?_))))))))))<;>intro h
 refine jC (jI (by kernel_rfl) (jJ 1 (q0 (vp r1) (jB (jW (jF rfl) (by intro c hc;cases hc) (xc call55) (h.mono (fun e w11 hh=>hh.elim ?_ (by rintro ⟨ch,rfl,h⟩;exact .inr ⟨ch,rfl,fun ρ'=>.inr ⟨ch,rfl,h⟩⟩))))))))
 rintro ⟨r4,rfl,h⟩
 refine .inl ⟨_,rfl,?_⟩
 refine zA (q0 (.int .u8 r4) (ln (jI (by kernel_rfl) (jJ 3 (q0 (.int .u8 r4) ?_)))))
 obtain ⟨z1,hv5,h⟩:=h
 refine q2 (.int .u8 z1) (jBT (by kernel_rfl) (by kernel_rfl) (by kernel_rfl) hv5) (q (jB (jW (jF rfl) (by intro c hc;cases hc) (xc call55) (h.mono (fun e w12 hh=>hh.elim ?_ (by rintro ⟨ch,rfl,h⟩;exact .inr ⟨ch,rfl,fun ρ'=>.inr ⟨ch,rfl,h⟩⟩))))))
 rintro ⟨r5,rfl,h⟩
 refine .inl ⟨_,rfl,?_⟩
 refine zA ?_
 obtain ⟨z2,hv4,h⟩:=h
 refine q2 (.int .u8 z2) (jBT (by kernel_rfl) (by kernel_rfl) (by kernel_rfl) hv4) (q (ln (rg (qb (nw4 (fun p=>(Sl.mk (some p) 1 1).v) h fun p1 w13 h=>?_)))))
 obtain ⟨s1,w14,hv3,h⟩:=h
 refine st (v:=s1.v) (jF rfl) (jO (args:=#[b1.v,(Sl.mk (some p1) 1 1).v]) (by kernel_rfl) (fun _=>rfl) hv3) (q0 s1.v (jB (kY (jM ⟨(s1,w14),⟨rfl,hm,h.1⟩,h.2⟩))))
 refine jG (jM (rg (qb (nw4 (fun p=>(Sl.mk (some p) 1 1).v) h fun p2 w15 h=>?_))))
 obtain ⟨s2,w16,hv6,h⟩:=h
 refine st (v:=s2.v) (jF rfl) (jO (args:=#[b1.v,(Sl.mk (some p2) 1 1).v]) (by kernel_rfl) (fun _=>rfl) hv6) (q0 s2.v (jB (kY (jM ⟨(s2,w16),⟨rfl,hm,h.1⟩,h.2⟩))))
 refine cbr h ?_ ?_<;>intro h
 refine jI (by kernel_rfl) (jJ 5 (q0 (vp r1) (q0 (vp r1) (qm h fun a6 h=>q (ql (isAgg3 _) h fun v4 h=>jB (jW (jF rfl) (by intro c hc;cases hc) (xc call24) (h.mono (fun e w17 hh=>hh.elim ?_ (by rintro ⟨ch,rfl,h⟩;exact .inr ⟨ch,rfl,fun ρ'=>.inr ⟨ch,rfl,h⟩⟩)))))))))
 rintro ⟨rfl,h⟩
 refine .inl ⟨_,rfl,?_⟩
 refine zS (jM ⟨hm,h⟩)
 refine jG (jM ⟨hm,h⟩)
 refine jG (jM (rg (qb (nw4 (fun p=>(Sl.mk (some p) 1 1).v) h fun p3 w18 h=>?_))))
 obtain ⟨s3,w19,hv9,h⟩:=h
 refine st (v:=s3.v) (jF rfl) (jO (args:=#[b1.v,(Sl.mk (some p3) 1 1).v]) (by kernel_rfl) (fun _=>rfl) hv9) (q0 s3.v (jB (kY (jM ⟨(s3,w19),⟨rfl,hm,h.1⟩,h.2⟩))))
 refine cbr h ?_ ?_<;>intro h
 refine jI (by kernel_rfl) (jJ 5 (q0 (vp r1) (q0 (vp r1) (qm h fun a7 h=>q (ql (isAgg3 _) h fun v5 h=>jB (jW (jF rfl) (by intro c hc;cases hc) (xc call24) (h.mono (fun e w20 hh=>hh.elim ?_ (by rintro ⟨ch,rfl,h⟩;exact .inr ⟨ch,rfl,fun ρ'=>.inr ⟨ch,rfl,h⟩⟩)))))))))
 rintro ⟨rfl,h⟩
 refine .inl ⟨_,rfl,?_⟩
 refine zS (jM ⟨hm,h⟩)
 refine jG (jM ⟨hm,h⟩)
def m_Q1 (r1:Option Addr) (deep1:Int) (w0:World) (K:Option (List PanicEntry)→Sl→WP):Prop :=Calls prog 40 #[(vp r1),(.int .u8 40)] w0 (fun e w1=>(e=.returned (.tuple #[])∧Kept None w0 w1∧Calls prog 23 #[(vp r1),(vi (q6.wrap (deep1+1)))] w1 (fun e w2=>(∃aG aH aI aJ aK aL,e=.returned (Ab aG aH aI aJ aK aL)∧Kept None w1 w2∧∀H1 w4,Hst w0 None w2 H1 w4→Calls prog 40 #[(vp r1),(.int .u8 41)] w4 (fun e w5=>(e=.returned (.tuple #[])∧Kept H1 w4 w5∧∀p2 w6,New w5 (.cells #[(vi aG),(vi aH),(vi aI),(vu aJ),(vs aK),aL.v] 25) p2 w6→K none (Sl.mk (some p2) 1 1) w6)∨∃ch,e=.panicked ch∧K (some ch) Sl.nil w5))∨∃ch,e=.panicked ch∧K (some ch) Sl.nil w2))∨∃ch,e=.panicked ch∧K (some ch) Sl.nil w1)
theorem w_Q1 (r1 deep1 w0 K) (h:m_Q1 r1 deep1 w0 K):
  Calls prog 41 #[(vp r1),(vi deep1)] w0 (fun e w'=>(∃r2:Sl,e=.returned r2.v∧K none r2 w')∨∃ch,e=.panicked ch∧K (some ch) Sl.nil w'):=by
 refine zM (args:=[(vp r1),(vi deep1)]) func41 rfl ntmps41 (Nat.le_of_ble_eq_true rfl) ?_
 obtain ⟨hs,hb⟩:=st0 w0
 refine eg (q (ln (jC (jI (by kernel_rfl) (jJ 1 (q0 (vp r1) (jB (jW (jF rfl) (by intro c hc;cases hc) (xc call40) (h.mono (fun e w1 hh=>hh.elim ?_ (by rintro ⟨ch,rfl,h⟩;exact .inr ⟨ch,rfl,fun ρ'=>.inr ⟨ch,rfl,h⟩⟩)))))))))))
 rintro ⟨rfl,hk,h⟩
 refine .inl ⟨_,rfl,?_⟩
 obtain ⟨hs,hb⟩:=hk.hh hs hb
 refine zS (jM (jC (jI (by kernel_rfl) (jJ 3 (q0 (vp r1) (q0 (vi deep1) (q0 (vi (q6.wrap (deep1+1))) (jB (jW (jF rfl) (by intro c hc;cases hc) (xc call23) (h.mono (fun e w2 hh=>hh.elim ?_ (by rintro ⟨ch,rfl,h⟩;exact .inr ⟨ch,rfl,fun ρ'=>.inr ⟨ch,rfl,h⟩⟩))))))))))))
 rintro ⟨aG,aH,aI,aJ,aK,aL,rfl,hk,h⟩
 refine .inl ⟨_,rfl,?_⟩
 obtain ⟨hs,hb⟩:=hk.hh hs hb
 refine zA (sn (O:=(.cells #[(vi 0),(vi 0),(vi 0),(vu 0),ve,Sl.nil.v] 25)) (jV (zeroValue25 _) rfl) ?_)
 intro p1 w3 hn1
 obtain ⟨H1,hs,hb⟩:=hs.alloc hb hn1
 refine sbx 0 (Aa aG aH aI aJ aK aL) (sizeOf25 _) hs hb gZ fun w4 hs hb=>ln (jC (jI (by kernel_rfl) (jJ 1 (q0 (vp r1) (jB ?_)))))
 have ⟨h,hs⟩:=hs.hr (h H1 w4)
 refine jW (jF rfl) (by intro c hc;cases hc) (xc call40) (h.mono (fun e w5 hh=>hh.elim ?_ (by rintro ⟨ch,rfl,h⟩;exact .inr ⟨ch,rfl,fun ρ'=>.inr ⟨ch,rfl,h⟩⟩)))
 rintro ⟨rfl,hk,h⟩
 refine .inl ⟨_,rfl,?_⟩
 obtain ⟨hs,hb⟩:=hk.hh hs hb
 refine zS (jM (eg (q2 (Ab aG aH aI aJ aK aL) (xa p1 (Aa aG aH aI aJ aK aL) (isAgg25 _) (sizeOf25 _) (hb.r0 0 6 gZ)) (kU (O:=(.cells #[(vi aG),(vi aH),(vi aI),(vu aJ),(vs aK),aL.v] 25)) (fun p=>(Sl.mk (some p) 1 1).v) (jF rfl) (jS (vs:=#[(0,(Ab aG aH aI aJ aK aL))]) (by kernel_rfl) (by kernel_rfl)) ?_))))
 intro p2 w6 hn3
 have h:=h p2 w6 hn3
 obtain ⟨hs,hb⟩:=hs.nw hb hn3
 refine q (ln (er (ep (rs1 results41 (v:=(Sl.mk (some p2) 1 1).v) ?_))))
 exact .inl ⟨(Sl.mk (some p2) 1 1),rfl,h⟩
def m_C_j4 (r1:Option Addr) (deep1 v1:Int) (w0:World) (H:NP) (w:World) (K:Option (List PanicEntry)→Int→Int→Int→Int→ByteArray→Sl→WP):Prop :=Br (cond (v1 == 1) (v1 == 1) (v1 == 6)) (∀H3 w17,Hst w0 H w H3 w17→Calls prog 37 #[(vp r1),(vi (-1))] w17 (fun e w18=>(∃r3,e=.returned (vi r3)∧Kept H3 w17 w18∧∀w19,Hst w0 H3 w18 H3 w19→Calls prog 35 #[(vp r1)] w19 (fun e w20=>e=.returned (.tuple #[])∧Kept H3 w19 w20∧∀w21,Hst w0 H3 w20 H3 w21→K none v1 r3 0 0 ⟨#[]⟩ Sl.nil w21))∨∃ch,e=.panicked ch∧K (some ch) 0 0 0 0 ⟨#[]⟩ Sl.nil w18)) (Br (v1 == 2) (∀H3 w17,Hst w0 H w H3 w17→Calls prog 38 #[(vp r1)] w17 (fun e w22=>(∃r4,e=.returned (vu r4)∧Kept H3 w17 w22∧∀w23,Hst w0 H3 w22 H3 w23→Calls prog 35 #[(vp r1)] w23 (fun e w24=>e=.returned (.tuple #[])∧Kept H3 w23 w24∧∀w25,Hst w0 H3 w24 H3 w25→K none v1 0 0 r4 ⟨#[]⟩ Sl.nil w25))∨∃ch,e=.panicked ch∧K (some ch) 0 0 0 0 ⟨#[]⟩ Sl.nil w22)) (Br (v1 == 3) (∀H3 w17,Hst w0 H w H3 w17→Calls prog 39 #[(vp r1)] w17 (fun e w26=>(∃r5,e=.returned (vs r5)∧Kept H3 w17 w26∧∀w27,Hst w0 H3 w26 H3 w27→Calls prog 35 #[(vp r1)] w27 (fun e w28=>e=.returned (.tuple #[])∧Kept H3 w27 w28∧∀w29,Hst w0 H3 w28 H3 w29→K none v1 0 0 0 r5 Sl.nil w29))∨∃ch,e=.panicked ch∧K (some ch) 0 0 0 0 ⟨#[]⟩ Sl.nil w26)) (Br (v1 == 4) (∃a3,r1=some a3∧∀H3 w17,Hst w0 H w H3 w17→∃v3,w17.cell? (a3.add 1)=some (vi v3)∧∃a4,r1=some a4∧kD w17 (a4.add 1)∧¬ H3 (a4.add 1).block∧∀w30,w30=w17.setCell (a4.add 1) (vi (q6.wrap (v3+1)))→Calls prog 23 #[(vp r1),(vi (q6.wrap (deep1+1)))] w30 (fun e w31=>(∃aG aH aI aJ aK aL,e=.returned (Ab aG aH aI aJ aK aL)∧Kept H3 w30 w31∧∀H4 w33,Hst w0 H3 w31 H4 w33→Calls prog 23 #[(vp r1),(vi (q6.wrap (deep1+1)))] w33 (fun e w34=>(∃aM aN aO aP aQ aR,e=.returned (Ab aM aN aO aP aQ aR)∧Kept H4 w33 w34∧∀H5 w36,Hst w0 H4 w34 H5 w36→Calls prog 40 #[(vp r1),(.int .u8 41)] w36 (fun e w37=>(e=.returned (.tuple #[])∧Kept H5 w36 w37∧∀p5 w38,New w37 (.cells #[(vi aG),(vi aH),(vi aI),(vu aJ),(vs aK),aL.v,(vi aM),(vi aN),(vi aO),(vu aP),(vs aQ),aR.v] 25) p5 w38→∀w39,Hst w0 H5 w38 H5 w39→Calls prog 35 #[(vp r1)] w39 (fun e w40=>e=.returned (.tuple #[])∧Kept H5 w39 w40∧∀w41,Hst w0 H5 w40 H5 w41→K none v1 0 0 0 ⟨#[]⟩ (Sl.mk (some p5) 2 2) w41))∨∃ch,e=.panicked ch∧K (some ch) 0 0 0 0 ⟨#[]⟩ Sl.nil w37))∨∃ch,e=.panicked ch∧K (some ch) 0 0 0 0 ⟨#[]⟩ Sl.nil w34))∨∃ch,e=.panicked ch∧K (some ch) 0 0 0 0 ⟨#[]⟩ Sl.nil w31)) (Br (v1 == 5) (∀H3 w17,Hst w0 H w H3 w17→Calls prog 41 #[(vp r1),(vi deep1)] w17 (fun e w42=>(∃r6:Sl,e=.returned r6.v∧Kept H3 w17 w42∧∀w43,Hst w0 H3 w42 H3 w43→Calls prog 35 #[(vp r1)] w43 (fun e w44=>e=.returned (.tuple #[])∧Kept H3 w43 w44∧∀w45,Hst w0 H3 w44 H3 w45→K none v1 0 0 0 ⟨#[]⟩ r6 w45))∨∃ch,e=.panicked ch∧K (some ch) 0 0 0 0 ⟨#[]⟩ Sl.nil w42)) (Br (v1 == 7) (∀H3 w17,Hst w0 H w H3 w17→Calls prog 37 #[(vp r1),(vi (-1))] w17 (fun e w46=>(∃r7,e=.returned (vi r7)∧Kept H3 w17 w46∧∀w47,Hst w0 H3 w46 H3 w47→Calls prog 41 #[(vp r1),(vi deep1)] w47 (fun e w48=>(∃r8:Sl,e=.returned r8.v∧Kept H3 w47 w48∧∀w49,Hst w0 H3 w48 H3 w49→Calls prog 35 #[(vp r1)] w49 (fun e w50=>e=.returned (.tuple #[])∧Kept H3 w49 w50∧∀w51,Hst w0 H3 w50 H3 w51→K none v1 r7 0 0 ⟨#[]⟩ r8 w51))∨∃ch,e=.panicked ch∧K (some ch) 0 0 0 0 ⟨#[]⟩ Sl.nil w48))∨∃ch,e=.panicked ch∧K (some ch) 0 0 0 0 ⟨#[]⟩ Sl.nil w46)) (∀H3 w17,Hst w0 H w H3 w17→Calls prog 37 #[(vp r1),(vi (-1))] w17 (fun e w52=>(∃r9,e=.returned (vi r9)∧Kept H3 w17 w52∧∀w53,Hst w0 H3 w52 H3 w53→Calls prog 40 #[(vp r1),(.int .u8 62)] w53 (fun e w54=>(e=.returned (.tuple #[])∧Kept H3 w53 w54∧Calls prog 37 #[(vp r1),(vi r9)] w54 (fun e w55=>(∃r10,e=.returned (vi r10)∧Kept H3 w54 w55∧∀w56,Hst w0 H3 w55 H3 w56→Calls prog 41 #[(vp r1),(vi deep1)] w56 (fun e w57=>(∃r11:Sl,e=.returned r11.v∧Kept H3 w56 w57∧∀w58,Hst w0 H3 w57 H3 w58→Calls prog 35 #[(vp r1)] w58 (fun e w59=>e=.returned (.tuple #[])∧Kept H3 w58 w59∧∀w60,Hst w0 H3 w59 H3 w60→K none v1 r9 r10 0 ⟨#[]⟩ r11 w60))∨∃ch,e=.panicked ch∧K (some ch) 0 0 0 0 ⟨#[]⟩ Sl.nil w57))∨∃ch,e=.panicked ch∧K (some ch) 0 0 0 0 ⟨#[]⟩ Sl.nil w55))∨∃ch,e=.panicked ch∧K (some ch) 0 0 0 0 ⟨#[]⟩ Sl.nil w54))∨∃ch,e=.panicked ch∧K (some ch) 0 0 0 0 ⟨#[]⟩ Sl.nil w52)))))))
def m_C_j3 (r1:Option Addr) (deep1 r2 v1:Int) (w0:World) (H:NP) (w:World) (K:Option (List PanicEntry)→Int→Int→Int→Int→ByteArray→Sl→WP):Prop :=∃a1,r1=some a1∧∃v2,w.cell? (a1.add 2)=some (vi v2)∧∃a2,r1=some a2∧kD w (a2.add 2)∧¬ H (a2.add 2).block∧∀w15,w15=w.setCell (a2.add 2) (vi (q6.wrap (v2+1)))→Br ((r2 != 34) && (r2 != 40)) (∃a5,r1=some a5∧∀H2 w16,Hst w0 H w15 H2 w16→∃v4,w16.cell? (a5.add 1)=some (vi v4)∧∃a6,r1=some a6∧kD w16 (a6.add 1)∧¬ H2 (a6.add 1).block∧∀w61,w61=w16.setCell (a6.add 1) (vi (q6.wrap (v4+1)))→m_C_j4 r1 deep1 v1 w0 H2 w61 K) (∀H2 w16,Hst w0 H w15 H2 w16→m_C_j4 r1 deep1 v1 w0 H2 w16 K)
def m_C_j2 (r1:Option Addr) (deep1 r2 v1:Int) (x1:Bool) (w0:World) (H:NP) (w:World) (K:Option (List PanicEntry)→Int→Int→Int→Int→ByteArray→Sl→WP):Prop :=Br x1 (∃a7,r1=some a7∧∃v5,w.cell? (a7.add 1)=some (vi v5)∧Calls prog 24 #[(vp r1),(vi 52),(vi v5)] w (fun e w62=>(e=.returned (.tuple #[])∧Kept H w w62∧m_C_j3 r1 deep1 r2 v1 w0 H w62 K)∨∃ch,e=.panicked ch∧K (some ch) 0 0 0 0 ⟨#[]⟩ Sl.nil w62)) (m_C_j3 r1 deep1 r2 v1 w0 H w K)
def m_C_j1 (r1:Option Addr) (deep1 r2 v1:Int) (w0:World) (H:NP) (w:World) (K:Option (List PanicEntry)→Int→Int→Int→Int→ByteArray→Sl→WP):Prop :=∃a8,r1=some a8∧∃v6,w.cell? (a8.add 2)=some (vi v6)∧∀H6 w63,Hst w0 H w H6 w63→m_C_j2 r1 deep1 r2 v1 ((v6 == 4096) || (deep1 == 64)) w0 H6 w63 K
def m_C (r1:Option Addr) (deep1:Int) (w0:World) (K:Option (List PanicEntry)→Int→Int→Int→Int→ByteArray→Sl→WP):Prop :=∀H1 w1,Hst w0 None w0 H1 w1→Calls prog 35 #[(vp r1)] w1 (fun e w2=>e=.returned (.tuple #[])∧Kept H1 w1 w2∧Calls prog 36 #[(vp r1)] w2 (fun e w3=>(∃r2:Int,e=.returned (.int .u8 r2)∧Kept H1 w2 w3∧∀p2 w4,New w3 (.map #[] 0) p2 w4→∃w5:World,(Instr.mapUpdate 76 (.map (some p2.block)) (.int .u8 110) (vi 1)).run prog w4=.ok () w5∧Kept H1 w4 w5∧∃w6:World,(Instr.mapUpdate 76 (.map (some p2.block)) (.int .u8 35) (vi 2)).run prog w5=.ok () w6∧Kept H1 w5 w6∧∃w7:World,(Instr.mapUpdate 76 (.map (some p2.block)) (.int .u8 107) (vi 6)).run prog w6=.ok () w7∧Kept H1 w6 w7∧∃w8:World,(Instr.mapUpdate 76 (.map (some p2.block)) (.int .u8 34) (vi 3)).run prog w7=.ok () w8∧Kept H1 w7 w8∧∃w9:World,(Instr.mapUpdate 76 (.map (some p2.block)) (.int .u8 40) (vi 4)).run prog w8=.ok () w9∧Kept H1 w8 w9∧∃w10:World,(Instr.mapUpdate 76 (.map (some p2.block)) (.int .u8 104) (vi 5)).run prog w9=.ok () w10∧Kept H1 w9 w10∧∃w11:World,(Instr.mapUpdate 76 (.map (some p2.block)) (.int .u8 115) (vi 7)).run prog w10=.ok () w11∧Kept H1 w10 w11∧∃w12:World,(Instr.mapUpdate 76 (.map (some p2.block)) (.int .u8 112) (vi 8)).run prog w11=.ok () w12∧Kept H1 w11 w12∧∃w13:World,(Instr.mapUpdate 76 (.map (some p2.block)) (.int .u8 102) (vi 9)).run prog w12=.ok () w13∧Kept H1 w12 w13∧∃v1,(Instr.lookup 76 (.map (some p2.block)) (.int .u8 r2) false).run prog w13=.ok (vi v1) w13∧Br (v1 == 0) (∃a9,r1=some a9∧∀w14,Hst w0 H1 w13 H1 w14→∃v7,w14.cell? (a9.add 1)=some (vi v7)∧Calls prog 24 #[(vp r1),(vi 60),(vi v7)] w14 (fun e w64=>(e=.returned (.tuple #[])∧Kept H1 w14 w64∧m_C_j1 r1 deep1 r2 v1 w0 H1 w64 K)∨∃ch,e=.panicked ch∧K (some ch) 0 0 0 0 ⟨#[]⟩ Sl.nil w64)) (∀w14,Hst w0 H1 w13 H1 w14→m_C_j1 r1 deep1 r2 v1 w0 H1 w14 K))∨∃ch,e=.panicked ch∧K (some ch) 0 0 0 0 ⟨#[]⟩ Sl.nil w3))
theorem w_C (r1 deep1 w0 K) (h:m_C r1 deep1 w0 K):
  Calls prog 23 #[(vp r1),(vi deep1)] w0 (fun e w'=>(∃bK bL bM bN bO bP,e=.returned (Ab bK bL bM bN bO bP)∧K none bK bL bM bN bO bP w')∨∃ch,e=.panicked ch∧K (some ch) 0 0 0 0 ⟨#[]⟩ Sl.nil w'):=by
 refine zM (args:=[(vp r1),(vi deep1)]) func23 rfl ntmps23 (Nat.le_of_ble_eq_true rfl) ?_
 obtain ⟨hs,hb⟩:=st0 w0
 refine eg (nw3 [(vi 0),(vi 0),(vi 0),(vu 0),ve,Sl.nil.v] 25 hs hb (jV (zeroValue25 _) rfl) fun p1 w1 H1 hs hb=>ln (eg (q ?_)))
 have ⟨h,hs⟩:=hs.hr (h H1 w1)
 refine sc call35 (h.mono fun e w2 ⟨k,hk,h⟩=>have ⟨hs,hb⟩:=hk.hh hs hb;⟨_,k,?_⟩)
 refine ln (jC (jI (by kernel_rfl) (jJ 1 (q0 (vp r1) (jB (jW (jF rfl) (by intro c hc;cases hc) (xc call36) (h.mono (fun e w3 hh=>hh.elim ?_ (by rintro ⟨ch,rfl,h⟩;exact .inr ⟨ch,rfl,fun ρ'=>.inr ⟨ch,rfl,h⟩⟩)))))))))
 rintro ⟨r2,rfl,hk,h⟩
 refine .inl ⟨_,rfl,?_⟩
 obtain ⟨hs,hb⟩:=hk.hh hs hb
 refine zA (q0 (.int .u8 r2) (ln (eg (kU (O:=(.map #[] 0)) (fun p=>.map (some p.block)) (jF rfl) (by kernel_rfl) ?_))))
 intro p2 w4 hn28
 have h:=h p2 w4 hn28
 obtain ⟨hs,hb⟩:=hs.nw hb hn28
 obtain ⟨w5,hv16,hk,h⟩:=h
 refine kQ (jF rfl) (kZ (by kernel_rfl) (by kernel_rfl) (by kernel_rfl) hv16) ?_
 obtain ⟨hs,hb⟩:=hk.hh hs hb
 obtain ⟨w6,hv15,hk,h⟩:=h
 refine kQ (jF rfl) (kZ (by kernel_rfl) (by kernel_rfl) (by kernel_rfl) hv15) ?_
 obtain ⟨hs,hb⟩:=hk.hh hs hb
 obtain ⟨w7,hv14,hk,h⟩:=h
 refine kQ (jF rfl) (kZ (by kernel_rfl) (by kernel_rfl) (by kernel_rfl) hv14) ?_
 obtain ⟨hs,hb⟩:=hk.hh hs hb
 obtain ⟨w8,hv13,hk,h⟩:=h
 refine kQ (jF rfl) (kZ (by kernel_rfl) (by kernel_rfl) (by kernel_rfl) hv13) ?_
 obtain ⟨hs,hb⟩:=hk.hh hs hb
 obtain ⟨w9,hv12,hk,h⟩:=h
 refine kQ (jF rfl) (kZ (by kernel_rfl) (by kernel_rfl) (by kernel_rfl) hv12) ?_
 obtain ⟨hs,hb⟩:=hk.hh hs hb
 obtain ⟨w10,hv11,hk,h⟩:=h
 refine kQ (jF rfl) (kZ (by kernel_rfl) (by kernel_rfl) (by kernel_rfl) hv11) ?_
 obtain ⟨hs,hb⟩:=hk.hh hs hb
 obtain ⟨w11,hv10,hk,h⟩:=h
 refine kQ (jF rfl) (kZ (by kernel_rfl) (by kernel_rfl) (by kernel_rfl) hv10) ?_
 obtain ⟨hs,hb⟩:=hk.hh hs hb
 obtain ⟨w12,hv9,hk,h⟩:=h
 refine kQ (jF rfl) (kZ (by kernel_rfl) (by kernel_rfl) (by kernel_rfl) hv9) ?_
 obtain ⟨hs,hb⟩:=hk.hh hs hb
 obtain ⟨w13,hv8,hk,h⟩:=h
 refine kQ (jF rfl) (kZ (by kernel_rfl) (by kernel_rfl) (by kernel_rfl) hv8) ?_
 obtain ⟨hs,hb⟩:=hk.hh hs hb
 refine qb (ln (eg (qb ?_)))
 obtain ⟨v1,hv7,h⟩:=h
 refine q2 (vi v1) (jAB (by kernel_rfl) (by kernel_rfl) hv7) (q (zE (jF rfl) (zN (a:=p1) (v:=(vi v1)) (by kernel_rfl) (by kernel_rfl) rfl (sizeOf3 _) (hb.canW0 0 gZ (by kernel_rfl))) ?_))
 intro w14 hn2
 have hsb:Hst w0 H1 w13 H1 w14∧HB H1 w14 [(p1,[(vi v1),(vi 0),(vi 0),(vu 0),ve,Sl.nil.v],25)]:=by
  rw [hn2];exact hb.set0 (i:=0) (v:=(vi v1)) hs gZ (by kernel_rfl)
 obtain ⟨hs,hb⟩:=hsb
 refine ln (jC (eg (q (q3 (xl (isAgg3 _) (hb.d0 0 gZ)) (q (ln (zJ (fun ρ w=>∃H:NP,Has ρ [(0,(vp r1)),(1,(vi deep1)),(4,(vp (some p1))),(5,(.int .u8 r2))]∧Hst w0 H w H w∧HB H w [(p1,[(vi v1),(vi 0),(vi 0),(vu 0),ve,Sl.nil.v],25)]∧m_C_j1 r1 deep1 r2 v1 w0 H w K) ?_ ?_)))))))
 rintro ρ w ⟨H,hH,hs,hb,h⟩
 refine jZ hH (jC (jC (zJ (fun ρ w=>∃x1,∃H:NP,Has ρ [(0,(vp r1)),(1,(vi deep1)),(4,(vp (some p1))),(5,(.int .u8 r2)),(36,(vb x1))]∧Hst w0 H w H w∧HB H w [(p1,[(vi v1),(vi 0),(vi 0),(vu 0),ve,Sl.nil.v],25)]∧m_C_j2 r1 deep1 r2 v1 x1 w0 H w K) ?_ ?_)))
 rintro ρ w ⟨x1,H,hH,hs,hb,h⟩
 refine jZ hH (zJ (fun ρ w=>∃H:NP,Has ρ [(0,(vp r1)),(1,(vi deep1)),(4,(vp (some p1))),(5,(.int .u8 r2))]∧Hst w0 H w H w∧HB H w [(p1,[(vi v1),(vi 0),(vi 0),(vu 0),ve,Sl.nil.v],25)]∧m_C_j3 r1 deep1 r2 v1 w0 H w K) ?_ ?_)
 rintro ρ w ⟨H,hH,hs,hb,h⟩
 refine jZ hH (eg (q (qm h fun a1 h=>q (ql (isAgg3 _) h fun v2 h=>q (qm h fun a2 h=>q (st2 (sizeOf3 _) hs hb h fun w15 hs hb h=>ln (jC (jC (zW (fun ρ wJ=>∃b1'0:Bool,∃HJ:NP,((r2 != 34)=b1'0)∧Hst w0 H w15 HJ wJ∧HB HJ wJ [(p1,[(vi v1),(vi 0),(vi 0),(vu 0),ve,Sl.nil.v],25)]∧Has ρ [(0,(vp r1)),(1,(vi deep1)),(4,(vp (some p1))),(55,(vb (b1'0 && (r2 != 40))))]) ?_ ?_)))))))))
 refine rg (qc ?_)
 rcases bte (r2 != 34) with hg2 | hg2
 refine qk 52 hg2 (qk 52 hg2 (q2 (vb (r2 != 40)) (xT hg2) (ln ⟨true,_,hg2,hs,hb,hm⟩)))
 refine sj2 52 hg2 (q2 (vb false) (xF hg2) (ln ⟨false,_,hg2,hs,hb,hm⟩))
 rintro ρ w16 ⟨b1'0,H2,he0,hs,hb,hH⟩
 subst he0
 refine zL hH (jM (zJ (fun ρ w=>∃H:NP,Has ρ [(0,(vp r1)),(1,(vi deep1)),(4,(vp (some p1)))]∧Hst w0 H w H w∧HB H w [(p1,[(vi v1),(vi 0),(vi 0),(vu 0),ve,Sl.nil.v],25)]∧m_C_j4 r1 deep1 v1 w0 H w K) ?_ ?_))
 rintro ρ w ⟨H,hH,hs,hb,h⟩
 refine jZ hH (jC (eg (q (q3 (xl (isAgg3 _) (hb.d0 0 gZ)) (ln (jP (jC (eg (q (q (ln (zW (fun ρ wJ=>∃b2'0:Bool,∃HJ:NP,((v1 == 1)=b2'0)∧Hst w0 H w HJ wJ∧HB HJ wJ [(p1,[(vi v1),(vi 0),(vi 0),(vu 0),ve,Sl.nil.v],25)]∧Has ρ [(0,(vp r1)),(1,(vi deep1)),(4,(vp (some p1))),(64,(vi v1)),(79,(vb (cond b2'0 (v1 == 1) (v1 == 6))))]) ?_ ?_))))))))))))
 refine kG (t:=(v1 == 1)) (by kernel_rfl) (fun hc2=>?_) (fun hc2=>?_)
 refine jG (jM ⟨true,_,hc2,hs,hb,hm⟩)
 refine rg (qb (ln ⟨false,_,hc2,hs,hb,hm⟩))
 rintro ρ w17 ⟨b2'0,H3,he0,hs,hb,hH⟩
 subst he0
 refine zL hH (jM (cbr h ?_ ?_))<;>intro h
 refine jI (by kernel_rfl) (jJ 1 (q0 (vp r1) (jB ?_)))
 have ⟨h,hs⟩:=hs.hr (h H3 w17)
 refine jW (jF rfl) (by intro c hc;cases hc) (xc call37) (h.mono (fun e w18 hh=>hh.elim ?_ (by rintro ⟨ch,rfl,h⟩;exact .inr ⟨ch,rfl,fun ρ'=>.inr ⟨ch,rfl,h⟩⟩)))
 rintro ⟨r3,rfl,hk,h⟩
 refine .inl ⟨_,rfl,?_⟩
 obtain ⟨hs,hb⟩:=hk.hh hs hb
 refine zA (q0 (vp (some (p1.add 1))) (zE (jF rfl) (zN (a:=(p1.add 1)) (v:=(vi r3)) (by kernel_rfl) (by kernel_rfl) rfl (sizeOf3 _) (hb.canW 0 1 gZ (by kernel_rfl))) ?_))
 intro w19 hn4
 have hsb:Hst w0 H3 w18 H3 w19∧HB H3 w19 [(p1,[(vi v1),(vi r3),(vi 0),(vu 0),ve,Sl.nil.v],25)]:=by
  rw [hn4];exact hb.set (i:=0) 1 (v:=(vi r3)) hs gZ (by kernel_rfl)
 obtain ⟨hs,hb⟩:=hsb
 refine jB (kY (jM (eg (q ?_))))
 have ⟨h,hs⟩:=hs.hr (h w19)
 refine sc call35 (h.mono fun e w20 ⟨k,hk,h⟩=>have ⟨hs,hb⟩:=hk.hh hs hb;⟨_,k,?_⟩)
 refine ln (eg (q2 (.agg #[(vi v1),(vi r3),(vi 0),(vu 0),ve,Sl.nil.v]) (xa p1 [(vi v1),(vi r3),(vi 0),(vu 0),ve,Sl.nil.v] (isAgg25 _) (sizeOf25 _) (hb.r0 0 6 gZ)) (zE (jF rfl) (xo p1 [(vi v1),(vi r3),(vi 0),(vu 0),ve,Sl.nil.v] (sizeOf25 _) (hb.k0 0 6 gZ)) ?_)))
 intro w21 hn5
 obtain ⟨hs,hb⟩:=hb.st1 0 hs hn5 gZ
 refine ln (er ?_)
 have ⟨h,hs⟩:=hs.hr (h w21)
 refine ep (yW (.inl rfl) (vs:=[(.agg #[(vi v1),(vi r3),(vi 0),(vu 0),ve,Sl.nil.v])]) (v:=(.agg #[(vi v1),(vi r3),(vi 0),(vu 0),ve,Sl.nil.v])) results23 ⟨(rva (isAgg25 _) (sizeOf25 _) (hb.r0 0 6 gZ)),trivial⟩ (by kernel_rfl) ?_)
 exact .inl ⟨v1,r3,0,0,⟨#[]⟩,Sl.nil,rfl,h⟩
 refine eg (qb (ln (cbr h ?_ ?_)))<;>intro h
 refine jI (by kernel_rfl) (jJ 1 (q0 (vp r1) (jB ?_)))
 have ⟨h,hs⟩:=hs.hr (h H3 w17)
 refine jW (jF rfl) (by intro c hc;cases hc) (xc call38) (h.mono (fun e w22 hh=>hh.elim ?_ (by rintro ⟨ch,rfl,h⟩;exact .inr ⟨ch,rfl,fun ρ'=>.inr ⟨ch,rfl,h⟩⟩)))
 rintro ⟨r4,rfl,hk,h⟩
 refine .inl ⟨_,rfl,?_⟩
 obtain ⟨hs,hb⟩:=hk.hh hs hb
 refine zA (q0 (vp (some (p1.add 3))) (zE (jF rfl) (zN (a:=(p1.add 3)) (v:=(vu r4)) (by kernel_rfl) (by kernel_rfl) rfl (sizeOf22 _) (hb.canW 0 3 gZ (by kernel_rfl))) ?_))
 intro w23 hn6
 have hsb:Hst w0 H3 w22 H3 w23∧HB H3 w23 [(p1,[(vi v1),(vi 0),(vi 0),(vu r4),ve,Sl.nil.v],25)]:=by
  rw [hn6];exact hb.set (i:=0) 3 (v:=(vu r4)) hs gZ (by kernel_rfl)
 obtain ⟨hs,hb⟩:=hsb
 refine jB (kY (jM (eg (q ?_))))
 have ⟨h,hs⟩:=hs.hr (h w23)
 refine sc call35 (h.mono fun e w24 ⟨k,hk,h⟩=>have ⟨hs,hb⟩:=hk.hh hs hb;⟨_,k,?_⟩)
 refine ln (eg (q2 (.agg #[(vi v1),(vi 0),(vi 0),(vu r4),ve,Sl.nil.v]) (xa p1 [(vi v1),(vi 0),(vi 0),(vu r4),ve,Sl.nil.v] (isAgg25 _) (sizeOf25 _) (hb.r0 0 6 gZ)) (zE (jF rfl) (xo p1 [(vi v1),(vi 0),(vi 0),(vu r4),ve,Sl.nil.v] (sizeOf25 _) (hb.k0 0 6 gZ)) ?_)))
 intro w25 hn7
 obtain ⟨hs,hb⟩:=hb.st1 0 hs hn7 gZ
 refine ln (er ?_)
 have ⟨h,hs⟩:=hs.hr (h w25)
 refine ep (yW (.inl rfl) (vs:=[(.agg #[(vi v1),(vi 0),(vi 0),(vu r4),ve,Sl.nil.v])]) (v:=(.agg #[(vi v1),(vi 0),(vi 0),(vu r4),ve,Sl.nil.v])) results23 ⟨(rva (isAgg25 _) (sizeOf25 _) (hb.r0 0 6 gZ)),trivial⟩ (by kernel_rfl) ?_)
 exact .inl ⟨v1,0,0,r4,⟨#[]⟩,Sl.nil,rfl,h⟩
 refine eg (qb (ln (cbr h ?_ ?_)))<;>intro h
 refine jI (by kernel_rfl) (jJ 1 (q0 (vp r1) (jB ?_)))
 have ⟨h,hs⟩:=hs.hr (h H3 w17)
 refine jW (jF rfl) (by intro c hc;cases hc) (xc call39) (h.mono (fun e w26 hh=>hh.elim ?_ (by rintro ⟨ch,rfl,h⟩;exact .inr ⟨ch,rfl,fun ρ'=>.inr ⟨ch,rfl,h⟩⟩)))
 rintro ⟨r5,rfl,hk,h⟩
 refine .inl ⟨_,rfl,?_⟩
 obtain ⟨hs,hb⟩:=hk.hh hs hb
 refine zA (q0 (vp (some (p1.add 4))) (zE (jF rfl) (zN (a:=(p1.add 4)) (v:=(vs r5)) (by kernel_rfl) (by kernel_rfl) rfl (sizeOf9 _) (hb.canW 0 4 gZ (by kernel_rfl))) ?_))
 intro w27 hn8
 have hsb:Hst w0 H3 w26 H3 w27∧HB H3 w27 [(p1,[(vi v1),(vi 0),(vi 0),(vu 0),(vs r5),Sl.nil.v],25)]:=by
  rw [hn8];exact hb.set (i:=0) 4 (v:=(vs r5)) hs gZ (by kernel_rfl)
 obtain ⟨hs,hb⟩:=hsb
 refine jB (kY (jM (eg (q ?_))))
 have ⟨h,hs⟩:=hs.hr (h w27)
 refine sc call35 (h.mono fun e w28 ⟨k,hk,h⟩=>have ⟨hs,hb⟩:=hk.hh hs hb;⟨_,k,?_⟩)
 refine ln (eg (q2 (.agg #[(vi v1),(vi 0),(vi 0),(vu 0),(vs r5),Sl.nil.v]) (xa p1 [(vi v1),(vi 0),(vi 0),(vu 0),(vs r5),Sl.nil.v] (isAgg25 _) (sizeOf25 _) (hb.r0 0 6 gZ)) (zE (jF rfl) (xo p1 [(vi v1),(vi 0),(vi 0),(vu 0),(vs r5),Sl.nil.v] (sizeOf25 _) (hb.k0 0 6 gZ)) ?_)))
 intro w29 hn9
 obtain ⟨hs,hb⟩:=hb.st1 0 hs hn9 gZ
 refine ln (er ?_)
 have ⟨h,hs⟩:=hs.hr (h w29)
 refine ep (yW (.inl rfl) (vs:=[(.agg #[(vi v1),(vi 0),(vi 0),(vu 0),(vs r5),Sl.nil.v])]) (v:=(.agg #[(vi v1),(vi 0),(vi 0),(vu 0),(vs r5),Sl.nil.v])) results23 ⟨(rva (isAgg25 _) (sizeOf25 _) (hb.r0 0 6 gZ)),trivial⟩ (by kernel_rfl) ?_)
 exact .inl ⟨v1,0,0,0,r5,Sl.nil,rfl,h⟩
 refine eg (qb (ln (cbr h ?_ ?_)))<;>intro h
 refine eg (q (qm h fun a3 h=>q ?_))
 have ⟨h,hs⟩:=hs.hr (h H3 w17)
 refine ql (isAgg3 _) h fun v3 h=>q (qm h fun a4 h=>q (st2 (sizeOf3 _) hs hb h fun w30 hs hb h=>ln (jC (jI (by kernel_rfl) (jJ 3 (q0 (vp r1) (q0 (vi deep1) (q0 (vi (q6.wrap (deep1+1))) (jB (jW (jF rfl) (by intro c hc;cases hc) (xc call23) (h.mono (fun e w31 hh=>hh.elim ?_ (by rintro ⟨ch,rfl,h⟩;exact .inr ⟨ch,rfl,fun ρ'=>.inr ⟨ch,rfl,h⟩⟩)))))))))))))
 rintro ⟨aG,aH,aI,aJ,aK,aL,rfl,hk,h⟩
 refine .inl ⟨_,rfl,?_⟩
 obtain ⟨hs,hb⟩:=hk.hh hs hb
 refine zA (sn (O:=(.cells #[(vi 0),(vi 0),(vi 0),(vu 0),ve,Sl.nil.v] 25)) (jV (zeroValue25 _) rfl) ?_)
 intro p3 w32 hn11
 obtain ⟨H4,hs,hb⟩:=hs.alloc hb hn11
 refine sbx 0 (Aa aG aH aI aJ aK aL) (sizeOf25 _) hs hb gZ fun w33 hs hb=>ln (jC (jI (by kernel_rfl) (jJ 3 (q0 (vp r1) (q0 (vi deep1) (q0 (vi (q6.wrap (deep1+1))) (jB ?_)))))))
 have ⟨h,hs⟩:=hs.hr (h H4 w33)
 refine jW (jF rfl) (by intro c hc;cases hc) (xc call23) (h.mono (fun e w34 hh=>hh.elim ?_ (by rintro ⟨ch,rfl,h⟩;exact .inr ⟨ch,rfl,fun ρ'=>.inr ⟨ch,rfl,h⟩⟩)))
 rintro ⟨aM,aN,aO,aP,aQ,aR,rfl,hk,h⟩
 refine .inl ⟨_,rfl,?_⟩
 obtain ⟨hs,hb⟩:=hk.hh hs hb
 refine zA (sn (O:=(.cells #[(vi 0),(vi 0),(vi 0),(vu 0),ve,Sl.nil.v] 25)) (jV (zeroValue25 _) rfl) ?_)
 intro p4 w35 hn13
 obtain ⟨H5,hs,hb⟩:=hs.alloc hb hn13
 refine sbx 0 (Aa aM aN aO aP aQ aR) (sizeOf25 _) hs hb gZ fun w36 hs hb=>ln (jC (jI (by kernel_rfl) (jJ 1 (q0 (vp r1) (jB ?_)))))
 have ⟨h,hs⟩:=hs.hr (h H5 w36)
 refine jW (jF rfl) (by intro c hc;cases hc) (xc call40) (h.mono (fun e w37 hh=>hh.elim ?_ (by rintro ⟨ch,rfl,h⟩;exact .inr ⟨ch,rfl,fun ρ'=>.inr ⟨ch,rfl,h⟩⟩)))
 rintro ⟨rfl,hk,h⟩
 refine .inl ⟨_,rfl,?_⟩
 obtain ⟨hs,hb⟩:=hk.hh hs hb
 refine zS (jM (rg (q2 (Ab aG aH aI aJ aK aL) (xa p3 (Aa aG aH aI aJ aK aL) (isAgg25 _) (sizeOf25 _) (hb.r0 1 6 (gS gZ))) (q2 (Ab aM aN aO aP aQ aR) (xa p4 (Aa aM aN aO aP aQ aR) (isAgg25 _) (sizeOf25 _) (hb.r0 0 6 gZ)) (kU (O:=(.cells #[(vi aG),(vi aH),(vi aI),(vu aJ),(vs aK),aL.v,(vi aM),(vi aN),(vi aO),(vu aP),(vs aQ),aR.v] 25)) (fun p=>(Sl.mk (some p) 2 2).v) (jF rfl) (jS (vs:=#[(0,(Ab aG aH aI aJ aK aL)),(1,(Ab aM aN aO aP aQ aR))]) (by kernel_rfl) (by kernel_rfl)) ?_)))))
 intro p5 w38 hn17
 have h:=h p5 w38 hn17
 obtain ⟨hs,hb⟩:=hs.nw hb hn17
 refine q (zE (jF rfl) (zN (a:=(p1.add 5)) (v:=(Sl.mk (some p5) 2 2).v) (by kernel_rfl) (by kernel_rfl) rfl (sizeOf23 _) (hb.canW 2 5 (gS (gS gZ)) (by kernel_rfl))) ?_)
 intro w39 hn15
 have hsb:Hst w0 H5 w38 H5 w39∧HB H5 w39 [(p4,(Aa aM aN aO aP aQ aR),25),(p3,(Aa aG aH aI aJ aK aL),25),(p1,[(vi v1),(vi 0),(vi 0),(vu 0),ve,(Sl.mk (some p5) 2 2).v],25)]:=by
  rw [hn15];exact hb.set (i:=2) 5 (v:=(Sl.mk (some p5) 2 2).v) hs (gS (gS gZ)) (by kernel_rfl)
 obtain ⟨hs,hb⟩:=hsb
 refine jB (kY (jM (eg (q ?_))))
 have ⟨h,hs⟩:=hs.hr (h w39)
 refine sc call35 (h.mono fun e w40 ⟨k,hk,h⟩=>have ⟨hs,hb⟩:=hk.hh hs hb;⟨_,k,?_⟩)
 refine ln (eg (q2 (.agg #[(vi v1),(vi 0),(vi 0),(vu 0),ve,(Sl.mk (some p5) 2 2).v]) (xa p1 [(vi v1),(vi 0),(vi 0),(vu 0),ve,(Sl.mk (some p5) 2 2).v] (isAgg25 _) (sizeOf25 _) (hb.r0 2 6 (gS (gS gZ)))) (zE (jF rfl) (xo p1 [(vi v1),(vi 0),(vi 0),(vu 0),ve,(Sl.mk (some p5) 2 2).v] (sizeOf25 _) (hb.k0 2 6 (gS (gS gZ)))) ?_)))
 intro w41 hn16
 obtain ⟨hs,hb⟩:=hb.st1 2 hs hn16 (gS (gS gZ))
 refine ln (er ?_)
 have ⟨h,hs⟩:=hs.hr (h w41)
 refine ep (yW (.inl rfl) (vs:=[(.agg #[(vi v1),(vi 0),(vi 0),(vu 0),ve,(Sl.mk (some p5) 2 2).v])]) (v:=(.agg #[(vi v1),(vi 0),(vi 0),(vu 0),ve,(Sl.mk (some p5) 2 2).v])) results23 ⟨(rva (isAgg25 _) (sizeOf25 _) (hb.r0 2 6 (gS (gS gZ)))),trivial⟩ (by kernel_rfl) ?_)
 exact .inl ⟨v1,0,0,0,⟨#[]⟩,(Sl.mk (some p5) 2 2),rfl,h⟩
 refine eg (qb (ln (cbr h ?_ ?_)))<;>intro h
 refine jI (by kernel_rfl) (jJ 2 (q0 (vp r1) (q0 (vi deep1) (jB ?_))))
 have ⟨h,hs⟩:=hs.hr (h H3 w17)
 refine jW (jF rfl) (by intro c hc;cases hc) (xc call41) (h.mono (fun e w42 hh=>hh.elim ?_ (by rintro ⟨ch,rfl,h⟩;exact .inr ⟨ch,rfl,fun ρ'=>.inr ⟨ch,rfl,h⟩⟩)))
 rintro ⟨r6,rfl,hk,h⟩
 refine .inl ⟨_,rfl,?_⟩
 obtain ⟨hs,hb⟩:=hk.hh hs hb
 refine zA (q0 (vp (some (p1.add 5))) (zE (jF rfl) (zN (a:=(p1.add 5)) (v:=r6.v) (by kernel_rfl) (by kernel_rfl) rfl (sizeOf23 _) (hb.canW 0 5 gZ (by kernel_rfl))) ?_))
 intro w43 hn18
 have hsb:Hst w0 H3 w42 H3 w43∧HB H3 w43 [(p1,(Ag v1 0 0 0 r6),25)]:=by
  rw [hn18];exact hb.set (i:=0) 5 (v:=r6.v) hs gZ (by kernel_rfl)
 obtain ⟨hs,hb⟩:=hsb
 refine jB (kY (jM (eg (q ?_))))
 have ⟨h,hs⟩:=hs.hr (h w43)
 refine sc call35 (h.mono fun e w44 ⟨k,hk,h⟩=>have ⟨hs,hb⟩:=hk.hh hs hb;⟨_,k,?_⟩)
 refine ln (eg (q2 (Af v1 0 0 0 r6) (xa p1 (Ag v1 0 0 0 r6) (isAgg25 _) (sizeOf25 _) (hb.r0 0 6 gZ)) (zE (jF rfl) (xo p1 (Ag v1 0 0 0 r6) (sizeOf25 _) (hb.k0 0 6 gZ)) ?_)))
 intro w45 hn19
 obtain ⟨hs,hb⟩:=hb.st1 0 hs hn19 gZ
 refine ln (er ?_)
 have ⟨h,hs⟩:=hs.hr (h w45)
 refine ep (yW (.inl rfl) (vs:=[(Af v1 0 0 0 r6)]) (v:=(Af v1 0 0 0 r6)) results23 ⟨(rva (isAgg25 _) (sizeOf25 _) (hb.r0 0 6 gZ)),trivial⟩ (by kernel_rfl) ?_)
 exact .inl ⟨v1,0,0,0,⟨#[]⟩,r6,rfl,h⟩
 refine eg (qb (ln (cbr h ?_ ?_)))<;>intro h
 refine jC (jI (by kernel_rfl) (jJ 1 (q0 (vp r1) (jB ?_))))
 have ⟨h,hs⟩:=hs.hr (h H3 w17)
 refine jW (jF rfl) (by intro c hc;cases hc) (xc call37) (h.mono (fun e w46 hh=>hh.elim ?_ (by rintro ⟨ch,rfl,h⟩;exact .inr ⟨ch,rfl,fun ρ'=>.inr ⟨ch,rfl,h⟩⟩)))
 rintro ⟨r7,rfl,hk,h⟩
 refine .inl ⟨_,rfl,?_⟩
 obtain ⟨hs,hb⟩:=hk.hh hs hb
 refine zA (q0 (vp (some (p1.add 1))) (zE (jF rfl) (zN (a:=(p1.add 1)) (v:=(vi r7)) (by kernel_rfl) (by kernel_rfl) rfl (sizeOf3 _) (hb.canW 0 1 gZ (by kernel_rfl))) ?_))
 intro w47 hn20
 have hsb:Hst w0 H3 w46 H3 w47∧HB H3 w47 [(p1,[(vi v1),(vi r7),(vi 0),(vu 0),ve,Sl.nil.v],25)]:=by
  rw [hn20];exact hb.set (i:=0) 1 (v:=(vi r7)) hs gZ (by kernel_rfl)
 obtain ⟨hs,hb⟩:=hsb
 refine ln (jI (by kernel_rfl) (jJ 2 (q0 (vp r1) (q0 (vi deep1) (jB ?_)))))
 have ⟨h,hs⟩:=hs.hr (h w47)
 refine jW (jF rfl) (by intro c hc;cases hc) (xc call41) (h.mono (fun e w48 hh=>hh.elim ?_ (by rintro ⟨ch,rfl,h⟩;exact .inr ⟨ch,rfl,fun ρ'=>.inr ⟨ch,rfl,h⟩⟩)))
 rintro ⟨r8,rfl,hk,h⟩
 refine .inl ⟨_,rfl,?_⟩
 obtain ⟨hs,hb⟩:=hk.hh hs hb
 refine zA (q0 (vp (some (p1.add 5))) (zE (jF rfl) (zN (a:=(p1.add 5)) (v:=r8.v) (by kernel_rfl) (by kernel_rfl) rfl (sizeOf23 _) (hb.canW 0 5 gZ (by kernel_rfl))) ?_))
 intro w49 hn21
 have hsb:Hst w0 H3 w48 H3 w49∧HB H3 w49 [(p1,(Ag v1 r7 0 0 r8),25)]:=by
  rw [hn21];exact hb.set (i:=0) 5 (v:=r8.v) hs gZ (by kernel_rfl)
 obtain ⟨hs,hb⟩:=hsb
 refine jB (kY (jM (eg (q ?_))))
 have ⟨h,hs⟩:=hs.hr (h w49)
 refine sc call35 (h.mono fun e w50 ⟨k,hk,h⟩=>have ⟨hs,hb⟩:=hk.hh hs hb;⟨_,k,?_⟩)
 refine ln (eg (q2 (Af v1 r7 0 0 r8) (xa p1 (Ag v1 r7 0 0 r8) (isAgg25 _) (sizeOf25 _) (hb.r0 0 6 gZ)) (zE (jF rfl) (xo p1 (Ag v1 r7 0 0 r8) (sizeOf25 _) (hb.k0 0 6 gZ)) ?_)))
 intro w51 hn22
 obtain ⟨hs,hb⟩:=hb.st1 0 hs hn22 gZ
 refine ln (er ?_)
 have ⟨h,hs⟩:=hs.hr (h w51)
 refine ep (yW (.inl rfl) (vs:=[(Af v1 r7 0 0 r8)]) (v:=(Af v1 r7 0 0 r8)) results23 ⟨(rva (isAgg25 _) (sizeOf25 _) (hb.r0 0 6 gZ)),trivial⟩ (by kernel_rfl) ?_)
 exact .inl ⟨v1,r7,0,0,⟨#[]⟩,r8,rfl,h⟩
 refine jC (jI (by kernel_rfl) (jJ 1 (q0 (vp r1) (jB ?_))))
 have ⟨h,hs⟩:=hs.hr (h H3 w17)
 refine jW (jF rfl) (by intro c hc;cases hc) (xc call37) (h.mono (fun e w52 hh=>hh.elim ?_ (by rintro ⟨ch,rfl,h⟩;exact .inr ⟨ch,rfl,fun ρ'=>.inr ⟨ch,rfl,h⟩⟩)))
 rintro ⟨r9,rfl,hk,h⟩
 refine .inl ⟨_,rfl,?_⟩
 obtain ⟨hs,hb⟩:=hk.hh hs hb
 refine zA (q0 (vp (some (p1.add 1))) (zE (jF rfl) (zN (a:=(p1.add 1)) (v:=(vi r9)) (by kernel_rfl) (by kernel_rfl) rfl (sizeOf3 _) (hb.canW 0 1 gZ (by kernel_rfl))) ?_))
 intro w53 hn23
 have hsb:Hst w0 H3 w52 H3 w53∧HB H3 w53 [(p1,[(vi v1),(vi r9),(vi 0),(vu 0),ve,Sl.nil.v],25)]:=by
  rw [hn23];exact hb.set (i:=0) 1 (v:=(vi r9)) hs gZ (by kernel_rfl)
 obtain ⟨hs,hb⟩:=hsb
 refine ln (jC (jI (by kernel_rfl) (jJ 1 (q0 (vp r1) (jB ?_)))))
 have ⟨h,hs⟩:=hs.hr (h w53)
 refine jW (jF rfl) (by intro c hc;cases hc) (xc call40) (h.mono (fun e w54 hh=>hh.elim ?_ (by rintro ⟨ch,rfl,h⟩;exact .inr ⟨ch,rfl,fun ρ'=>.inr ⟨ch,rfl,h⟩⟩)))
 rintro ⟨rfl,hk,h⟩
 refine .inl ⟨_,rfl,?_⟩
 obtain ⟨hs,hb⟩:=hk.hh hs hb
 refine zS (jM (jC (jI (by kernel_rfl) (jJ 3 (q0 (vp r1) (q0 (vp (some (p1.add 1))) (q2 (vi r9) (xl (isAgg3 _) (hb.c 0 1 gZ)) (jB (jW (jF rfl) (by intro c hc;cases hc) (xc call37) (h.mono (fun e w55 hh=>hh.elim ?_ (by rintro ⟨ch,rfl,h⟩;exact .inr ⟨ch,rfl,fun ρ'=>.inr ⟨ch,rfl,h⟩⟩))))))))))))
 rintro ⟨r10,rfl,hk,h⟩
 refine .inl ⟨_,rfl,?_⟩
 obtain ⟨hs,hb⟩:=hk.hh hs hb
 refine zA (q0 (vp (some (p1.add 2))) (zE (jF rfl) (zN (a:=(p1.add 2)) (v:=(vi r10)) (by kernel_rfl) (by kernel_rfl) rfl (sizeOf3 _) (hb.canW 0 2 gZ (by kernel_rfl))) ?_))
 intro w56 hn24
 have hsb:Hst w0 H3 w55 H3 w56∧HB H3 w56 [(p1,[(vi v1),(vi r9),(vi r10),(vu 0),ve,Sl.nil.v],25)]:=by
  rw [hn24];exact hb.set (i:=0) 2 (v:=(vi r10)) hs gZ (by kernel_rfl)
 obtain ⟨hs,hb⟩:=hsb
 refine ln (jI (by kernel_rfl) (jJ 2 (q0 (vp r1) (q0 (vi deep1) (jB ?_)))))
 have ⟨h,hs⟩:=hs.hr (h w56)
 refine jW (jF rfl) (by intro c hc;cases hc) (xc call41) (h.mono (fun e w57 hh=>hh.elim ?_ (by rintro ⟨ch,rfl,h⟩;exact .inr ⟨ch,rfl,fun ρ'=>.inr ⟨ch,rfl,h⟩⟩)))
 rintro ⟨r11,rfl,hk,h⟩
 refine .inl ⟨_,rfl,?_⟩
 obtain ⟨hs,hb⟩:=hk.hh hs hb
 refine zA (q0 (vp (some (p1.add 5))) (zE (jF rfl) (zN (a:=(p1.add 5)) (v:=r11.v) (by kernel_rfl) (by kernel_rfl) rfl (sizeOf23 _) (hb.canW 0 5 gZ (by kernel_rfl))) ?_))
 intro w58 hn25
 have hsb:Hst w0 H3 w57 H3 w58∧HB H3 w58 [(p1,(Ag v1 r9 r10 0 r11),25)]:=by
  rw [hn25];exact hb.set (i:=0) 5 (v:=r11.v) hs gZ (by kernel_rfl)
 obtain ⟨hs,hb⟩:=hsb
 refine jB (kY (jM (eg (q ?_))))
 have ⟨h,hs⟩:=hs.hr (h w58)
 refine sc call35 (h.mono fun e w59 ⟨k,hk,h⟩=>have ⟨hs,hb⟩:=hk.hh hs hb;⟨_,k,?_⟩)
 refine ln (eg (q2 (Af v1 r9 r10 0 r11) (xa p1 (Ag v1 r9 r10 0 r11) (isAgg25 _) (sizeOf25 _) (hb.r0 0 6 gZ)) (zE (jF rfl) (xo p1 (Ag v1 r9 r10 0 r11) (sizeOf25 _) (hb.k0 0 6 gZ)) ?_)))
 intro w60 hn26
 obtain ⟨hs,hb⟩:=hb.st1 0 hs hn26 gZ
 refine ln (er ?_)
 have ⟨h,hs⟩:=hs.hr (h w60)
 refine ep (yW (.inl rfl) (vs:=[(Af v1 r9 r10 0 r11)]) (v:=(Af v1 r9 r10 0 r11)) results23 ⟨(rva (isAgg25 _) (sizeOf25 _) (hb.r0 0 6 gZ)),trivial⟩ (by kernel_rfl) ?_)
 exact .inl ⟨v1,r9,r10,0,⟨#[]⟩,r11,rfl,h⟩
 refine cbr h ?_ ?_<;>intro h
 refine rg (q (qm h fun a5 h=>q ?_))
 have ⟨h,hs⟩:=hs.hr (h H2 w16)
 refine ql (isAgg3 _) h fun v4 h=>q (qm h fun a6 h=>q (st2 (sizeOf3 _) hs hb h fun w61 hs hb h=>ln ⟨H2,hm,hs,hb,h⟩))
 refine jG ?_
 have ⟨h,hs⟩:=hs.hr (h H2 w16)
 refine jM ⟨H2,hm,hs,hb,h⟩
 refine cbr h ?_ ?_<;>intro h
 refine jI (by kernel_rfl) (jJ 5 (q0 (vp r1) (q0 (vp r1) (qm h fun a7 h=>q (ql (isAgg3 _) h fun v5 h=>jB (jW (jF rfl) (by intro c hc;cases hc) (xc call24) (h.mono (fun e w62 hh=>hh.elim ?_ (by rintro ⟨ch,rfl,h⟩;exact .inr ⟨ch,rfl,fun ρ'=>.inr ⟨ch,rfl,h⟩⟩)))))))))
 rintro ⟨rfl,hk,h⟩
 refine .inl ⟨_,rfl,?_⟩
 obtain ⟨hs,hb⟩:=hk.hh hs hb
 refine zS (jM ⟨H,hm,hs,hb,h⟩)
 refine jG (jM ⟨H,hm,hs,hb,h⟩)
 refine rg (q (qm h fun a8 h=>q (ql (isAgg3 _) h fun v6 h=>qb (jN 3 (fun ρ wJ=>∃b3'0:Bool,∃HJ:NP,((v6 == 4096)=b3'0)∧Hst w0 H w HJ wJ∧HB HJ wJ [(p1,[(vi v1),(vi 0),(vi 0),(vu 0),ve,Sl.nil.v],25)]∧Has ρ [(0,(vp r1)),(1,(vi deep1)),(4,(vp (some p1))),(5,(.int .u8 r2)),(36,(vb (b3'0 || (deep1 == 64))))]) ?_ ?_))))
 rintro ρ w63 ⟨b3'0,H6,he0,hs,hb,hH⟩
 subst he0
 refine jU hH (jB ?_)
 have ⟨h,hs⟩:=hs.hr (h H6 w63)
 refine jM ⟨((v6 == 4096) || (deep1 == 64)),H6,hm,hs,hb,h⟩
 rcases bte (v6 == 4096) with hg4 | hg4
 refine sj2 33 hg4 (q2 (vb true) (xT hg4) (jB ⟨true,_,hg4,hs,hb,hm⟩))
 refine qk 33 hg4 (qk 33 hg4 (q2 (vb (deep1 == 64)) (xF hg4) (jB ⟨false,_,hg4,hs,hb,hm⟩)))
 refine cbr h ?_ ?_<;>intro h
 refine jI (by kernel_rfl) (jJ 5 (q0 (vp r1) (q0 (vp r1) (qm h fun a9 h=>q ?_))))
 have ⟨h,hs⟩:=hs.hr (h w14)
 refine ql (isAgg3 _) h fun v7 h=>jB (jW (jF rfl) (by intro c hc;cases hc) (xc call24) (h.mono (fun e w64 hh=>hh.elim ?_ (by rintro ⟨ch,rfl,h⟩;exact .inr ⟨ch,rfl,fun ρ'=>.inr ⟨ch,rfl,h⟩⟩))))
 rintro ⟨rfl,hk,h⟩
 refine .inl ⟨_,rfl,?_⟩
 obtain ⟨hs,hb⟩:=hk.hh hs hb
 refine zS (jM ⟨H1,hm,hs,hb,h⟩)
 refine jG ?_
 have ⟨h,hs⟩:=hs.hr (h w14)
 refine jM ⟨H1,hm,hs,hb,h⟩
end Go.Proofs
end
section
open Go Go.SE
namespace Go.Proofs
open Tryd
attribute [local irreducible] Calls
abbrev Spk (w:World) (a:Addr) (x:ByteArray) (i n:Nat):Prop:=Box w a [.string x,.int .i64 (i:Int),.int .i64 (n:Int)] 56
abbrev bts (x:ByteArray):List UInt8:=x.data.toList
def flt (e:Int) (i:Nat):List PanicEntry:=[{ v:=.iface 53 (.agg #[.int .i64 e,.int .i64 (i:Int)]),recovered:=false }]
theorem kO (x:ByteArray):(bts x).length=x.size:=by rw [bts,Array.length_toList];rfl
theorem qP (x:ByteArray) (n:Nat) (h:n<(bts x).length) (w:World):(Instr.index 9 (.string x) (.int .i64 (n:Int))).run prog w=.ok (.int .u8 ((bts x)[n].toNat:Int)) w:=jGS x n h w
def lQ {α:Type} (w0:World) (a:Addr) (x:ByteArray) (n:Nat) (val:α→Value) (e:Ending) (w':World):Sp.Rr α→Prop
 | .ok v j=>e=.returned (val v)∧Spk w' a x j n∧Ext (·=a.block) w0 w'
 | .no er i=>e=.panicked (flt er i)∧Ext (·=a.block) w0 w'
theorem lQ.pre {α:Type} {w0 w1 w':World} {a:Addr} {x:ByteArray} {n:Nat} {val:α→Value} {e:Ending} {r:Sp.Rr α} (E:Ext (·=a.block) w0 w1) (h:lQ w1 a x n val e w' r):lQ w0 a x n val e w' r:=by
 cases r with
 | ok v j=>exact ⟨h.1,h.2.1,E.trans h.2.2⟩
 | no er i=>exact ⟨h.1,E.trans h.2⟩
section
variable {w w':World} {a:Addr} {x:ByteArray} {i n:Nat}
theorem zH (h:Spk w a x i n):w.cell? (a.add 1)=some (.int .i64 (i:Int)):=h.cell (i:=1) rfl
theorem spk_n (h:Spk w a x i n):w.cell? (a.add 2)=some (.int .i64 (n:Int)):=h.cell (i:=2) rfl
theorem kK (h:Spk w a x i n) (k:Nat):Spk (w.setCell (a.add 1) (.int .i64 (k:Int))) a x k n:=h.set 1 _
theorem jDR (h:Spk w a x i n) (k:Nat):Spk (w.setCell (a.add 2) (.int .i64 (k:Int))) a x i k:=h.set 2 _
theorem kP {k:Nat} {v:Value}:Ext (·=a.block) w (w.setCell (a.add k) v):=(Ext.setCell _ _).mono (fun i _ e=>by rw [kA] at e;exact e)
theorem zV {k m:Nat} (h:k≤m) (hm:m≤100000000):IntKind.i64.wrap ((k:Int)+1)=((k+1:Nat):Int):=by rw [IntWalk.i64_in _ (by omega)];omega
end
theorem zY (r:Option Addr) (e:Int) (i:Int) (w0:World):Calls prog 24 #[.pointer r,.int .i64 e,.int .i64 i] w0 (fun e' w'=>e'=.panicked [{ v:=.iface 53 (.agg #[.int .i64 e,.int .i64 i]),recovered:=false }]∧w'=w0):=by
 refine (w_L1 r e i w0 (fun o w'=>o=some [{ v:=.iface 53 (.agg #[.int .i64 e,.int .i64 i]),recovered:=false }]∧w'=w0) ?_).mono ?_
 ·unfold m_L1;exact ⟨rfl,rfl⟩
 ·rintro e w' (⟨rfl,h,_⟩ | ⟨ch,rfl,h,rfl⟩)
  ·cases h
  ·cases h;exact ⟨rfl,rfl⟩
section
variable (a:Addr) (x:ByteArray) (i n:Nat) (w0:World) (h:Spk w0 a x i n) (hi:i≤(bts x).length)
include h hi
theorem xN:Calls prog 36 #[.pointer (some a)] w0 (fun e w'=>(∃c,(bts x)[i]?=some c∧e=.returned (.int .u8 (c.toNat:Int))∧Pure w0 w')∨((bts x)[i]?=none∧e=.panicked (flt 3 i)∧Pure w0 w')):=by
 refine (w_M1 (some a) w0 (fun o r w'=>(∃c,(bts x)[i]?=some c∧o=none∧r=(c.toNat:Int)∧Pure w0 w')∨((bts x)[i]?=none∧o=some (flt 3 i)∧Pure w0 w')) ?_).mono ?_
 ·unfold m_M1;have hl:=kO x;refine ⟨a,rfl,fun w1 hs=>?_⟩;have h1:=h.pure hs.first;refine ⟨_,zH h1,a,rfl,x,h1.cell0,fun hc=>?_,fun hc=>?_⟩
  ·have hc:i=(bts x).length:=by have:=beq_iff_eq.1 hc;omega
   refine ⟨a,rfl,_,zH h1,?_⟩;refine (zY (some a) 3 i w1).mono ?_;rintro _ w2 ⟨rfl,rfl⟩;exact .inr ⟨_,rfl,.inr ⟨List.getElem?_eq_none (by omega),rfl,hs.first⟩⟩
  ·have hc:i<(bts x).length:=by have:=beq_eq_false_iff_ne.1 hc;omega
   refine ⟨a,rfl,fun w4 hs4=>?_⟩;have E4:=hs.first.hst hs4;have h4:=h.pure E4;refine ⟨x,h4.cell0,a,rfl,_,zH h4,_,qP x i hc w4,.inl ⟨_,List.getElem?_eq_getElem hc,rfl,rfl,E4⟩⟩
 ·rintro e w' (⟨r,rfl,hh⟩ | ⟨ch,rfl,hh⟩)
  ·rcases hh with ⟨c,h1,_,rfl,h2⟩ | ⟨_,hh,_⟩
   ·exact .inl ⟨c,h1,rfl,h2⟩
   ·cases hh
  ·rcases hh with ⟨c,_,hh,_⟩ | ⟨h1,hh,h2⟩
   ·cases hh
   ·cases hh;exact .inr ⟨h1,rfl,h2⟩
theorem yS (c:Nat) (hc:(bts x).length≤10000000):Calls prog 40 #[.pointer (some a),.int .u8 (c:Int)] w0 (fun e w'=>lQ w0 a x n (fun _=>.tuple #[]) e w' (Sp.zU (bts x) c i)):=by
 refine (w_O1 (some a) c w0 (fun o w'=>lQ w0 a x n (fun _=>.tuple #[]) (match o with | none=>.returned (.tuple #[]) | some ch=>.panicked ch) w' (Sp.zU (bts x) c i)) ?_).mono ?_
 ·unfold m_O1;refine (xN a x i n w0 h hi).mono ?_;unfold Sp.zU;rintro e w1 (⟨d,hd,rfl,E1⟩ | ⟨hd,rfl,E1⟩)
  ·rw [hd];have h1:=h.pure E1;refine .inl ⟨_,rfl,fun hc=>⟨a,rfl,_,zH h1,?_⟩,fun hc=>⟨a,rfl,_,zH h1,a,rfl,h1.canW (i:=1) (by simp),?_⟩⟩
   ·refine (zY (some a) 60 i w1).mono ?_;rintro _ w2 ⟨rfl,rfl⟩;refine .inr ⟨_,rfl,?_⟩;simp only;rw [if_neg (by have:=bne_iff_ne.1 hc;omega)];exact ⟨rfl,E1.pure⟩
   ·rintro w4 rfl;simp only;rw [if_pos (by have:(d.toNat:Int)=(c:Int):=(by simpa using hc);omega),zV hi (by omega)];exact ⟨rfl,kK h1 (i+1),E1.pure.trans kP⟩
  ·rw [hd];exact .inr ⟨_,rfl,rfl,E1.pure⟩
 ·rintro e w' (⟨rfl,hh⟩ | ⟨ch,rfl,hh⟩) <;> exact hh
theorem jDI (hc:(bts x).length≤10000000):Calls prog 55 #[.pointer (some a)] w0 (fun e w'=>lQ w0 a x n (fun v:Nat=>.int .u8 (v:Int)) e w' (Sp.kT (bts x) i)):=by
 refine (w_P1 (some a) w0 (fun o r w'=>lQ w0 a x n (fun v:Nat=>.int .u8 (v:Int)) (match o with | none=>.returned (.int .u8 r) | some ch=>.panicked ch) w' (Sp.kT (bts x) i)) ?_).mono ?_
 ·unfold m_P1;refine (xN a x i n w0 h hi).mono ?_;unfold Sp.kT;rintro e w1 (⟨d,hd,rfl,E1⟩ | ⟨hd,rfl,E1⟩)
  ·rw [hd];have h1:=h.pure E1;have hlt:=d.toNat_lt;have wr:∀k:Nat,k≤d.toNat→IntKind.u8.wrap ((d.toNat:Int) - (k:Int))=((d.toNat - k:Nat):Int):=fun k hk=>by
    rw [show (d.toNat:Int) - (k:Int)=((d.toNat - k:Nat):Int) by omega];simp [IntKind.wrap,IntKind.bits,IntKind.signed];omega
   have fin:∀k v:Nat,k≤d.toNat→Sp.tU d.toNat=some v→v=d.toNat - k→∀w5,w5=w1.setCell (a.add 1) (.int .i64 (IntKind.i64.wrap ((i:Int)+1)))→lQ w0 a x n (fun v:Nat=>.int .u8 (v:Int)) (.returned (.int .u8 (IntKind.u8.wrap ((d.toNat:Int) - (k:Int))))) w5 (match Sp.tU d.toNat with | none=>.no 60 i | some v=>.ok v (i+1)):=fun k v hk hv e w5 hw=>by
    rw [hv,hw,wr k hk,zV hi (by omega)];exact ⟨by rw [e],kK h1 (i+1),E1.pure.trans kP⟩
   refine .inl ⟨_,rfl,fun hc=>⟨a,rfl,_,zH h1,a,rfl,h1.canW (i:=1) (by simp),fin 48 _ ?_ ?_ rfl⟩,fun h9=>⟨fun hc=>⟨a,rfl,_,zH h1,a,rfl,h1.canW (i:=1) (by simp),fin 87 _ ?_ ?_ rfl⟩,fun hf=>⟨fun hc=>⟨a,rfl,_,zH h1,a,rfl,h1.canW (i:=1) (by simp),fin 55 _ ?_ ?_ rfl⟩,fun hF=>⟨a,rfl,_,zH h1,?_⟩⟩⟩⟩
   ·simp at hc;omega
   ·simp at hc;unfold Sp.tU;rw [if_pos (by omega)]
   ·simp at hc;omega
   ·simp at hc h9;unfold Sp.tU;rw [if_neg (by omega),if_pos (by omega)]
   ·simp at hc;omega
   ·simp at hc h9 hf;unfold Sp.tU;rw [if_neg (by omega),if_neg (by omega),if_pos (by omega)]
   ·refine (zY (some a) 60 i w1).mono ?_;rintro _ w2 ⟨rfl,rfl⟩;refine .inr ⟨_,rfl,?_⟩;have:Sp.tU d.toNat=none:=by simp at h9 hf hF;unfold Sp.tU;rw [if_neg (by omega),if_neg (by omega),if_neg (by omega)]
    simp only [this];exact ⟨rfl,E1.pure⟩
  ·rw [hd];exact .inr ⟨_,rfl,rfl,E1.pure⟩
 ·rintro e w' (⟨r,rfl,hh⟩ | ⟨ch,rfl,hh⟩) <;> exact hh
theorem xM (hc:(bts x).length≤10000000):Calls prog 35 #[.pointer (some a)] w0 (fun e w'=>e=.returned (.tuple #[])∧Spk w' a x (Sp.jQ (bts x) i) n∧Ext (·=a.block) w0 w'):=by
 refine w_V (some a) w0 (fun w'=>Spk w' a x (Sp.jQ (bts x) i) n∧Ext (·=a.block) w0 w') ?_;unfold m_V;have hl:=kO x;have hbb:=Sp.kH hi;refine ⟨fun _ w=>∃j:Nat,i≤j∧j≤(bts x).length∧Sp.jQ (bts x) j=Sp.jQ (bts x) i∧Spk w a x j n∧Ext (·=a.block) w0 w,fun w=>match w.cell? (a.add 1) with | some (.int _ k)=>((bts x).length - k.toNat) | _=>0,⟨i,Nat.le_refl _,hi,rfl,h,Ext.refl _⟩,?_⟩;rintro Hl wl hsl ⟨j,hij,hj,he,hR,hE⟩;unfold m_V_l1;refine ⟨a,rfl,fun w1 hs1=>?_⟩;have hna:¬ Hl a.block:=fun hb=>by have:=hsl.old _ hb;have:=h.lt;omega
 have hR1:=hR.ext hs1.ext hna;have hE1:=hE.trans' hs1.ext (fun b hb hh=>by have:=hsl.old _ hh;omega);have done:Sp.jQ (bts x) j=j→Spk w1 a x (Sp.jQ (bts x) i) n∧Ext (·=a.block) w0 w1:=fun e=>by
  rw [← he,e];exact ⟨hR1,hE1⟩
 refine ⟨_,zH hR1,a,rfl,x,hR1.cell0,fun hc=>?_,fun hc=>done (Sp.qB (by have:=of_decide_eq_false hc;omega))⟩;have hlt:j<(bts x).length:=by have:=of_decide_eq_true hc;omega
 refine ⟨a,rfl,x,hR1.cell0,a,rfl,_,zH hR1,_,qP x j hlt w1,fun hb=>?_,fun hb=>done (Sp.uG hlt (by have:=beq_eq_false_iff_ne.1 hb;omega))⟩;have hb:(bts x)[j].toNat=32:=by have:=beq_iff_eq.1 hb;omega
 refine ⟨a,rfl,_,zH hR1,a,rfl,hR1.canW (i:=1) (by simp),?_,?_⟩
 ·exact hna
 ·rintro w2 rfl;rw [zV (show j≤(bts x).length by omega) (by omega)];refine ⟨⟨j+1,by omega,hlt,by rw [← he,Sp.uH hlt hb],kK hR1 (j+1),hE1.trans kP⟩,?_⟩;show (match (w1.setCell (a.add 1) (.int .i64 ((j+1:Nat):Int))).cell? (a.add 1) with | some (.int _ k)=>((bts x).length - k.toNat) | _=>0)<(match wl.cell? (a.add 1) with | some (.int _ k)=>((bts x).length - k.toNat) | _=>0);rw [zH (kK hR1 (j+1)),zH hR];simp only;omega
end
structure AppO (w0:World) (H:NP) (w:World) (b r:Sl) (acc:List UInt8):Prop where
 rows:Rws w 5 1 r (byr acc)
 nh:∀k,r.blk k→¬ H k
 ext:Ext b.blk w0 w
 new:∀k,r.blk k→b.blk k∨w0.heap.size≤k
 oH:∀k,H k→w0.heap.size≤k∧k<w.heap.size
section
variable {w0 w w':World} {H H':NP} {b r:Sl} {acc:List UInt8}
theorem AppO.hst (h:AppO w0 H w b r acc) (hs:Hst w0 H w H' w'):AppO w0 H' w' b r acc:=by
 have hd:=hs.disj (G:=r.blk) (fun k hk=>⟨h.rows.lt hk,h.nh k hk⟩);exact ⟨h.rows.ext hs.ext hd,hd,h.ext.trans' hs.ext (fun k hk hh=>by have:=hs.here.old k hh;omega),h.new,fun k hk=>⟨hs.here.old k hk,hs.here.lt k hk⟩⟩
theorem AppO.pure (h:AppO w0 H w b r acc) (E:Pure w w'):AppO w0 H w' b r acc :=
 ⟨h.rows.pure E,h.nh,h.ext.thenPure E,h.new,fun k hk=>⟨(h.oH k hk).1,by have:=(h.oH k hk).2;have:=E.size;omega⟩⟩
theorem AppO.done (h:AppO w0 H w b r acc):AppR w0 b r acc w:=⟨h.rows,h.ext,h.new⟩
theorem AppO.start (hR:Rws w0 5 1 b (byr acc)):AppO w0 None w0 b b acc:=⟨hR,fun _ _ h=>h,Ext.refl _,fun k hk=>.inl hk,fun k hk=>hk.elim⟩
theorem AppO.call {r2:Sl} {acc2:List UInt8} (h:AppO w0 H w b r acc) (k:AppR w r r2 acc2 w'):Kept H w w'∧AppO w0 H w' b r2 acc2:=by
 have z:=h.ext.size;have z2:=k.ext.size;refine ⟨k.ext.kept (fun i hi hr=>h.nh i hr hi),k.rows,fun i hi hh=>?_,h.ext.trans' k.ext (fun i hi hr=>(h.new i hr).elim id (fun h=>by omega)),fun i hi=>?_,fun i hi=>⟨(h.oH i hi).1,by have:=(h.oH i hi).2;omega⟩⟩
 ·rcases k.new i hi with h1 | h1
  ·exact h.nh i h1 hh
  ·have:=(h.oH i hh).2;omega
 ·rcases k.new i hi with h1 | h1
  ·exact h.new i h1
  ·exact .inr (by omega)
theorem AppO.app (h:AppO w0 H w b r acc) (l:List UInt8) (hne:l≠[]) (hl:acc.length+l.length≤200000000) {p:Addr} {w1:World} (hn:New w (.cells (l.map fun c=>Value.int .u8 (c.toNat:Int)).toArray 5) p w1) :
  ∃s w2,(Builtin.append_ #[49,49] 49 #[r.v,(Sl.mk (some p) l.length l.length).v]).run prog w1=.ok s.v w2∧Kept H w1 w2∧AppO w0 H w2 b s (acc++l):=by
 have E1:Pure w w1:=Ext.new hn
 have h1:=h.pure E1
 obtain ⟨s,w2,hr,R,X,o⟩:=h1.rows.appends (P:=prog) (ty:=49) (qs:=byr l) (c:=l.length) uI (by rw [yU];exact (Box.of_new hn).row) (uL l) (tZ l) (by intro e;exact hne (by simpa [byr] using e)) (by rw [zG,zG];omega) (by rw [zG,zG];simp [maxLen];omega)
 rw [zG] at hr
 obtain ⟨k1,k2⟩:=h1.call (r2:=s) (acc2:=acc++l) ⟨by simpa [byr] using R,X,o⟩
 exact ⟨s,w2,hr,k1,k2⟩
end
theorem jBP (b:Sl) (acc:List UInt8) (c:UInt8) (n:Nat) (hn:n<18446744073709551616) (w0:World) (hR:Rws w0 5 1 b (byr acc)) (hl:acc.length≤90000000) (ht:∀w,Ext b.blk w0 w→Pow w) :
  Calls prog 30 #[b.v,.int .u8 (c.toNat:Int),.int .u64 (n:Int)] w0 (fun e w'=>∃r:Sl,e=.returned r.v∧AppR w0 b r (acc++c :: Lib.decDigits n) w'):=by
 refine w_J1 _ _ _ w0 (fun r w'=>AppR w0 b r (acc++c :: Lib.decDigits n) w') ?_
 unfold m_J1
 intro p1 w1 n1
 obtain ⟨s,w2,hr,_,A⟩:=(AppO.start hR).app [c] (by simp) (by simp only [List.length_append,List.length_cons,List.length_nil];omega) n1
 refine ⟨s,w2,hr,?_⟩
 refine (tB s (acc++[c]) n hn w2 A.rows (by simp;omega) (ht w2 A.ext)).mono ?_
 rintro _ w3 ⟨r1,rfl,hA⟩
 have:=(A.call hA).2.done
 exact ⟨r1,rfl,by simpa using this⟩
theorem jDA (n:Nat) (h:n<16) (w:World):(Instr.index 9 (.string (⟨#[48,49,50,51,52,53,54,55,56,57,97,98,99,100,101,102]⟩:ByteArray)) (.int .u8 (n:Int))).run prog w=.ok (.int .u8 ((Sp.jFO n).toNat:Int)) w:=by
 have hn:n<(⟨#[48,49,50,51,52,53,54,55,56,57,97,98,99,100,101,102]⟩:ByteArray).size:=h;rw [run_index_string w _ _ _ _ underlying9,dif_pos ⟨by omega,by show (n:Int)<16;omega⟩];have he:∀m:Fin 16,((⟨#[48,49,50,51,52,53,54,55,56,57,97,98,99,100,101,102]⟩:ByteArray).data[m.val]!)=Sp.jFO m.val:=by decide +kernel
 have:=he ⟨n,h⟩;simp only at this;rw [← this];simp only [Int.toNat_natCast];rw [getElem!_pos _ n (by exact h)];rfl
theorem jBO (b:Sl) (acc:List UInt8) (x:ByteArray) (w0:World) (hR:Rws w0 5 1 b (byr acc)) (hl:acc.length≤90000000) (hx:x.size≤1000000) :
  Calls prog 31 #[b.v,.string x] w0 (fun e w'=>∃r:Sl,e=.returned r.v∧AppR w0 b r (acc++Sp.quoT (bts x)) w'):=by
 refine w_U _ _ w0 (fun r w'=>AppR w0 b r (acc++Sp.quoT (bts x)) w') ?_
 unfold m_U
 have hbl:=kO x
 intro p1 w1 n1
 obtain ⟨s,w2,hr,k2,A⟩:=(AppO.start hR).app [34] (by simp) (by simp;omega) n1
 refine ⟨s,w2,hr,k2,?_⟩
 refine ⟨fun b2 i H w=>∃j:Nat,i=j∧j≤(bts x).length∧AppO w0 H w b b2 (acc++34 :: ((bts x).take j).flatMap Sp.tO),fun _ i _=>(((bts x).length:Int) - i).toNat,⟨0,rfl,Nat.zero_le _,by simpa using A⟩,?_⟩
 rintro b2 _ Hl wl hsl ⟨j,rfl,hj,O⟩
 unfold m_U_l1
 have hlen:((((bts x).take j).flatMap Sp.tO)).length≤4000000:=by
  have:=Sp.gM ((bts x).take j);rw [List.length_take] at this;omega
 have step : ∀ {s : Sl} {H : NP} {w : World} (hlt : j < (bts x).length), AppO w0 H w b s ((acc ++ 34 :: ((bts x).take j).flatMap Sp.tO) ++ Sp.tO (bts x)[j]) →
   (fun (b2:Sl) (i:Int) (H:NP) (w:World)=>(∃j:Nat,i=j∧j≤(bts x).length∧AppO w0 H w b b2 (acc++34 :: ((bts x).take j).flatMap Sp.tO))∧(fun (_:Sl) i (_:World)=>(((bts x).length:Int) - i).toNat) b2 i w<(fun (_:Sl) i (_:World)=>(((bts x).length:Int) - i).toNat) b2 (j:Int) wl) s (IntKind.i64.wrap ((j:Int)+1)) H w:=fun {s H w} hlt A=>by
  rw [lT hlt (by omega)]
  refine ⟨⟨j+1,rfl,hlt,?_⟩,jFM hlt⟩
  rw [List.take_succ_eq_append_getElem hlt,List.flatMap_append]
  simpa using A
 refine ⟨fun hlt=>?_,fun hlt=>?_⟩
 ·have hlt:j<(bts x).length:=by have:=of_decide_eq_true hlt;omega
  refine ⟨_,qP x j hlt wl,?_⟩
  generalize hc:(bts x)[j]=c at *
  have hc256:=c.toNat_lt
  refine ⟨fun h1=>fun H2 w4 hs4=>?_,fun h1=>⟨fun h2=>fun H5 w9 hs9=>?_,fun h2=>fun H5 w9 hs9=>?_⟩⟩
  ·have h1:c.toNat=34∨c.toNat=92:=by simp at h1;omega
   have O4:=O.hst hs4
   intro p2 w6 n6
   obtain ⟨s3,w7,hr7,k7,A7⟩:=O4.app [92,c] (by simp) (by simp only [List.length_append,List.length_cons,List.length_nil];omega) n6
   refine ⟨s3,w7,hr7,k7,step hlt ?_⟩
   rw [hc,show Sp.tO c=[92,c] by unfold Sp.tO;rw [if_pos h1]];exact A7
  ·have h1:¬ (c.toNat=34∨c.toNat=92):=by simp at h1;omega
   have h2:c.toNat<32∨126<c.toNat:=by simp at h2;omega
   have O9:=(O.hst hs9).pure (Ext.drew w9)
   refine ⟨fun _=>True,trivial,?_⟩
   rintro _ rfl
   refine ⟨_,jDW c.toNat _,_,jDA (c.toNat / 16) (by omega) _,_,jCI c.toNat hc256 _,_,jDA (c.toNat % 16) (by omega) _,?_⟩
   intro p3 w12 n12
   obtain ⟨s4,w13,hr13,k13,A13⟩:=O9.app [92,120,Sp.jFO (c.toNat / 16),Sp.jFO (c.toNat % 16)] (by simp) (by simp only [List.length_append,List.length_cons,List.length_nil];omega) n12
   refine ⟨trivial,s4,w13,hr13,trivial,k13,step hlt ?_⟩
   rw [hc,show Sp.tO c=[92,120,Sp.jFO (c.toNat / 16),Sp.jFO (c.toNat % 16)] by unfold Sp.tO;rw [if_neg h1,if_pos h2]];exact A13
  ·have h1:¬ (c.toNat=34∨c.toNat=92):=by simp at h1;omega
   have h2:¬ (c.toNat<32∨126<c.toNat):=by simp at h2;omega
   have O9:=O.hst hs9
   intro p4 w14 n14
   obtain ⟨s5,w15,hr15,k15,A15⟩:=O9.app [c] (by simp) (by simp only [List.length_append,List.length_cons,List.length_nil];omega) n14
   refine ⟨s5,w15,hr15,k15,step hlt ?_⟩
   rw [hc,show Sp.tO c=[c] by unfold Sp.tO;rw [if_neg h1,if_neg h2]];exact A15
 ·have:j=(bts x).length:=by have:=of_decide_eq_false hlt;omega
  subst this
  rw [List.take_length] at O hlen
  intro p5 w16 n16
  obtain ⟨s6,w17,hr17,k17,A17⟩:=O.app [34] (by simp) (by simp only [List.length_append,List.length_cons,List.length_nil];omega) n16
  refine ⟨s6,w17,hr17,k17,?_⟩
  have:=A17.done
  simpa [Sp.quoT] using this
end Go.Proofs
end
section
open Go Go.SE
namespace Go.Proofs
attribute [local irreducible] wpL wpX opE wpE Calls
end Go.Proofs
end
section
open Go Go.SE
namespace Go.Proofs
attribute [local irreducible] Calls
section
variable {S:NP} (w:World) (hS:∀b,w.heap.size≤b→S b)
include hS
end
end Go.Proofs
end
section
open Go Go.SE
namespace Go.Sp
end Go.Sp
end
section
namespace Go.Sp
theorem jCO (L:Pool) (n:Node):(make L n).2.2.length≤L.length+1:=by
 rcases oI L n with e | ⟨_,e⟩ <;> rw [e] <;> simp
end Go.Sp
end
