import Derived.Test.YtkafbiknboamlaaProg
import Derived.KernelRfl
import Derived.Test.YtkafbiknboamlaaPa0
import Derived.IntWalk
section
open Go Go.SE
open Go.IntKind renaming i64 → q6
namespace Go.Proofs
open Try
set_option maxRecDepth 100000
set_option maxHeartbeats 4000000
attribute [local irreducible] wpL wpX opE wpE Calls
def m_Q1 (p1:Option Addr) (t1:Int) (w:World) (K:Int→Int→Int→Int→ByteArray→Int→Int→Bool→WP):Prop :=∀p2 w1,New w (.cells #[(vi 0),(vi 0),(vi 0),(vu 0),ve,(vi 0),(vi 0)] 51) p2 w1→Calls prog 28 #[(vp p1),(vi t1)] w1 (fun e w2=>∃r1,e=.returned (vb r1)∧Br (!r1) ((∀j,j<7→zS w2 (p2.add j))∧∀w3,w3=storeRow w2 p2 (Ak 0 0 0 0 0 0)→∃bU bV bW bX bY bZ cA,Row w3 p2 (Aa bU bV bW bX bY bZ cA)∧K bU bV bW bX bY bZ cA false w3) (∃a1,p1=some a1∧∃v1:Sl,w2.cell? a1=some v1.v∧∃a2:Addr,At v1 (q6.wrap (t1 - 1)) 9 a2∧∃aA aB aC aD aE aF aG,Row w2 a2 (Aa aA aB aC aD aE aF aG)∧(∀j,j<7→zS w2 (p2.add j))∧∀w4,w4=storeRow w2 p2 (Aa aA aB aC aD aE aF aG)→∃cD cE cF cG cH cI cJ,Row w4 p2 (Aa cD cE cF cG cH cI cJ)∧K cD cE cF cG cH cI cJ true w4))
theorem w_Q1 (p1 t1 w K) (h:m_Q1 p1 t1 w K):
  Calls prog 14 #[(vp p1),(vi t1)] w (fun e w'=>∃bN bO bP bQ bR bS bT r2,e=.returned (.tuple #[(Ab bN bO bP bQ bR bS bT),(vb r2)])∧K bN bO bP bQ bR bS bT r2 w'):=by
 refine cw (args:=[(vp p1),(vi t1)]) func14 ntmps14 (eg (sn (O:=(.cells #[(vi 0),(vi 0),(vi 0),(vu 0),ve,(vi 0),(vi 0)] 51)) (jX (zeroValue51 _) rfl) ?_))
 intro p2 w1 hn3
 have h:=h p2 w1 hn3
 refine q (ln (jA (eg (qb (sc call28 (h.mono fun e w2 ⟨r1,k,h⟩=>⟨_,k,?_⟩))))))
 refine q (ln (cbr h ?_ ?_))<;>intro h
 refine eg (q (sro (sizeOf51 _) h fun w3 h=>q (ln (er (zI ?_)))))
 obtain ⟨bU,bV,bW,bX,bY,bZ,cA,hv1,h⟩:=h
 refine gg2 results14 (rva (isAgg51 _) (sizeOf51 _) hv1) (rvU (vb false)) ⟨bU,bV,bW,bX,bY,bZ,cA,false,rfl,h⟩
 refine jC (jI (eg (q (qm h fun a1 h=>q (ql (isAgg79 _) h fun v1 h=>qb (qi (runUnderlying79 _) (sizeOf78 _) h fun a2 h=>q ?_))))))
 obtain ⟨aA,aB,aC,aD,aE,aF,aG,hv3,h⟩:=h
 refine qa (isAgg51 _) (sizeOf51 _) hv3 (sro (sizeOf51 _) h fun w4 h=>q (ln (er ?_)))
 obtain ⟨cD,cE,cF,cG,cH,cI,cJ,hv2,h⟩:=h
 refine gg2 results14 (rva (isAgg51 _) (sizeOf51 _) hv2) (rvU (vb true)) ⟨cD,cE,cF,cG,cH,cI,cJ,true,rfl,h⟩
def m_R1  (w:World) (K:(Option Addr)→WP):Prop :=∀p1 w1,New w (.map #[] 0) p1 w1→∀p2 w2,New w1 (.cells #[Sl.nil.v,(.map (some p1.block))] 82) p2 w2→K (some p2) w2
theorem w_R1  (w:World) (K:(Option Addr)→WP) (h:m_R1  w K) :
  Calls prog 15 #[] w (fun e w'=>∃r1,e=.returned (vp r1)∧K r1 w'):=by
 refine cw (args:=[]) func15 ntmps15 (eg (q0 (vp none) (ln (eg (qT (O:=(.map #[] 0)) (fun p=>.map (some p.block)) (jM rfl) (by kernel_rfl) ?_)))))
 intro p1 w1 hn2
 have h:=h p1 w1 hn2
 refine q (nw1 h xb fun p2 w2 h=>q (ln (er (rs1 results15 ⟨(some p2),rfl,h⟩))))
def m_J1 (p1:Option Addr) (aM aN:Int) (aO aP:Int) (aQ:ByteArray) (aR:Sl) (w:World) (K:Int→Int→WP):Prop :=∀p2 w1,New w (.cells #[(vi aM),(vi aN),(vi aO),(vu aP),(vs aQ),aR.v] 47) p2 w1→Br (Option.isNone p1) (K 0 0 w1) (∀p3 w2,New w1 (.cells #[(vi 0)] 3) p3 w2→zS w2 p3∧∀w3,w3=w2.setCell p3 (vi 0)→∃aA aB aC aD aE bF,Row w3 p2 (Af aA aB aC aD aE bF)∧Calls prog 29 #[(.agg #[(vi aA),(vi aB),(vi aC),(vu aD),(vs aE),bF.v]),(vi 0),(vp (some p3))] w3 (fun e w4=>∃r1,e=.returned (vi r1)∧Br (r1 != 0) (K 0 r1 w4) (∃a1,p1=some a1∧∃v1:Sl,w4.cell? a1=some v1.v∧∃aH aI aJ aK aL bE,Row w4 p2 (Af aH aI aJ aK aL bE)∧Calls prog 30 #[(vp p1),(.agg #[(vi aH),(vi aI),(vi aJ),(vu aK),(vs aL),bE.v])] w4 (fun e w5=>∃r2 r3,e=.returned (.tuple #[(vi r2),(vi r3)])∧Br (r3 != 0) (Calls prog 31 #[(vp p1),(vi (v1.len:Int))] w5 (fun e w6=>e=.returned (.tuple #[])∧K 0 r3 w6)) (K r2 0 w5)))))
theorem w_J1 (p1 aM aN aO aP aQ aR w K) (h:m_J1 p1 aM aN aO aP aQ aR w K):
  Calls prog 18 #[(vp p1),(.agg #[(vi aM),(vi aN),(vi aO),(vu aP),(vs aQ),aR.v])] w (fun e w'=>∃r4 r5,e=.returned (.tuple #[(vi r4),(vi r5)])∧K r4 r5 w'):=by
 refine cw (args:=[(vp p1),(Ag aM aN aO aP aQ aR)]) func18 ntmps18 (eg (sn (O:=(.cells #[(vi aM),(vi aN),(vi aO),(vu aP),(vs aQ),aR.v] 47)) xb ?_))
 intro p2 w1 hn3
 have h:=h p2 w1 hn3
 refine qb (ln (jA (eg (q (q2 (vb (Option.isNone p1)) (vS (by kernel_rfl) rfl underlying36) (ln (cbr h ?_ ?_)))))))<;>intro h
 refine eg (qb (ln (er (zI (kB (.inl rfl) results18 (v:=(vi 0)) (by kernel_rfl) (v':=(vi 0)) (by kernel_rfl) ⟨0,0,rfl,h⟩)))))
 refine jC (jI (eg (nw1 h (jX (zeroValue3 _) rfl) fun p3 w2 h=>st1 (sizeOf3 _) h fun w3 h=>ln (jA (eg ?_)))))
 obtain ⟨aA,aB,aC,aD,aE,bF,hv3,h⟩:=h
 refine qa (isAgg47 _) (sizeOf47 _) hv3 (sc call29 (h.mono fun e w4 ⟨r1,k,h⟩=>⟨_,k,?_⟩))
 refine q (ln (eg (qb (ln (cbr h ?_ ?_)))))<;>intro h
 refine eg (qc (ln (er (zI (kB (.inl rfl) results18 (v:=(vi 0)) (by kernel_rfl) (v':=(vi r1)) (by kernel_rfl) ⟨0,r1,rfl,h⟩)))))
 refine jC (jI (eg (q (qm h fun a1 h=>q (ql (isAgg79 _) h fun v1 h=>qb (ln (eg (q ?_))))))))
 obtain ⟨aH,aI,aJ,aK,aL,bE,hv1,h⟩:=h
 refine qa (isAgg47 _) (sizeOf47 _) hv1 (sc call30 (h.mono fun e w5 ⟨r2,r3,k,h⟩=>⟨_,k,?_⟩))
 refine q (qd (ln (jA (eg (qb (ln (cbr h ?_ ?_)))))))<;>intro h
 refine eg (qb (sc call31 (h.mono fun e w6 ⟨k,h⟩=>⟨_,k,?_⟩)))
 refine ln (eg (qc (ln (er (zI (kB (.inl rfl) results18 (v:=(vi 0)) (by kernel_rfl) (v':=(vi r3)) (by kernel_rfl) ⟨0,r3,rfl,h⟩))))))
 refine jC (jI (eg (qc (ln (er (kB (.inl rfl) results18 (v:=(vi r2)) (by kernel_rfl) (v':=(vi 0)) (by kernel_rfl) ⟨r2,0,rfl,h⟩))))))
def m_U_j1 (p1:Option Addr) (t1:Int) (x1:Bool) (w:World) (K:Bool→WP):Prop :=Br x1 (∃a1,p1=some a1∧∃v1:Sl,w.cell? a1=some v1.v∧K (decide (t1≤(v1.len:Int))) w) (K false w)
def m_U (p1:Option Addr) (t1:Int) (w:World) (K:Bool→WP):Prop :=Br (!(Option.isNone p1)) (m_U_j1 p1 t1 (decide (t1≥1)) w K) (m_U_j1 p1 t1 false w K)
theorem w_U (p1 t1 w K) (h:m_U p1 t1 w K):
  Calls prog 28 #[(vp p1),(vi t1)] w (fun e w'=>∃r1,e=.returned (vb r1)∧K r1 w'):=by
 refine cw (args:=[(vp p1),(vi t1)]) func28 ntmps28 (eg (q0 (vb false) (ln (eg (q0 (vp p1) (q2 (vb (!(Option.isNone p1))) (jFF (by kernel_rfl) rfl underlying36) (q0 (vb (!(Option.isNone p1))) ?_)))))))
 refine jE 3 (fun ρ w=>∃x1,Has ρ [(0,(vp p1)),(1,(vi t1)),(10,(vb x1))]∧m_U_j1 p1 t1 x1 w K) ?_ ?_
 rintro ρ w ⟨x1,hH,h⟩
 refine jJ hH (q ?_)
 obtain ⟨hg1,h⟩|⟨hg1,h⟩:=h.br
 refine qk 11 hg1 (qk 11 hg1 ?_)
 obtain ⟨a1,hp1,h⟩:=h
 refine q4 11 hg1 (xn hp1) (qk 11 hg1 ?_)
 obtain ⟨v1,hv1,h⟩:=h
 refine q4 11 hg1 (xl (isAgg79 _) hv1) (qk 11 hg1 (qk 11 hg1 (q2 (vb (decide (t1≤(v1.len:Int)))) (xT hg1) (q (ln (er (rs1 results28 ⟨(decide (t1≤(v1.len:Int))),rfl,h⟩)))))))
 refine sj2 11 hg1 (sj5 11 hg1 (q2 (vb false) (xF hg1) (q (ln (er (rs1 results28 ⟨false,rfl,h⟩))))))
 obtain ⟨hg2,h⟩|⟨hg2,h⟩:=h.br
 refine qk 7 hg2 (qk 7 hg2 (q2 (vb (decide (t1≥1))) (xT hg2) (jB ⟨(decide (t1≥1)),hm,h⟩)))
 refine sj2 7 hg2 (q2 (vb false) (xF hg2) (jB ⟨false,hm,h⟩))
def m_H_l4 (inside1:Int) (seen1:Option Addr) (p1:Addr) (e3 i1:Int) (wl1:World) (Kc4:Int→Int→WP) (K:Int→WP):Prop :=∃v2:Sl,wl1.cell? (p1.add 5)=some v2.v∧Br (decide (i1<(v2.len:Int))) (Br (e3 == 0) (∃v3:Sl,wl1.cell? (p1.add 5)=some v3.v∧∃a3:Addr,At v3 i1 6 a3∧∃aZ bA bB bC bD bE,Row wl1 a3 (Af aZ bA bB bC bD bE)∧Calls prog 29 #[(.agg #[(vi aZ),(vi bA),(vi bB),(vu bC),(vs bD),bE.v]),(vi (q6.wrap (inside1+1))),(vp seen1)] wl1 (fun e w9=>∃r2,e=.returned (vi r2)∧Kc4 r2 (q6.wrap (i1+1)) w9)) (K e3 wl1)) (K e3 wl1)
def m_H_j3 (inside1:Int) (seen1:Option Addr) (p1:Addr) (e2:Int) (w:World) (K:Int→WP):Prop :=∃(I1:Int→Int→WP) (mu1:Int→Int→World→Nat),I1 e2 0 w∧∀(e3 i1:Int) (wl1:World),I1 e3 i1 wl1→m_H_l4 inside1 seen1 p1 e3 i1 wl1 (fun y'0 y'1 w'=>I1 y'0 y'1 w'∧mu1 y'0 y'1 w'<mu1 e3 i1 wl1) K
def m_H_j2 (inside1:Int) (seen1:Option Addr) (p1 p2 p3:Addr) (e1:Int) (w:World) (K:Int→WP):Prop :=Br (e1 == 0) (∃vfrom1 vto1 vnum1 vtext1 vkids1,Row w p3 (Ai vfrom1 vto1 vnum1 vtext1 vkids1)∧∃bG bH bI bJ bK bL bM,Row w p2 (Aa bG bH bI bJ bK bL bM)∧Calls prog 42 #[(.agg #[(vb vfrom1),(vb vto1),(vb vnum1),(vb vtext1),(vi vkids1)]),(.agg #[(vi bG),(vi bH),(vi bI),(vu bJ),(vs bK),(vi bL),(vi bM)])] w (fun e w10=>∃r3,e=.returned (vi r3)∧m_H_j3 inside1 seen1 p1 r3 w10 K)) (m_H_j3 inside1 seen1 p1 e1 w K)
def m_H_j1 (inside1:Int) (seen1:Option Addr) (p1:Addr) (w:World) (K:Int→WP):Prop :=∃a1,seen1=some a1∧∃v1,w.cell? a1=some (vi v1)∧∃a2,seen1=some a2∧zS w a2∧∀w2,w2=w.setCell a2 (vi (q6.wrap (v1+1)))→∃aA aB aC aD aE bF,Row w2 p1 (Af aA aB aC aD aE bF)∧Calls prog 40 #[(.agg #[(vi aA),(vi aB),(vi aC),(vu aD),(vs aE),bF.v])] w2 (fun e w3=>∃bN bO bP bQ bR bS bT,e=.returned (Ab bN bO bP bQ bR bS bT)∧∀p2 w4,New w3 (.cells #[(vi 0),(vi 0),(vi 0),(vu 0),ve,(vi 0),(vi 0)] 51) p2 w4→(∀j,j<7→zS w4 (p2.add j))∧∀w5,w5=storeRow w4 p2 (Aa bN bO bP bQ bR bS bT)→∃aH aI aJ aK aL aF aG,Row w5 p2 (Aa aH aI aJ aK aL aF aG)∧Calls prog 41 #[(.agg #[(vi aH),(vi aI),(vi aJ),(vu aK),(vs aL),(vi aF),(vi aG)])] w5 (fun e w6=>∃rfrom1 rto1 rnum1 rtext1 rkids1 r1,e=.returned (.tuple #[(Am rfrom1 rto1 rnum1 rtext1 rkids1),(vi r1)])∧∀p3 w7,New w6 (.cells #[(vb false),(vb false),(vb false),(vb false),(vi 0)] 109) p3 w7→(∀j,j<5→zS w7 (p3.add j))∧∀w8,w8=storeRow w7 p3 (Ai rfrom1 rto1 rnum1 rtext1 rkids1)→Br (r1 == 0) (∃v4:Sl,w8.cell? (p1.add 5)=some v4.v∧∃v5,w8.cell? (p3.add 4)=some (vi v5)∧Br (((v4.len:Int):Int) != v5) (m_H_j2 inside1 seen1 p1 p2 p3 53 w8 K) (m_H_j2 inside1 seen1 p1 p2 p3 r1 w8 K)) (m_H_j2 inside1 seen1 p1 p2 p3 r1 w8 K)))
def m_H (aM aN:Int) (aO aP:Int) (aQ:ByteArray) (aR:Sl) (inside1:Int) (seen1:Option Addr) (w:World) (K:Int→WP):Prop :=∀p1 w1,New w (.cells #[(vi aM),(vi aN),(vi aO),(vu aP),(vs aQ),aR.v] 47) p1 w1→∃a4,seen1=some a4∧∃v6,w1.cell? a4=some (vi v6)∧Br (decide (v6≥4096)) (K 52 w1) (Br (decide (inside1≥64)) (K 52 w1) (m_H_j1 inside1 seen1 p1 w1 K))
theorem w_H (aM aN aO aP aQ aR inside1 seen1 w K) (h:m_H aM aN aO aP aQ aR inside1 seen1 w K):
  Calls prog 29 #[(.agg #[(vi aM),(vi aN),(vi aO),(vu aP),(vs aQ),aR.v]),(vi inside1),(vp seen1)] w (fun e w'=>∃r4,e=.returned (vi r4)∧K r4 w'):=by
 refine cw (args:=[(Ag aM aN aO aP aQ aR),(vi inside1),(vp seen1)]) func29 ntmps29 (eg (sn (O:=(.cells #[(vi aM),(vi aN),(vi aO),(vu aP),(vs aQ),aR.v] 47)) xb ?_))
 intro p1 w1 hn6
 have h:=h p1 w1 hn6
 refine q (ln (qM (fun ρ w=>Has ρ [(1,(vi inside1)),(2,(vp seen1)),(3,(vp (some p1)))]∧m_H_j1 inside1 seen1 p1 w K) ?_ ?_))
 rintro ρ w ⟨hH,h⟩
 refine jN hH (eg (q (qm h fun a1 h=>ql (isAgg3 _) h fun v1 h=>q (qm h fun a2 h=>st1 (sizeOf3 _) h fun w2 h=>ln (eg ?_)))))
 obtain ⟨aA,aB,aC,aD,aE,bF,hv10,h⟩:=h
 refine qa (isAgg47 _) (sizeOf47 _) hv10 (sc call40 (h.mono fun e w3 ⟨bN,bO,bP,bQ,bR,bS,bT,k,h⟩=>⟨_,k,?_⟩))
 refine nw1 h (jX (zeroValue51 _) rfl) fun p2 w4 h=>sro (sizeOf51 _) h fun w5 h=>ln (eg ?_)
 obtain ⟨aH,aI,aJ,aK,aL,aF,aG,hv9,h⟩:=h
 refine qa (isAgg51 _) (sizeOf51 _) hv9 (sc call41 (h.mono fun e w6 ⟨rfrom1,rto1,rnum1,rtext1,rkids1,r1,k,h⟩=>⟨_,k,?_⟩))
 refine qc (nw1 h (jX (zeroValue109 _) rfl) fun p3 w7 h=>sro (sizeOf109 _) h fun w8 h=>q (ln (qM (fun ρ w=>∃e1,Has ρ [(1,(vi inside1)),(2,(vp seen1)),(3,(vp (some p1))),(7,(vp (some p2))),(8,(vp (some p3))),(9,(vi e1))]∧m_H_j2 inside1 seen1 p1 p2 p3 e1 w K) ?_ ?_)))
 rintro ρ w ⟨e1,hH,h⟩
 refine jN hH (qM (fun ρ w=>∃e2,Has ρ [(1,(vi inside1)),(2,(vp seen1)),(3,(vp (some p1))),(9,(vi e2))]∧m_H_j3 inside1 seen1 p1 e2 w K) ?_ ?_)
 rintro ρ w ⟨e2,hH,h⟩
 refine jN hH (jA (eg (q (ln (jG ?_)))))
 obtain ⟨I1,mu1,h0,hr⟩:=h
 refine zH (σ:=Int×Int×World) (fun s ρ w=>w=s.2.2∧Has ρ [(1,(vi inside1)),(2,(vp seen1)),(3,(vp (some p1))),(9,(vi s.1)),(10,(vi s.2.1))]∧I1 s.1 s.2.1 s.2.2) (fun s=>mu1 s.1 s.2.1 s.2.2) (e2,0,w) ⟨rfl,hm,h0⟩ ?_
 rintro ⟨e3,i1,wl1⟩ ρ w ⟨hw,hH,hI⟩
 dsimp only at hw hH;subst w
 have h:=hr e3 i1 wl1 hI
 refine jN hH (jA (eg (qb (ql (isAgg22 _) h fun v2 h=>qc ?_))))
 obtain ⟨hg1,h⟩|⟨hg1,h⟩:=h.br
 refine qk 51 hg1 (qk 51 hg1 (q2 (vb (e3 == 0)) (xT hg1) (ln (cbr h ?_ ?_))))<;>intro h
 refine jC (jI (jA (jG (rg (q (ql (isAgg22 _) h fun v3 h=>q (qi (runUnderlying22 _) (sizeOf47 _) h fun a3 h=>?_)))))))
 obtain ⟨aZ,bA,bB,bC,bD,bE,hv1,h⟩:=h
 refine qa (isAgg47 _) (sizeOf47 _) hv1 (qc (sc call29 (h.mono fun e w9 ⟨r2,k,h⟩=>⟨_,k,?_⟩)))
 refine q (jB (qB (jI (rg (qc (ln ⟨(r2,(q6.wrap (i1+1)),w9),⟨rfl,hm,h.1⟩,h.2⟩))))))
 refine zB (vG (vG (kQ (jI (eg (q0 (vi e3) (q0 (vi e3) (ln (er (rs1 results29 ⟨e3,rfl,h⟩))))))))))
 refine sj2 51 hg1 (q2 (vb false) (xF hg1) (ln (kY (by kernel_rfl) (zB (vG (vG (kQ (jI (jA (rg (qb (ln (er (rs1 results29 ⟨e3,rfl,h⟩))))))))))))))
 refine eg (qb (ln (cbr h ?_ ?_)))<;>intro h
 refine rg ?_
 obtain ⟨vfrom1,vto1,vnum1,vtext1,vkids1,hv6,h⟩:=h
 refine qa (isAgg109 _) (sizeOf109 _) hv6 ?_
 obtain ⟨bG,bH,bI,bJ,bK,bL,bM,hv5,h⟩:=h
 refine qa (isAgg51 _) (sizeOf51 _) hv5 (sc call42 (h.mono fun e w10 ⟨r3,k,h⟩=>⟨_,k,?_⟩))
 refine q (ln ⟨r3,hm,h⟩)
 refine jC (jI ⟨e1,hm,h⟩)
 refine eg (qc ?_)
 obtain ⟨hg2,h⟩|⟨hg2,h⟩:=h.br
 refine qk 33 hg2 ?_
 obtain ⟨v4,hv8,h⟩:=h
 refine q4 33 hg2 (xl (isAgg22 _) hv8) (qk 33 hg2 (qk 33 hg2 ?_))
 obtain ⟨v5,hv7,h⟩:=h
 refine q4 33 hg2 (xl (isAgg3 _) hv7) (qk 33 hg2 (q2 (vb (((v4.len:Int):Int) != v5)) (xT hg2) (ln (cbr h ?_ ?_))))<;>intro h
 refine rg (q (ln ⟨53,hm,h⟩))
 refine jC (jI ⟨r1,hm,h⟩)
 refine sj 33 hg2 (sj5 33 hg2 (q2 (vb false) (xF hg2) (ln (kY (by kernel_rfl) (jC (jI ⟨r1,hm,h⟩))))))
 refine eg (q (qm h fun a4 h=>ql (isAgg3 _) h fun v6 h=>qb ?_))
 obtain ⟨hg3,h⟩|⟨hg3,h⟩:=h.br
 refine sj2 15 hg3 (q2 (vb true) (xT hg3) (ln (kJ (by kernel_rfl) (eg (q0 (vi 52) (ln (er (zI (rs1 results29 ⟨52,rfl,h⟩)))))))))
 refine qk 15 hg3 (qk 15 hg3 (q2 (vb (decide (inside1≥64))) (xF hg3) (ln (cbr h ?_ ?_))))<;>intro h
 refine eg (q (ln (er (zI (rs1 results29 ⟨52,rfl,h⟩)))))
 refine jC (jI ⟨hm,h⟩)
def m_V_l1 (p1:Option Addr) (p3 p4:Addr) (v1:Sl) (x1:Int) (wl1:World) (Kc1:Int→WP) (K:Int→Int→WP):Prop :=Br (decide (x1<(v1.len:Int))) (∃a1:Addr,At v1 x1 6 a1∧∃aH aI aJ aK aL bE,Row wl1 a1 (Af aH aI aJ aK aL bE)∧∀p5 w6,New wl1 (.cells #[(vi 0),(vi 0),(vi 0),(vu 0),ve,Sl.nil.v] 47) p5 w6→(∀j,j<6→zS w6 (p5.add j))∧∀w7,w7=storeRow w6 p5 (Af aH aI aJ aK aL bE)→∃aZ bA bB bC bD cK,Row w7 p5 (Af aZ bA bB bC bD cK)∧Calls prog 30 #[(vp p1),(.agg #[(vi aZ),(vi bA),(vi bB),(vu bC),(vs bD),cK.v])] w7 (fun e w8=>∃r1 r2,e=.returned (.tuple #[(vi r1),(vi r2)])∧Br (r2 != 0) (K 0 r2 w8) (∃a2:Addr,At (Sl.mk (some p4) 2 2) x1 1 a2∧∃v2,w8.cell? a2=some (vp v2)∧∃a3,v2=some a3∧zS w8 a3∧∀w9,w9=w8.setCell a3 (vi r1)→Kc1 (q6.wrap (x1+1)) w9))) (∃bG bH bI bJ bK aF aG,Row wl1 p3 (Aa bG bH bI bJ bK aF aG)∧Calls prog 43 #[(vp p1),(.agg #[(vi bG),(vi bH),(vi bI),(vu bJ),(vs bK),(vi aF),(vi aG)])] wl1 (fun e w10=>∃r3 r4,e=.returned (.tuple #[(vi r3),(vi r4)])∧K r3 r4 w10))
def m_V (p1:Option Addr) (aM aN:Int) (aO aP:Int) (aQ:ByteArray) (aR:Sl) (w:World) (K:Int→Int→WP):Prop :=∀p2 w1,New w (.cells #[(vi aM),(vi aN),(vi aO),(vu aP),(vs aQ),aR.v] 47) p2 w1→∃aA aB aC aD aE bF,Row w1 p2 (Af aA aB aC aD aE bF)∧Calls prog 40 #[(.agg #[(vi aA),(vi aB),(vi aC),(vu aD),(vs aE),bF.v])] w1 (fun e w2=>∃bN bO bP bQ bR bS bT,e=.returned (Ab bN bO bP bQ bR bS bT)∧∀p3 w3,New w2 (.cells #[(vi 0),(vi 0),(vi 0),(vu 0),ve,(vi 0),(vi 0)] 51) p3 w3→(∀j,j<7→zS w3 (p3.add j))∧∀w4,w4=storeRow w3 p3 (Aa bN bO bP bQ bR bS bT)→∀p4 w5,New w4 (.cells #[(vp (some (p3.add 5))),(vp (some (p3.add 6)))] 113) p4 w5→∃v1:Sl,w5.cell? (p2.add 5)=some v1.v∧∃(I1:Int→WP) (mu1:Int→World→Nat),I1 0 w5∧∀(x1:Int) (wl1:World),I1 x1 wl1→m_V_l1 p1 p3 p4 v1 x1 wl1 (fun y'0 w'=>I1 y'0 w'∧mu1 y'0 w'<mu1 x1 wl1) K)
theorem w_V (p1 aM aN aO aP aQ aR w K) (h:m_V p1 aM aN aO aP aQ aR w K):
  Calls prog 30 #[(vp p1),(.agg #[(vi aM),(vi aN),(vi aO),(vu aP),(vs aQ),aR.v])] w (fun e w'=>∃r5 r6,e=.returned (.tuple #[(vi r5),(vi r6)])∧K r5 r6 w'):=by
 refine cw (args:=[(vp p1),(Ag aM aN aO aP aQ aR)]) func30 ntmps30 (eg (sn (O:=(.cells #[(vi aM),(vi aN),(vi aO),(vu aP),(vs aQ),aR.v] 47)) xb ?_))
 intro p2 w1 hn7
 have h:=h p2 w1 hn7
 refine qb (ln (eg ?_))
 obtain ⟨aA,aB,aC,aD,aE,bF,hv8,h⟩:=h
 refine qa (isAgg47 _) (sizeOf47 _) hv8 (sc call40 (h.mono fun e w2 ⟨bN,bO,bP,bQ,bR,bS,bT,k,h⟩=>⟨_,k,?_⟩))
 refine nw1 h (jX (zeroValue51 _) rfl) fun p3 w3 h=>sro (sizeOf51 _) h fun w4 h=>ln (eg (qb (nw4 (fun p=>(Sl.mk (some p) 2 2).v) h fun p4 w5 h=>q (ln (jA (eg (q (ql (isAgg22 _) h fun v1 h=>qb (ln (jG ?_))))))))))
 obtain ⟨I1,mu1,h0,hr⟩:=h
 refine zH (σ:=Int×World) (fun s ρ w=>w=s.2∧Has ρ [(0,(vp p1)),(6,(vp (some p3))),(7,(Sl.mk (some p4) 2 2).v),(18,v1.v),(19,(vi (v1.len:Int))),(20,(vi s.1))]∧I1 s.1 s.2) (fun s=>mu1 s.1 s.2) (0,w5) ⟨rfl,hm,h0⟩ ?_
 rintro ⟨x1,wl1⟩ ρ w ⟨hw,hH,hI⟩
 dsimp only at hw hH;subst w
 have h:=hr x1 wl1 hI
 refine jN hH (eg (q (ln (jA (cbr h ?_ ?_)))))<;>intro h
 refine jC (jI (jA (jG (eg (q (qi (runUnderlying22 _) (sizeOf47 _) h fun a1 h=>?_))))))
 obtain ⟨aH,aI,aJ,aK,aL,bE,hv4,h⟩:=h
 refine qa (isAgg47 _) (sizeOf47 _) hv4 (nw1 h (jX (zeroValue47 _) rfl) fun p5 w6 h=>q (sro (sizeOf47 _) h fun w7 h=>ln (eg (q ?_))))
 obtain ⟨aZ,bA,bB,bC,bD,cK,hv3,h⟩:=h
 refine qa (isAgg47 _) (sizeOf47 _) hv3 (sc call30 (h.mono fun e w8 ⟨r1,r2,k,h⟩=>⟨_,k,?_⟩))
 refine q (qd (ln (jA (eg (qb (ln (cbr h ?_ ?_)))))))<;>intro h
 refine eg (qc (ln (er (zI (qX (zI (zI (qX (zI (kB (.inl rfl) results30 (v:=(vi 0)) (by kernel_rfl) (v':=(vi r2)) (by kernel_rfl) ⟨0,r2,rfl,h⟩))))))))))
 refine jC (jI (rg (qb (qi (runUnderlying114 _) (sizeOf113 _) h fun a2 h=>ql (isAgg113 _) h fun v2 h=>q (qm h fun a3 h=>st1 (sizeOf32 _) h fun w9 h=>jB (qB (jI (rg (qb (ln ⟨((q6.wrap (x1+1)),w9),⟨rfl,hm,h.1⟩,h.2⟩))))))))))
 refine zB (vG (vG (kQ (jI (eg (q0 (vp p1) ?_))))))
 obtain ⟨bG,bH,bI,bJ,bK,aF,aG,hv6,h⟩:=h
 refine qa (isAgg51 _) (sizeOf51 _) hv6 (sc call43 (h.mono fun e w10 ⟨r3,r4,k,h⟩=>⟨_,k,?_⟩))
 refine qd (ln (er (kB (.inl rfl) results30 (v:=(vi r3)) (by kernel_rfl) (v':=(vi r4)) (by kernel_rfl) ⟨r3,r4,rfl,h⟩)))
def m_W_l1 (p1:Option Addr) (n1:Int) (s1:Sl) (x1:Int) (wl1:World) (Kc1:Int→WP) (K:WP):Prop :=Br (decide (x1<(s1.len:Int))) (∃a2:Addr,At s1 x1 9 a2∧∃vnodeKind1 vnodeFrom1 vnodeTo1 vnodeNum1 vnodeText1 vnodeA1 vnodeB1 vsize1 vdepth1,Row wl1 a2 [(vi vnodeKind1),(vi vnodeFrom1),(vi vnodeTo1),(vu vnodeNum1),(vs vnodeText1),(vi vnodeA1),(vi vnodeB1),(vi vsize1),(vi vdepth1)]∧∀p2 w1,New wl1 (.cells #[(vi 0),(vi 0),(vi 0),(vu 0),ve,(vi 0),(vi 0),(vi 0),(vi 0)] 78) p2 w1→(∀j,j<9→zS w1 (p2.add j))∧∀w2,w2=storeRow w1 p2 [(vi vnodeKind1),(vi vnodeFrom1),(vi vnodeTo1),(vu vnodeNum1),(vs vnodeText1),(vi vnodeA1),(vi vnodeB1),(vi vsize1),(vi vdepth1)]→∃C1:WP,C1 w2.drew∧∀w3,w3=w2.drew→∃a3,p1=some a3∧∃v2:Option Nat,(∀w',C1 w'→w'.cell? (a3.add 1)=some (.map v2))∧∃aA aB aC aD aE aF aG,(∀w',C1 w'→Row w' p2 (Aa aA aB aC aD aE aF aG))∧∃w4:World,(Builtin.delete_ #[80,51] 0 #[(.map v2),(Ab aA aB aC aD aE aF aG)]).run prog w3=.ok (.tuple #[]) w4∧Kc1 (q6.wrap (x1+1)) w4) (∃a4,p1=some a4∧∃v3:Sl,wl1.cell? a4=some v3.v∧∃s2:Sl,(Instr.sliceAt 79 v3.v none (some (vi n1)) none).run prog wl1=.ok s2.v wl1∧∃a5,p1=some a5∧zS wl1 a5∧∀w5,w5=wl1.setCell a5 s2.v→K w5)
def m_W (p1:Option Addr) (n1:Int) (w:World) (K:WP):Prop :=∃a1,p1=some a1∧∃v1:Sl,w.cell? a1=some v1.v∧∃s1:Sl,(Instr.sliceAt 79 v1.v (some (vi n1)) none none).run prog w=.ok s1.v w∧∃(I1:Int→WP) (mu1:Int→World→Nat),I1 0 w∧∀(x1:Int) (wl1:World),I1 x1 wl1→m_W_l1 p1 n1 s1 x1 wl1 (fun y'0 w'=>I1 y'0 w'∧mu1 y'0 w'<mu1 x1 wl1) K
theorem w_W (p1 n1 w K) (h:m_W p1 n1 w K):
  Calls prog 31 #[(vp p1),(vi n1)] w (fun e w'=>e=.returned (.tuple #[])∧K  w'):=by
 refine cw (args:=[(vp p1),(vi n1)]) func31 ntmps31 (jA (eg (q0 (vp p1) ?_)))
 refine qm h fun a1 h=>q (ql (isAgg79 _) h fun v1 h=>q ?_)
 obtain ⟨s1,hv8,h⟩:=h
 refine q2 s1.v (qY (by kernel_rfl) (by kernel_rfl) (by kernel_rfl) (by kernel_rfl) hv8) (qb (ln (jG ?_)))
 obtain ⟨I1,mu1,h0,hr⟩:=h
 refine zH (σ:=Int×World) (fun s ρ w=>w=s.2∧Has ρ [(0,(vp p1)),(1,(vi n1)),(11,s1.v),(12,(vi (s1.len:Int))),(13,(vi s.1))]∧I1 s.1 s.2) (fun s=>mu1 s.1 s.2) (0,w) ⟨rfl,hm,h0⟩ ?_
 rintro ⟨x1,wl1⟩ ρ w ⟨hw,hH,hI⟩
 dsimp only at hw hH;subst w
 have h:=hr x1 wl1 hI
 refine jN hH (eg (q (ln (jA (cbr h ?_ ?_)))))<;>intro h
 refine jC (jI (jA (jG (eg (qi (runUnderlying79 _) (sizeOf78 _) h fun a2 h=>?_)))))
 obtain ⟨vnodeKind1,vnodeFrom1,vnodeTo1,vnodeNum1,vnodeText1,vnodeA1,vnodeB1,vsize1,vdepth1,hv4,h⟩:=h
 refine qa (isAgg78 _) (sizeOf78 _) hv4 (nw1 h (jX (zeroValue78 _) rfl) fun p2 w1 h=>sro (sizeOf78 _) h fun w2 h=>ln ?_)
 obtain ⟨C1,hC,h⟩:=h
 refine dr1 C1 [6] [6] hC h fun w3 h=>qx 0 (vp p1) Kp0 (qg 1 ?_)
 obtain ⟨a3,hp3,h⟩:=h
 refine sy Kp1 (fun _ _=>xn hp3) (qx 2 (vp (some (a3.add 1))) Kp2 (qg 3 ?_))
 obtain ⟨v2,hv3,h⟩:=h
 refine sy Kp3 (fun _ k=>xl (isAgg80 _) (hv3 _ k)) (qx 4 (vp (some p2)) Kp4 (qg 5 ?_))
 obtain ⟨aA,aB,aC,aD,aE,aF,aG,hv2,h⟩:=h
 refine sy (v:=(Ab aA aB aC aD aE aF aG)) Kp5 (fun w' hw'=>(xa p2 (Aa aA aB aC aD aE aF aG) (isAgg51 _) (sizeOf51 _) (hv2 w' hw'))) (lg 6 ?_)
 obtain ⟨w4,hv1,h⟩:=h
 refine sl (v:=(.tuple #[])) Kp6 (jM rfl) (by kernel_rfl) (zD (args:=#[(.map v2),(Ab aA aB aC aD aE aF aG)]) (by kernel_rfl) (fun _=>rfl) hv1) (.inl (by kernel_rfl)) (wn (qB (jI (rg (q0 (vi (q6.wrap (x1+1))) (q0 (vi (q6.wrap (x1+1))) (ln ⟨((q6.wrap (x1+1)),w4),⟨rfl,hm,h.1⟩,h.2⟩)))))))
 refine zB (vG (vG (kQ (jI (rg (q0 (vp p1) (q0 (vp p1) (qm h fun a4 h=>q (ql (isAgg79 _) h fun v3 h=>q ?_)))))))))
 obtain ⟨s2,hv6,h⟩:=h
 refine q2 s2.v (qY (by kernel_rfl) (by kernel_rfl) (by kernel_rfl) (by kernel_rfl) hv6) (qm h fun a5 h=>q (st1 (sizeOf79 _) h fun w5 h=>jB (jGW (.inr rfl) results31 ⟨rfl,h⟩)))
def m_S1 (aM aN:Int) (aO aP:Int) (aQ:ByteArray) (aR:Sl) (w:World) (K:Int→Int→Int→Int→ByteArray→Int→Int→WP):Prop :=∀p1 w1,New w (.cells #[(vi aM),(vi aN),(vi aO),(vu aP),(vs aQ),aR.v] 47) p1 w1→∀p2 w2,New w1 (.cells #[(vi 0),(vi 0),(vi 0),(vu 0),ve,(vi 0),(vi 0)] 51) p2 w2→∃v1,w2.cell? p1=some (vi v1)∧∃v2,w2.cell? (p1.add 1)=some (vi v2)∧∃v3,w2.cell? (p1.add 2)=some (vi v3)∧∃v4,w2.cell? (p1.add 3)=some (vu v4)∧∃v5,w2.cell? (p1.add 4)=some (vs v5)∧(∀j,j<7→zS w2 (p2.add j))∧∀w3,w3=storeRow w2 p2 (Aa v1 v2 v3 v4 v5 0 0)→∃bU bV bW bX bY bZ cA,Row w3 p2 (Aa bU bV bW bX bY bZ cA)∧K bU bV bW bX bY bZ cA w3
theorem w_S1 (aM aN aO aP aQ aR w K) (h:m_S1 aM aN aO aP aQ aR w K):
  Calls prog 40 #[(.agg #[(vi aM),(vi aN),(vi aO),(vu aP),(vs aQ),aR.v])] w (fun e w'=>∃bN bO bP bQ bR bS bT,e=.returned (Ab bN bO bP bQ bR bS bT)∧K bN bO bP bQ bR bS bT w'):=by
 refine cw (args:=[(Ag aM aN aO aP aQ aR)]) func40 ntmps40 (eg (sn (O:=(.cells #[(vi aM),(vi aN),(vi aO),(vu aP),(vs aQ),aR.v] 47)) xb ?_))
 intro p1 w1 hn3
 have h:=h p1 w1 hn3
 refine nw1 h (jX (zeroValue51 _) rfl) fun p2 w2 h=>ln (eg (q (ql (isAgg3 _) h fun v1 h=>q (ql (isAgg3 _) h fun v2 h=>q (ql (isAgg3 _) h fun v3 h=>q (ql (isAgg45 _) h fun v4 h=>q (ql (isAgg9 _) h fun v5 h=>q (sro (sizeOf51 _) h fun w3 h=>ln (er ?_)))))))))
 obtain ⟨bU,bV,bW,bX,bY,bZ,cA,hv1,h⟩:=h
 refine gg1 results40 (rva (isAgg51 _) (sizeOf51 _) hv1) ⟨bU,bV,bW,bX,bY,bZ,cA,rfl,h⟩
def m_D_j3 (p1 p2 p3:Addr) (x3:Bool) (w:World) (K:Bool→Bool→Bool→Bool→Int→Int→WP):Prop :=Br x3 (∃vfrom1 vto1 vnum1 vtext1 vkids1,Row w p3 (Ai vfrom1 vto1 vnum1 vtext1 vkids1)∧(∀j,j<5→zS w (p2.add j))∧∀w6,w6=storeRow w p2 (Ai vfrom1 vto1 vnum1 vtext1 vkids1)→∃qfrom1 qto1 qnum1 qtext1 qkids1,Row w6 p2 (Ai qfrom1 qto1 qnum1 qtext1 qkids1)∧K qfrom1 qto1 qnum1 qtext1 qkids1 53 w6) (∃v2,w.cell? (p3.add 3)=some (vb v2)∧Br (!v2) (∃v3,w.cell? (p1.add 4)=some (vs v3)∧Br (!(decide (v3=⟨#[]⟩))) (∃vfrom2 vto2 vnum2 vtext2 vkids2,Row w p3 (Ai vfrom2 vto2 vnum2 vtext2 vkids2)∧(∀j,j<5→zS w (p2.add j))∧∀w7,w7=storeRow w p2 (Ai vfrom2 vto2 vnum2 vtext2 vkids2)→∃qfrom2 qto2 qnum2 qtext2 qkids2,Row w7 p2 (Ai qfrom2 qto2 qnum2 qtext2 qkids2)∧K qfrom2 qto2 qnum2 qtext2 qkids2 53 w7) (∃vfrom3 vto3 vnum3 vtext3 vkids3,Row w p3 (Ai vfrom3 vto3 vnum3 vtext3 vkids3)∧(∀j,j<5→zS w (p2.add j))∧∀w8,w8=storeRow w p2 (Ai vfrom3 vto3 vnum3 vtext3 vkids3)→∃qfrom3 qto3 qnum3 qtext3 qkids3,Row w8 p2 (Ai qfrom3 qto3 qnum3 qtext3 qkids3)∧K qfrom3 qto3 qnum3 qtext3 qkids3 0 w8)) (∃vfrom4 vto4 vnum4 vtext4 vkids4,Row w p3 (Ai vfrom4 vto4 vnum4 vtext4 vkids4)∧(∀j,j<5→zS w (p2.add j))∧∀w9,w9=storeRow w p2 (Ai vfrom4 vto4 vnum4 vtext4 vkids4)→∃qfrom4 qto4 qnum4 qtext4 qkids4,Row w9 p2 (Ai qfrom4 qto4 qnum4 qtext4 qkids4)∧K qfrom4 qto4 qnum4 qtext4 qkids4 0 w9))
def m_D_j4 (p1 p2 p3:Addr) (x2 x4:Bool) (w:World) (K:Bool→Bool→Bool→Bool→Int→Int→WP):Prop :=Br x2 (m_D_j3 p1 p2 p3 true w K) (m_D_j3 p1 p2 p3 x4 w K)
def m_D_j2 (p1 p2 p3:Addr) (x2:Bool) (w:World) (K:Bool→Bool→Bool→Bool→Int→Int→WP):Prop :=Br x2 (m_D_j3 p1 p2 p3 true w K) (∃v4,w.cell? (p3.add 2)=some (vb v4)∧Br (!v4) (∃v5,w.cell? (p1.add 3)=some (vu v5)∧m_D_j4 p1 p2 p3 x2 (v5 != 0) w K) (m_D_j4 p1 p2 p3 x2 false w K))
def m_D_j5 (p1 p2 p3:Addr) (x1 x5:Bool) (w:World) (K:Bool→Bool→Bool→Bool→Int→Int→WP):Prop :=Br x1 (m_D_j2 p1 p2 p3 true w K) (m_D_j2 p1 p2 p3 x5 w K)
def m_D_j1 (p1 p2 p3:Addr) (x1:Bool) (w:World) (K:Bool→Bool→Bool→Bool→Int→Int→WP):Prop :=Br x1 (m_D_j2 p1 p2 p3 true w K) (∃v6,w.cell? (p3.add 1)=some (vb v6)∧Br (!v6) (∃v7,w.cell? (p1.add 2)=some (vi v7)∧m_D_j5 p1 p2 p3 x1 (v7 != 0) w K) (m_D_j5 p1 p2 p3 x1 false w K))
def m_D_j6 (p1 p2:Addr) (r1:Bool) (p3:Addr) (x6:Bool) (w:World) (K:Bool→Bool→Bool→Bool→Int→Int→WP):Prop :=Br (!r1) (m_D_j1 p1 p2 p3 true w K) (m_D_j1 p1 p2 p3 x6 w K)
def m_D (aS aT:Int) (aU aV:Int) (aW:ByteArray) (aX aY:Int) (w:World) (K:Bool→Bool→Bool→Bool→Int→Int→WP):Prop :=∀p1 w1,New w (.cells #[(vi aS),(vi aT),(vi aU),(vu aV),(vs aW),(vi aX),(vi aY)] 51) p1 w1→∀p2 w2,New w1 (.cells #[(vb false),(vb false),(vb false),(vb false),(vi 0)] 109) p2 w2→∃v1,w2.cell? p1=some (vi v1)∧Calls prog 76 #[(vi v1)] w2 (fun e w3=>∃rfrom1 rto1 rnum1 rtext1 rkids1 r1,e=.returned (.tuple #[(Am rfrom1 rto1 rnum1 rtext1 rkids1),(vb r1)])∧∀p3 w4,New w3 (.cells #[(vb false),(vb false),(vb false),(vb false),(vi 0)] 109) p3 w4→(∀j,j<5→zS w4 (p3.add j))∧∀w5,w5=storeRow w4 p3 (Ai rfrom1 rto1 rnum1 rtext1 rkids1)→Br (!r1) (m_D_j1 p1 p2 p3 true w5 K) (∃v8,w5.cell? p3=some (vb v8)∧Br (!v8) (∃v9,w5.cell? (p1.add 1)=some (vi v9)∧m_D_j6 p1 p2 r1 p3 (v9 != 0) w5 K) (m_D_j6 p1 p2 r1 p3 false w5 K)))
theorem w_D (aS aT aU aV aW aX aY w K) (h:m_D aS aT aU aV aW aX aY w K):
  Calls prog 41 #[(.agg #[(vi aS),(vi aT),(vi aU),(vu aV),(vs aW),(vi aX),(vi aY)])] w (fun e w'=>∃rfrom2 rto2 rnum2 rtext2 rkids2 r2,e=.returned (.tuple #[(Am rfrom2 rto2 rnum2 rtext2 rkids2),(vi r2)])∧K rfrom2 rto2 rnum2 rtext2 rkids2 r2 w'):=by
 refine cw (args:=[(Ab aS aT aU aV aW aX aY)]) func41 ntmps41 (eg (sn (O:=(.cells #[(vi aS),(vi aT),(vi aU),(vu aV),(vs aW),(vi aX),(vi aY)] 51)) xb ?_))
 intro p1 w1 hn8
 have h:=h p1 w1 hn8
 refine nw1 h (jX (zeroValue109 _) rfl) fun p2 w2 h=>q (ln (eg (q (ql (isAgg3 _) h fun v1 h=>sc call76 (h.mono fun e w3 ⟨rfrom1,rto1,rnum1,rtext1,rkids1,r1,k,h⟩=>⟨_,k,?_⟩)))))
 refine qc (nw1 h (jX (zeroValue109 _) rfl) fun p3 w4 h=>sro (sizeOf109 _) h fun w5 h=>q (ln (jA (eg (qc (jE 9 (fun ρ w=>∃x1,Has ρ [(1,(vp (some p1))),(2,(vp (some p2))),(4,(vp (some p3))),(23,(vb x1))]∧m_D_j1 p1 p2 p3 x1 w K) ?_ ?_))))))
 rintro ρ w ⟨x1,hH,h⟩
 refine jJ hH (q (jE 9 (fun ρ w=>∃x2,Has ρ [(1,(vp (some p1))),(2,(vp (some p2))),(4,(vp (some p3))),(33,(vb x2))]∧m_D_j2 p1 p2 p3 x2 w K) ?_ ?_))
 rintro ρ w ⟨x2,hH,h⟩
 refine jJ hH (q (jE 9 (fun ρ w=>∃x3,Has ρ [(1,(vp (some p1))),(2,(vp (some p2))),(4,(vp (some p3))),(43,(vb x3))]∧m_D_j3 p1 p2 p3 x3 w K) ?_ ?_))
 rintro ρ w ⟨x3,hH,h⟩
 refine jJ hH (q ?_)
 obtain ⟨hg1,h⟩|⟨hg1,h⟩:=h.br
 refine sj4 44 hg1 (sm (sm (sm (sj 44 hg1 (q2 (vb true) (xT hg1) (ln (kJ (by kernel_rfl) (eg ?_))))))))
 obtain ⟨vfrom1,vto1,vnum1,vtext1,vkids1,hv2,h⟩:=h
 refine qa (isAgg109 _) (sizeOf109 _) hv2 (sro (sizeOf109 _) h fun w6 h=>q (ln (er (zI ?_))))
 obtain ⟨qfrom1,qto1,qnum1,qtext1,qkids1,hv1,h⟩:=h
 refine gg2 results41 (rva (isAgg109 _) (sizeOf109 _) hv1) (rvU (vi 53)) ⟨qfrom1,qto1,qnum1,qtext1,qkids1,53,rfl,h⟩
 refine qk 44 hg1 ?_
 obtain ⟨v2,hv10,h⟩:=h
 refine q4 44 hg1 (xl (isAgg4 _) hv10) (qk 44 hg1 (qk 44 hg1 ?_))
 obtain ⟨hg2,h⟩|⟨hg2,h⟩:=h.br
 refine qk 48 hg2 ?_
 obtain ⟨v3,hv7,h⟩:=h
 refine q4 48 hg2 (xl (isAgg9 _) hv7) (stq (v:=(vb (!(decide (v3=⟨#[]⟩))))) (wy 48 hg2) (jFE (by kernel_rfl) (by kernel_rfl)) (stq (v:=(vb (!(decide (v3=⟨#[]⟩))))) (wy 44 hg1) (xT hg2) (q2 (vb (!(decide (v3=⟨#[]⟩)))) (xF hg1) (ln (cbr h ?_ ?_)))))<;>intro h
 refine eg ?_
 obtain ⟨vfrom2,vto2,vnum2,vtext2,vkids2,hv4,h⟩:=h
 refine qa (isAgg109 _) (sizeOf109 _) hv4 (sro (sizeOf109 _) h fun w7 h=>q (ln (er (zI ?_))))
 obtain ⟨qfrom2,qto2,qnum2,qtext2,qkids2,hv3,h⟩:=h
 refine gg2 results41 (rva (isAgg109 _) (sizeOf109 _) hv3) (rvU (vi 53)) ⟨qfrom2,qto2,qnum2,qtext2,qkids2,53,rfl,h⟩
 refine jC (jI (eg ?_))
 obtain ⟨vfrom3,vto3,vnum3,vtext3,vkids3,hv6,h⟩:=h
 refine qa (isAgg109 _) (sizeOf109 _) hv6 (sro (sizeOf109 _) h fun w8 h=>q (ln (er ?_)))
 obtain ⟨qfrom3,qto3,qnum3,qtext3,qkids3,hv5,h⟩:=h
 refine gg2 results41 (rva (isAgg109 _) (sizeOf109 _) hv5) (rvU (vi 0)) ⟨qfrom3,qto3,qnum3,qtext3,qkids3,0,rfl,h⟩
 refine sj3 48 hg2 (stq (v:=(vb false)) (wy 44 hg1) (xF hg2) (q2 (vb false) (xF hg1) (ln (kY (by kernel_rfl) (jC (jI (eg ?_)))))))
 obtain ⟨vfrom4,vto4,vnum4,vtext4,vkids4,hv9,h⟩:=h
 refine qa (isAgg109 _) (sizeOf109 _) hv9 (sro (sizeOf109 _) h fun w9 h=>q (ln (er ?_)))
 obtain ⟨qfrom4,qto4,qnum4,qtext4,qkids4,hv8,h⟩:=h
 refine gg2 results41 (rva (isAgg109 _) (sizeOf109 _) hv8) (rvU (vi 0)) ⟨qfrom4,qto4,qnum4,qtext4,qkids4,0,rfl,h⟩
 obtain ⟨hg3,h⟩|⟨hg3,h⟩:=h.br
 refine sj4 34 hg3 (sm (sm (sm (sj 34 hg3 (q2 (vb true) (xT hg3) (jB ⟨true,hm,h⟩))))))
 refine qk 34 hg3 ?_
 obtain ⟨v4,hv12,h⟩:=h
 refine q4 34 hg3 (xl (isAgg4 _) hv12) (qk 34 hg3 (qk 34 hg3 (jE 4 (fun ρ w=>∃x4,Has ρ [(1,(vp (some p1))),(2,(vp (some p2))),(4,(vp (some p3))),(34,(vb x2)),(42,(vb x4))]∧m_D_j4 p1 p2 p3 x2 x4 w K) ?_ ?_)))
 rintro ρ w ⟨x4,hH,h⟩
 refine jJ hH ?_
 obtain ⟨hg4,h⟩|⟨hg4,h⟩:=h.br
 refine q2 (vb true) (xT hg4) (jB ⟨true,hm,h⟩)
 refine q2 (vb x4) (xF hg4) (jB ⟨x4,hm,h⟩)
 obtain ⟨hg5,h⟩|⟨hg5,h⟩:=h.br
 refine qk 38 hg5 ?_
 obtain ⟨v5,hv11,h⟩:=h
 refine q4 38 hg5 (xl (isAgg45 _) hv11) (qk 38 hg5 (stq (v:=(vb (v5 != 0))) (wy 34 hg3) (xT hg5) (jB ⟨(v5 != 0),hm,h⟩)))
 refine sj3 38 hg5 (stq (v:=(vb false)) (wy 34 hg3) (xF hg5) (jB ⟨false,hm,h⟩))
 obtain ⟨hg6,h⟩|⟨hg6,h⟩:=h.br
 refine sj4 24 hg6 (sm (sm (sm (sj 24 hg6 (q2 (vb true) (xT hg6) (jB ⟨true,hm,h⟩))))))
 refine qk 24 hg6 ?_
 obtain ⟨v6,hv14,h⟩:=h
 refine q4 24 hg6 (xl (isAgg4 _) hv14) (qk 24 hg6 (qk 24 hg6 (jE 4 (fun ρ w=>∃x5,Has ρ [(1,(vp (some p1))),(2,(vp (some p2))),(4,(vp (some p3))),(24,(vb x1)),(32,(vb x5))]∧m_D_j5 p1 p2 p3 x1 x5 w K) ?_ ?_)))
 rintro ρ w ⟨x5,hH,h⟩
 refine jJ hH ?_
 obtain ⟨hg7,h⟩|⟨hg7,h⟩:=h.br
 refine q2 (vb true) (xT hg7) (jB ⟨true,hm,h⟩)
 refine q2 (vb x5) (xF hg7) (jB ⟨x5,hm,h⟩)
 obtain ⟨hg8,h⟩|⟨hg8,h⟩:=h.br
 refine qk 28 hg8 ?_
 obtain ⟨v7,hv13,h⟩:=h
 refine q4 28 hg8 (xl (isAgg3 _) hv13) (qk 28 hg8 (stq (v:=(vb (v7 != 0))) (wy 24 hg6) (xT hg8) (jB ⟨(v7 != 0),hm,h⟩)))
 refine sj3 28 hg8 (stq (v:=(vb false)) (wy 24 hg6) (xF hg8) (jB ⟨false,hm,h⟩))
 obtain ⟨hg9,h⟩|⟨hg9,h⟩:=h.br
 refine sj4 14 hg9 (sm (sm (sm (sj 14 hg9 (q2 (vb true) (xT hg9) (jB ⟨true,hm,h⟩))))))
 refine qk 14 hg9 ?_
 obtain ⟨v8,hv16,h⟩:=h
 refine q4 14 hg9 (xl (isAgg4 _) hv16) (qk 14 hg9 (qk 14 hg9 (jE 4 (fun ρ w=>∃x6,Has ρ [(1,(vp (some p1))),(2,(vp (some p2))),(4,(vp (some p3))),(14,(vb (!r1))),(22,(vb x6))]∧m_D_j6 p1 p2 r1 p3 x6 w K) ?_ ?_)))
 rintro ρ w ⟨x6,hH,h⟩
 refine jJ hH ?_
 obtain ⟨hg10,h⟩|⟨hg10,h⟩:=h.br
 refine q2 (vb true) (xT hg10) (jB ⟨true,hm,h⟩)
 refine q2 (vb x6) (xF hg10) (jB ⟨x6,hm,h⟩)
 obtain ⟨hg11,h⟩|⟨hg11,h⟩:=h.br
 refine qk 18 hg11 ?_
 obtain ⟨v9,hv15,h⟩:=h
 refine q4 18 hg11 (xl (isAgg3 _) hv15) (qk 18 hg11 (stq (v:=(vb (v9 != 0))) (wy 14 hg9) (xT hg11) (jB ⟨(v9 != 0),hm,h⟩)))
 refine sj3 18 hg11 (stq (v:=(vb false)) (wy 14 hg9) (xF hg11) (jB ⟨false,hm,h⟩))
def m_Q_j1 (p1 p2:Addr) (x1:Bool) (w:World) (K:Int→WP):Prop :=Br x1 (K 50 w) (∃v1,w.cell? (p1.add 1)=some (vb v1)∧Br v1 (∃v2,w.cell? (p2.add 2)=some (vi v2)∧Calls prog 77 #[(vi v2)] w (fun e w3=>∃r1,e=.returned (vb r1)∧Br (!r1) (K 50 w3) (∃v3,w3.cell? (p2.add 2)=some (vi v3)∧∃v4,w3.cell? (p2.add 1)=some (vi v4)∧Br (v3 == v4) (K 50 w3) (∃v5,w3.cell? (p2.add 4)=some (vs v5)∧Br (decide ((v5.size:Int)>64)) (K 1 w3) (K 0 w3))))) (∃v6,w.cell? (p2.add 4)=some (vs v6)∧Br (decide ((v6.size:Int)>64)) (K 1 w) (K 0 w)))
def m_Q (sfrom1 sto1:Bool) (snum1 stext1:Bool) (skids1 aS:Int) (aT aU aV:Int) (aW:ByteArray) (aX aY:Int) (w:World) (K:Int→WP):Prop :=∀p1 w1,New w (.cells #[(vb sfrom1),(vb sto1),(vb snum1),(vb stext1),(vi skids1)] 109) p1 w1→∀p2 w2,New w1 (.cells #[(vi aS),(vi aT),(vi aU),(vu aV),(vs aW),(vi aX),(vi aY)] 51) p2 w2→∃v7,w2.cell? p1=some (vb v7)∧Br v7 (∃v8,w2.cell? (p2.add 1)=some (vi v8)∧Calls prog 77 #[(vi v8)] w2 (fun e w4=>∃r2,e=.returned (vb r2)∧m_Q_j1 p1 p2 (!r2) w4 K)) (m_Q_j1 p1 p2 false w2 K)
theorem w_Q (sfrom1 sto1 snum1 stext1 skids1 aS aT aU aV aW aX aY w K) (h:m_Q sfrom1 sto1 snum1 stext1 skids1 aS aT aU aV aW aX aY w K):
  Calls prog 42 #[(.agg #[(vb sfrom1),(vb sto1),(vb snum1),(vb stext1),(vi skids1)]),(.agg #[(vi aS),(vi aT),(vi aU),(vu aV),(vs aW),(vi aX),(vi aY)])] w (fun e w'=>∃r3,e=.returned (vi r3)∧K r3 w'):=by
 refine cw (args:=[(Am sfrom1 sto1 snum1 stext1 skids1),(Ab aS aT aU aV aW aX aY)]) func42 ntmps42 (eg (sn (O:=(.cells #[(vb sfrom1),(vb sto1),(vb snum1),(vb stext1),(vi skids1)] 109)) xb ?_))
 intro p1 w1 hn2
 have h:=h p1 w1 hn2
 refine nw1 h xb fun p2 w2 h=>q (ln (jA (jG (jA (qM (fun ρ w=>∃x1,Has ρ [(2,(vp (some p1))),(3,(vp (some p2))),(5,(vb x1))]∧m_Q_j1 p1 p2 x1 w K) ?_ ?_)))))
 rintro ρ w ⟨x1,hH,h⟩
 refine jN hH (cbr' h (fun hc1 h=>?_) (fun hc1 h=>?_))
 refine jC (jI (jCJ (t:=x1) (by kernel_rfl) hc1 (eg (q0 (vi 50) (ln (er (qX (zI (rs1 results42 ⟨50,rfl,h⟩)))))))))
 refine rg (q (ql (isAgg4 _) h fun v1 h=>q ?_))
 obtain ⟨hg1,h⟩|⟨hg1,h⟩:=h.br
 refine qk 16 hg1 ?_
 obtain ⟨v2,hv4,h⟩:=h
 refine q4 16 hg1 (xl (isAgg3 _) hv4) (zK (wy 16 hg1) (xc call77) (h.mono ?_))
 rintro e w3 ⟨r1,rfl,h⟩
 refine ⟨_,rfl,?_⟩
 refine qk 16 hg1 (qk 16 hg1 ?_)
 obtain ⟨hg2,h⟩|⟨hg2,h⟩:=h.br
 refine sj5 21 hg2 (stq (v:=(vb true)) (wy 16 hg1) (xT hg2) (q2 (vb true) (xT hg1) (q (ln (kJ (by kernel_rfl) (jA (rg (q (ln (er (qX (zI (rs1 results42 ⟨50,rfl,h⟩)))))))))))))
 refine qk 21 hg2 ?_
 obtain ⟨v3,hv3,h⟩:=h
 refine q4 21 hg2 (xl (isAgg3 _) hv3) (qk 21 hg2 ?_)
 obtain ⟨v4,hv2,h⟩:=h
 refine q4 21 hg2 (xl (isAgg3 _) hv2) (qk 21 hg2 (stq (v:=(vb (v3 == v4))) (wy 16 hg1) (xF hg2) (q2 (vb (v3 == v4)) (xT hg1) (q (ln (cbr h ?_ ?_))))))<;>intro h
 refine eg (q (ln (er (qX (zI (rs1 results42 ⟨50,rfl,h⟩))))))
 refine eg (q (ql (isAgg9 _) h fun v5 h=>qc (ln (cbr h ?_ ?_))))<;>intro h
 refine eg (q (ln (er (qX (zI (rs1 results42 ⟨1,rfl,h⟩))))))
 refine jC (qB (jI (eg (q (ln (er (rs1 results42 ⟨0,rfl,h⟩)))))))
 refine sj5 16 hg1 (sm (sm (sm (sm (sm (sj 16 hg1 (q2 (vb false) (xF hg1) (q (ln (kY (by kernel_rfl) (eg (q0 (vp (some (p2.add 4))) (ql (isAgg9 _) h fun v6 h=>qc (ln (cbr h ?_ ?_)))))))))))))))<;>intro h
 refine eg (q (ln (er (qX (zI (rs1 results42 ⟨1,rfl,h⟩))))))
 refine jC (qB (jI (eg (q (ln (er (rs1 results42 ⟨0,rfl,h⟩)))))))
 refine rg (q (ql (isAgg4 _) h fun v7 h=>q ?_))
 obtain ⟨hg3,h⟩|⟨hg3,h⟩:=h.br
 refine qk 8 hg3 ?_
 obtain ⟨v8,hv7,h⟩:=h
 refine q4 8 hg3 (xl (isAgg3 _) hv7) (zK (wy 8 hg3) (xc call77) (h.mono ?_))
 rintro e w4 ⟨r2,rfl,h⟩
 refine ⟨_,rfl,?_⟩
 refine qk 8 hg3 (q2 (vb (!r2)) (xT hg3) (q (ln ⟨(!r2),hm,h⟩)))
 refine sj4 8 hg3 (q2 (vb false) (xF hg3) (q (ln ⟨false,hm,h⟩)))
def m_K1 (p1:Option Addr) (aS aT:Int) (aU aV:Int) (aW:ByteArray) (aX aY:Int) (w:World) (K:Int→Int→WP):Prop :=∀p2 w1,New w (.cells #[(vi aS),(vi aT),(vi aU),(vu aV),(vs aW),(vi aX),(vi aY)] 51) p2 w1→Br (Option.isNone p1) (K 0 0 w1) (∃aA aB aC aD aE aF aG,Row w1 p2 (Aa aA aB aC aD aE aF aG)∧Calls prog 78 #[(vp p1),(.agg #[(vi aA),(vi aB),(vi aC),(vu aD),(vs aE),(vi aF),(vi aG)])] w1 (fun e w2=>∃r1 r2 r3,e=.returned (.tuple #[(vi r1),(vi r2),(vi r3)])∧Br (r3 != 0) (K 0 r3 w2) (∀w3,w3=w2.drew→∃a1,p1=some a1∧∃v1:Option Nat,w3.cell? (a1.add 1)=some (.map v1)∧∃aH aI aJ aK aL bL bM,Row w3 p2 (Aa aH aI aJ aK aL bL bM)∧∃v2 ok1,(Instr.lookup 80 (.map v1) (.agg #[(vi aH),(vi aI),(vi aJ),(vu aK),(vs aL),(vi bL),(vi bM)]) true).run prog w3=.ok (.tuple #[(vi v2),(vb ok1)]) w3∧Br ok1 (K v2 0 w3) (∃a2,p1=some a2∧∃v3:Sl,w3.cell? a2=some v3.v∧Br (decide ((v3.len:Int)≥65536)) (K 0 6 w3) (∃C1:WP,C1 w3.drew∧∀w4,w4=w3.drew→∃a3,p1=some a3∧∃v4:Sl,(∀w',C1 w'→w'.cell? a3=some v4.v)∧∃aZ bA bB bC bD cB cC,(∀w',C1 w'→Row w' p2 (Aa aZ bA bB bC bD cB cC))∧∀p3 w5,New w4 (.cells #[(vi aZ),(vi bA),(vi bB),(vu bC),(vs bD),(vi cB),(vi cC),(vi r1),(vi r2)] 78) p3 w5→C1 w5∧∃s1:Sl,∃w6:World,(Builtin.append_ #[79,79] 79 #[v4.v,(Sl.mk (some p3) 1 1).v]).run prog w5=.ok s1.v w6∧C1 w6∧∃a4,p1=some a4∧zS w6 a4∧∀w7,w7=w6.setCell a4 s1.v→∃a5,p1=some a5∧∃v5:Sl,w7.cell? a5=some v5.v∧∃C2:WP,C2 w7.drew∧∀w8,w8=w7.drew→∃a6,p1=some a6∧∃v6:Option Nat,(∀w',C2 w'→w'.cell? (a6.add 1)=some (.map v6))∧∃bG bH bI bJ bK cL cM,(∀w',C2 w'→Row w' p2 (Aa bG bH bI bJ bK cL cM))∧∃w9:World,(Instr.mapUpdate 80 (.map v6) (.agg #[(vi bG),(vi bH),(vi bI),(vu bJ),(vs bK),(vi cL),(vi cM)]) (vi (v5.len:Int))).run prog w8=.ok () w9∧K (v5.len:Int) 0 w9)))))
theorem w_K1 (p1 aS aT aU aV aW aX aY w K) (h:m_K1 p1 aS aT aU aV aW aX aY w K):
  Calls prog 43 #[(vp p1),(.agg #[(vi aS),(vi aT),(vi aU),(vu aV),(vs aW),(vi aX),(vi aY)])] w (fun e w'=>∃r4 r5,e=.returned (.tuple #[(vi r4),(vi r5)])∧K r4 r5 w'):=by
 refine cw (args:=[(vp p1),(Ab aS aT aU aV aW aX aY)]) func43 ntmps43 (eg (sn (O:=(.cells #[(vi aS),(vi aT),(vi aU),(vu aV),(vs aW),(vi aX),(vi aY)] 51)) xb ?_))
 intro p2 w1 hn3
 have h:=h p2 w1 hn3
 refine qb (ln (jA (eg (q (q2 (vb (Option.isNone p1)) (vS (by kernel_rfl) rfl underlying36) (ln (cbr h ?_ ?_)))))))<;>intro h
 refine eg (qb (ln (er (zI (kB (.inl rfl) results43 (v:=(vi 0)) (by kernel_rfl) (v':=(vi 0)) (by kernel_rfl) ⟨0,0,rfl,h⟩)))))
 refine jC (jI (eg (q ?_)))
 obtain ⟨aA,aB,aC,aD,aE,aF,aG,hv12,h⟩:=h
 refine qa (isAgg51 _) (sizeOf51 _) hv12 (sc call78 (h.mono fun e w2 ⟨r1,r2,r3,k,h⟩=>⟨_,k,?_⟩))
 refine qc (qd (ln (jA (eg (qb (ln (cbr h ?_ ?_)))))))<;>intro h
 refine eg (qc (ln (er (zI (kB (.inl rfl) results43 (v:=(vi 0)) (by kernel_rfl) (v':=(vi r3)) (by kernel_rfl) ⟨0,r3,rfl,h⟩)))))
 refine jC (jI (jA (jA (vM (by kernel_rfl) (by kernel_rfl) (by kernel_rfl) (by kernel_rfl) ?_))))
 intro w3 hw3
 have h:=h w3 hw3
 refine qq 0 (vp p1) Kp0 (qg 1 ?_)
 obtain ⟨a1,hp1,h⟩:=h
 refine sxQ Kp1 (jM rfl) rfl (xn hp1) (qq 2 (vp (some (a1.add 1))) Kp2 (qg 3 ?_))
 obtain ⟨v1,hv11,h⟩:=h
 refine sxQ Kp3 (jM rfl) rfl (xl (isAgg80 _) hv11) (qg 4 ?_)
 obtain ⟨aH,aI,aJ,aK,aL,bL,bM,hv10,h⟩:=h
 refine sxQ (v:=(Ab aH aI aJ aK aL bL bM)) Kp4 (jM rfl) rfl (xa p2 (Aa aH aI aJ aK aL bL bM) (isAgg51 _) (sizeOf51 _) hv10) (qg 5 ?_)
 obtain ⟨v2,ok1,hv9,h⟩:=h
 refine sxQ (v:=(.tuple #[(vi v2),(vb ok1)])) Kp5 (jM rfl) rfl (qL (by kernel_rfl) (by kernel_rfl) hv9) (qq 6 (.tuple #[(vi v2),(vb ok1)]) Kp6 (qq 7 (vi v2) Kp7 (qq 8 (vb ok1) Kp8 (qq 9 (vi v2) Kp9 (qq 10 (vb ok1) (jT (S8 (jH (jH jS)))) (wn (jI (eg (q (jB (jI (cbr h ?_ ?_))))))))))))<;>intro h
 refine eg (qc (ln (er (zI (kB (.inl rfl) results43 (v:=(vi v2)) (by kernel_rfl) (v':=(vi 0)) (by kernel_rfl) ⟨v2,0,rfl,h⟩)))))
 refine jC (jI (jA (eg (q (qm h fun a2 h=>q (ql (isAgg79 _) h fun v3 h=>qb (ln (cbr h ?_ ?_))))))))<;>intro h
 refine eg (qb (ln (er (zI (kB (.inl rfl) results43 (v:=(vi 0)) (by kernel_rfl) (v':=(vi 6)) (by kernel_rfl) ⟨0,6,rfl,h⟩)))))
 refine jC (jI (jA ?_))
 obtain ⟨C1,hC,h⟩:=h
 refine dr1 C1 [9,10,13] [13] hC h fun w4 h=>qx 0 (vp p1) Kp0 (qx 1 (vp p1) Kp1 (qg 2 ?_))
 obtain ⟨a3,hp3,h⟩:=h
 refine sy Kp2 (fun _ _=>xn hp3) (qx 3 (vp (some a3)) Kp3 (qg 4 ?_))
 obtain ⟨v4,hv7,h⟩:=h
 refine sy Kp4 (fun _ k=>xl (isAgg79 _) (hv7 _ k)) (qg 5 ?_)
 obtain ⟨aZ,bA,bB,bC,bD,cB,cC,hv6,h⟩:=h
 refine sy (v:=(Ab aZ bA bB bC bD cB cC)) Kp5 (fun w' hw'=>(xa p2 (Aa aZ bA bB bC bD cB cC) (isAgg51 _) (sizeOf51 _) (hv6 w' hw'))) (qx 6 (vi r1) Kp6 (qx 7 (vi r2) Kp7 (qx 8 (.agg #[(vi aZ),(vi bA),(vi bB),(vu bC),(vs bD),(vi cB),(vi cC),(vi r1),(vi r2)]) Kp8 (lg 9 (qU (O:=(.cells #[(vi aZ),(vi bA),(vi bB),(vu bC),(vs bD),(vi cB),(vi cC),(vi r1),(vi r2)] 78)) (fun p=>(Sl.mk (some p) 1 1).v) Kp9 (jM rfl) (by kernel_rfl) (zA (vs:=#[(0,(.agg #[(vi aZ),(vi bA),(vi bB),(vu bC),(vs bD),(vi cB),(vi cC),(vi r1),(vi r2)]))]) (by kernel_rfl) (by kernel_rfl)) ?_)))))
 intro p3 w5 hn2
 have h:=h p3 w5 hn2
 refine ⟨.inr h.1,?_⟩
 have h:=h.2
 refine lg 10 ?_
 obtain ⟨s1,w6,hv5,hC,h⟩:=h
 refine sl (v:=s1.v) (jT (S8 (jH (jH jS)))) (jM rfl) (by kernel_rfl) (zD (args:=#[v4.v,(Sl.mk (some p3) 1 1).v]) (by kernel_rfl) (fun _=>rfl) hv5) (.inr hC) (qg 11 ?_)
 obtain ⟨a4,hp4,h⟩:=h
 refine sy (jT (S8 (jH (jH (jH jS))))) (fun _ _=>xn hp4) (qx 12 (vp (some a4)) (jT (S8 (S4 jS))) (lg 13 ?_))
 obtain ⟨hp5,h⟩:=h
 refine sl_t (jT (S8 (S4 (jH jS)))) (xs (v:=s1.v) (sizeOf79 _) hp5) ?_
 intro w7 hn1
 have h:=h w7 hn1
 refine ⟨.inl (by kernel_rfl),?_⟩
 refine wn (jI (eg (q (qm h fun a5 h=>q (ql (isAgg79 _) h fun v5 h=>qb (ln (jA ?_)))))))
 obtain ⟨C2,hC,h⟩:=h
 refine dr1 C2 [6] [6] hC h fun w8 h=>qx 0 (vp p1) Kp0 (qg 1 ?_)
 obtain ⟨a6,hp7,h⟩:=h
 refine sy Kp1 (fun _ _=>xn hp7) (qx 2 (vp (some (a6.add 1))) Kp2 (qg 3 ?_))
 obtain ⟨v6,hv3,h⟩:=h
 refine sy Kp3 (fun _ k=>xl (isAgg80 _) (hv3 _ k)) (qg 4 ?_)
 obtain ⟨bG,bH,bI,bJ,bK,cL,cM,hv2,h⟩:=h
 refine sy (v:=(Ab bG bH bI bJ bK cL cM)) Kp4 (fun w' hw'=>(xa p2 (Aa bG bH bI bJ bK cL cM) (isAgg51 _) (sizeOf51 _) (hv2 w' hw'))) (qx 5 (vi (v5.len:Int)) Kp5 (lg 6 ?_))
 obtain ⟨w9,hv1,h⟩:=h
 refine lZ Kp6 (jM rfl) (by kernel_rfl) (vT (by kernel_rfl) (by kernel_rfl) (by kernel_rfl) hv1) (.inl (by kernel_rfl)) (wn (jI (eg (q0 (vi (v5.len:Int)) (q0 (vi (v5.len:Int)) (q0 (vi 0) (ln (er (kB (.inl rfl) results43 (v:=(vi (v5.len:Int))) (by kernel_rfl) (v':=(vi 0)) (by kernel_rfl) ⟨(v5.len:Int),0,rfl,h⟩)))))))))
def m_T1 (p1:Option Addr) (n1:Int) (w:World) (K:Int→Int→WP):Prop :=Calls prog 43 #[(vp p1),(.agg #[(vi 1),(vi n1),(vi 0),(vu 0),ve,(vi 0),(vi 0)])] w (fun e w1=>∃r1 r2,e=.returned (.tuple #[(vi r1),(vi r2)])∧K r1 r2 w1)
theorem w_T1 (p1 n1 w K) (h:m_T1 p1 n1 w K):
  Calls prog 52 #[(vp p1),(vi n1)] w (fun e w'=>∃r3 r4,e=.returned (.tuple #[(vi r3),(vi r4)])∧K r3 r4 w'):=by
 refine cw (args:=[(vp p1),(vi n1)]) func52 ntmps52 (eg (q0 (vi 0) (q0 (vi 0) (ln (eg (q0 (vp p1) (q0 (vi n1) (q0 (An 1 n1 0 0 0 0) ?_))))))))
 refine sc call43 (h.mono fun e w1 ⟨r1,r2,k,h⟩=>⟨_,k,?_⟩)
 refine qd (ln (er (kB (.inl rfl) results52 (v:=(vi r1)) (by kernel_rfl) (v':=(vi r2)) (by kernel_rfl) ⟨r1,r2,rfl,h⟩)))
def m_U1 (p1:Option Addr) (n1:Int) (w:World) (K:Int→Int→WP):Prop :=Calls prog 43 #[(vp p1),(.agg #[(vi 2),(vi 0),(vi 0),(vu n1),ve,(vi 0),(vi 0)])] w (fun e w1=>∃r1 r2,e=.returned (.tuple #[(vi r1),(vi r2)])∧K r1 r2 w1)
theorem w_U1 (p1 n1 w K) (h:m_U1 p1 n1 w K):
  Calls prog 54 #[(vp p1),(vu n1)] w (fun e w'=>∃r3 r4,e=.returned (.tuple #[(vi r3),(vi r4)])∧K r3 r4 w'):=by
 refine cw (args:=[(vp p1),(vu n1)]) func54 ntmps54 (eg (q0 (vi 0) (q0 (vi 0) (ln (eg (q0 (vp p1) (q0 (vu n1) (q0 (An 2 0 0 n1 0 0) ?_))))))))
 refine sc call43 (h.mono fun e w1 ⟨r1,r2,k,h⟩=>⟨_,k,?_⟩)
 refine qd (ln (er (kB (.inl rfl) results54 (v:=(vi r1)) (by kernel_rfl) (v':=(vi r2)) (by kernel_rfl) ⟨r1,r2,rfl,h⟩)))
def m_V1 (p1:Option Addr) (s1:ByteArray) (w:World) (K:Int→Int→WP):Prop :=Calls prog 43 #[(vp p1),(.agg #[(vi 3),(vi 0),(vi 0),(vu 0),(vs s1),(vi 0),(vi 0)])] w (fun e w1=>∃r1 r2,e=.returned (.tuple #[(vi r1),(vi r2)])∧K r1 r2 w1)
theorem w_V1 (p1 s1 w K) (h:m_V1 p1 s1 w K):
  Calls prog 56 #[(vp p1),(vs s1)] w (fun e w'=>∃r3 r4,e=.returned (.tuple #[(vi r3),(vi r4)])∧K r3 r4 w'):=by
 refine cw (args:=[(vp p1),(vs s1)]) func56 ntmps56 (eg (q0 (vi 0) (q0 (vi 0) (ln (eg (q0 (vp p1) (q0 (vs s1) (q0 (Ab 3 0 0 0 s1 0 0) ?_))))))))
 refine sc call43 (h.mono fun e w1 ⟨r1,r2,k,h⟩=>⟨_,k,?_⟩)
 refine qd (ln (er (kB (.inl rfl) results56 (v:=(vi r1)) (by kernel_rfl) (v':=(vi r2)) (by kernel_rfl) ⟨r1,r2,rfl,h⟩)))
def m_W1 (p1:Option Addr) (a1 b1:Int) (w:World) (K:Int→Int→WP):Prop :=Calls prog 43 #[(vp p1),(.agg #[(vi 4),(vi 0),(vi 0),(vu 0),ve,(vi a1),(vi b1)])] w (fun e w1=>∃r1 r2,e=.returned (.tuple #[(vi r1),(vi r2)])∧K r1 r2 w1)
theorem w_W1 (p1 a1 b1 w K) (h:m_W1 p1 a1 b1 w K):
  Calls prog 59 #[(vp p1),(vi a1),(vi b1)] w (fun e w'=>∃r3 r4,e=.returned (.tuple #[(vi r3),(vi r4)])∧K r3 r4 w'):=by
 refine cw (args:=[(vp p1),(vi a1),(vi b1)]) func59 ntmps59 (eg (q0 (vi 0) (q0 (vi 0) (ln (eg (q0 (vp p1) (q0 (vi a1) (q0 (vi b1) ?_))))))))
 refine q (sc call43 (h.mono fun e w1 ⟨r1,r2,k,h⟩=>⟨_,k,?_⟩))
 refine qd (ln (er (kB (.inl rfl) results59 (v:=(vi r1)) (by kernel_rfl) (v':=(vi r2)) (by kernel_rfl) ⟨r1,r2,rfl,h⟩)))
def m_X1 (p1:Option Addr) (a1:Int) (w:World) (K:Int→Int→WP):Prop :=Calls prog 43 #[(vp p1),(.agg #[(vi 5),(vi 0),(vi 0),(vu 0),ve,(vi a1),(vi 0)])] w (fun e w1=>∃r1 r2,e=.returned (.tuple #[(vi r1),(vi r2)])∧K r1 r2 w1)
theorem w_X1 (p1 a1 w K) (h:m_X1 p1 a1 w K):
  Calls prog 61 #[(vp p1),(vi a1)] w (fun e w'=>∃r3 r4,e=.returned (.tuple #[(vi r3),(vi r4)])∧K r3 r4 w'):=by
 refine cw (args:=[(vp p1),(vi a1)]) func61 ntmps61 (eg (q0 (vi 0) (q0 (vi 0) (ln (eg (q0 (vp p1) (q0 (vi a1) (q0 (An 5 0 0 0 a1 0) ?_))))))))
 refine sc call43 (h.mono fun e w1 ⟨r1,r2,k,h⟩=>⟨_,k,?_⟩)
 refine qd (ln (er (kB (.inl rfl) results61 (v:=(vi r1)) (by kernel_rfl) (v':=(vi r2)) (by kernel_rfl) ⟨r1,r2,rfl,h⟩)))
def m_Y1 (p1:Option Addr) (n1 a1:Int) (w:World) (K:Int→Int→WP):Prop :=Calls prog 43 #[(vp p1),(.agg #[(vi 7),(vi n1),(vi 0),(vu 0),ve,(vi a1),(vi 0)])] w (fun e w1=>∃r1 r2,e=.returned (.tuple #[(vi r1),(vi r2)])∧K r1 r2 w1)
theorem w_Y1 (p1 n1 a1 w K) (h:m_Y1 p1 n1 a1 w K):
  Calls prog 68 #[(vp p1),(vi n1),(vi a1)] w (fun e w'=>∃r3 r4,e=.returned (.tuple #[(vi r3),(vi r4)])∧K r3 r4 w'):=by
 refine cw (args:=[(vp p1),(vi n1),(vi a1)]) func68 ntmps68 (eg (q0 (vi 0) (q0 (vi 0) (ln (eg (q0 (vp p1) (q0 (vi n1) (q0 (vi a1) ?_))))))))
 refine q (sc call43 (h.mono fun e w1 ⟨r1,r2,k,h⟩=>⟨_,k,?_⟩))
 refine qd (ln (er (kB (.inl rfl) results68 (v:=(vi r1)) (by kernel_rfl) (v':=(vi r2)) (by kernel_rfl) ⟨r1,r2,rfl,h⟩)))
def m_Z1 (p1:Option Addr) (from1 to1 a1:Int) (w:World) (K:Int→Int→WP):Prop :=Calls prog 43 #[(vp p1),(.agg #[(vi 8),(vi from1),(vi to1),(vu 0),ve,(vi a1),(vi 0)])] w (fun e w1=>∃r1 r2,e=.returned (.tuple #[(vi r1),(vi r2)])∧K r1 r2 w1)
theorem w_Z1 (p1 from1 to1 a1 w K) (h:m_Z1 p1 from1 to1 a1 w K):
  Calls prog 71 #[(vp p1),(vi from1),(vi to1),(vi a1)] w (fun e w'=>∃r3 r4,e=.returned (.tuple #[(vi r3),(vi r4)])∧K r3 r4 w'):=by
 refine cw (args:=[(vp p1),(vi from1),(vi to1),(vi a1)]) func71 ntmps71 (eg (q0 (vi 0) (q0 (vi 0) (ln (eg (q0 (vp p1) (q0 (vi from1) (q0 (vi to1) ?_))))))))
 refine qb (sc call43 (h.mono fun e w1 ⟨r1,r2,k,h⟩=>⟨_,k,?_⟩))
 refine qd (ln (er (kB (.inl rfl) results71 (v:=(vi r1)) (by kernel_rfl) (v':=(vi r2)) (by kernel_rfl) ⟨r1,r2,rfl,h⟩)))
def m_A2 (p1:Option Addr) (from1 to1 a1:Int) (w:World) (K:Int→Int→WP):Prop :=Calls prog 43 #[(vp p1),(.agg #[(vi 9),(vi from1),(vi to1),(vu 0),ve,(vi a1),(vi 0)])] w (fun e w1=>∃r1 r2,e=.returned (.tuple #[(vi r1),(vi r2)])∧K r1 r2 w1)
theorem w_A2 (p1 from1 to1 a1 w K) (h:m_A2 p1 from1 to1 a1 w K):
  Calls prog 75 #[(vp p1),(vi from1),(vi to1),(vi a1)] w (fun e w'=>∃r3 r4,e=.returned (.tuple #[(vi r3),(vi r4)])∧K r3 r4 w'):=by
 refine cw (args:=[(vp p1),(vi from1),(vi to1),(vi a1)]) func75 ntmps75 (eg (q0 (vi 0) (q0 (vi 0) (ln (eg (q0 (vp p1) (q0 (vi from1) (q0 (vi to1) ?_))))))))
 refine qb (sc call43 (h.mono fun e w1 ⟨r1,r2,k,h⟩=>⟨_,k,?_⟩))
 refine qd (ln (er (kB (.inl rfl) results75 (v:=(vi r1)) (by kernel_rfl) (v':=(vi r2)) (by kernel_rfl) ⟨r1,r2,rfl,h⟩)))
def m_B2 (kind1:Int) (w:World) (K:Bool→Bool→Bool→Bool→Int→Bool→WP):Prop :=∀p1 w1,New w (.cells #[(vb false),(vb false),(vb false),(vb false),(vi 0)] 109) p1 w1→Br (decide (kind1<1)) ((∀j,j<5→zS w1 (p1.add j))∧∀w2,w2=storeRow w1 p1 (Ai false false false false 0)→∃qfrom1 qto1 qnum1 qtext1 qkids1,Row w2 p1 (Ai qfrom1 qto1 qnum1 qtext1 qkids1)∧K qfrom1 qto1 qnum1 qtext1 qkids1 false w2) (Br (decide (kind1>9)) ((∀j,j<5→zS w1 (p1.add j))∧∀w3,w3=storeRow w1 p1 (Ai false false false false 0)→∃qfrom2 qto2 qnum2 qtext2 qkids2,Row w3 p1 (Ai qfrom2 qto2 qnum2 qtext2 qkids2)∧K qfrom2 qto2 qnum2 qtext2 qkids2 false w3) (Calls prog 86 #[] w1 (fun e w4=>∃r1:Array Value,e=.returned (.agg r1)∧∃efrom1 eto1 enum1 etext1 ekids1,(Instr.index 143 (.agg r1) (vi kind1)).run prog w4=.ok (.agg #[(vb efrom1),(vb eto1),(vb enum1),(vb etext1),(vi ekids1)]) w4∧(∀j,j<5→zS w4 (p1.add j))∧∀w5,w5=storeRow w4 p1 (Ai efrom1 eto1 enum1 etext1 ekids1)→∃qfrom3 qto3 qnum3 qtext3 qkids3,Row w5 p1 (Ai qfrom3 qto3 qnum3 qtext3 qkids3)∧K qfrom3 qto3 qnum3 qtext3 qkids3 true w5)))
theorem w_B2 (kind1 w K) (h:m_B2 kind1 w K):
  Calls prog 76 #[(vi kind1)] w (fun e w'=>∃rfrom1 rto1 rnum1 rtext1 rkids1 r2,e=.returned (.tuple #[(Am rfrom1 rto1 rnum1 rtext1 rkids1),(vb r2)])∧K rfrom1 rto1 rnum1 rtext1 rkids1 r2 w'):=by
 refine cw (args:=[(vi kind1)]) func76 ntmps76 (eg (sn (O:=(.cells #[(vb false),(vb false),(vb false),(vb false),(vi 0)] 109)) (jX (zeroValue109 _) rfl) ?_))
 intro p1 w1 hn4
 have h:=h p1 w1 hn4
 refine q (ln (jA (eg (qc ?_))))
 obtain ⟨hg1,h⟩|⟨hg1,h⟩:=h.br
 refine sj2 6 hg1 (q2 (vb true) (xT hg1) (ln (kJ (by kernel_rfl) (eg (q0 (Am false false false false 0) (sro (sizeOf109 _) h fun w2 h=>q (ln (er (zI ?_)))))))))
 obtain ⟨qfrom1,qto1,qnum1,qtext1,qkids1,hv1,h⟩:=h
 refine gg2 results76 (rva (isAgg109 _) (sizeOf109 _) hv1) (rvU (vb false)) ⟨qfrom1,qto1,qnum1,qtext1,qkids1,false,rfl,h⟩
 refine qk 6 hg1 (qk 6 hg1 (q2 (vb (decide (kind1>9))) (xF hg1) (ln (cbr h ?_ ?_))))<;>intro h
 refine eg (q (sro (sizeOf109 _) h fun w3 h=>q (ln (er (zI ?_)))))
 obtain ⟨qfrom2,qto2,qnum2,qtext2,qkids2,hv2,h⟩:=h
 refine gg2 results76 (rva (isAgg109 _) (sizeOf109 _) hv2) (rvU (vb false)) ⟨qfrom2,qto2,qnum2,qtext2,qkids2,false,rfl,h⟩
 refine jC (jI (eg (sc call86 (h.mono fun e w4 ⟨r1,k,h⟩=>⟨_,k,?_⟩))))
 refine q ?_
 obtain ⟨efrom1,eto1,enum1,etext1,ekids1,hv4,h⟩:=h
 refine q2 (Am efrom1 eto1 enum1 etext1 ekids1) (jHE (by kernel_rfl) (by kernel_rfl) hv4) (sro (sizeOf109 _) h fun w5 h=>q (ln (er ?_)))
 obtain ⟨qfrom3,qto3,qnum3,qtext3,qkids3,hv3,h⟩:=h
 refine gg2 results76 (rva (isAgg109 _) (sizeOf109 _) hv3) (rvU (vb true)) ⟨qfrom3,qto3,qnum3,qtext3,qkids3,true,rfl,h⟩
def m_C2 (n1:Int) (w:World) (K:Bool→WP):Prop :=Br (decide (n1≥0)) (K (decide (n1<16)) w) (K false w)
theorem w_C2 (n1 w K) (h:m_C2 n1 w K):
  Calls prog 77 #[(vi n1)] w (fun e w'=>∃r1,e=.returned (vb r1)∧K r1 w'):=by
 refine cw (args:=[(vi n1)]) func77 ntmps77 (eg (q0 (vb false) (ln (eg (q0 (vi n1) (q0 (vb (decide (n1≥0))) (q0 (vb (decide (n1≥0))) ?_)))))))
 obtain ⟨hg1,h⟩|⟨hg1,h⟩:=h.br
 refine qk 5 hg1 (qk 5 hg1 (q2 (vb (decide (n1<16))) (xT hg1) (q (ln (er (rs1 results77 ⟨(decide (n1<16)),rfl,h⟩))))))
 refine sj2 5 hg1 (q2 (vb false) (xF hg1) (q (ln (er (rs1 results77 ⟨false,rfl,h⟩)))))
def m_E_l3 (p1:Option Addr) (s1:Sl) (size1 depth1 x1:Int) (wl1:World) (Kc3:Int→Int→Int→WP) (K:Int→Int→Int→WP):Prop :=Br (decide (x1<(s1.len:Int))) (∃a1:Addr,At s1 x1 1 a1∧∃v4,wl1.cell? a1=some (vi v4)∧Calls prog 28 #[(vp p1),(vi v4)] wl1 (fun e w6=>∃r2,e=.returned (vb r2)∧Br (!r2) (K 0 0 51 w6) (Calls prog 87 #[(vp p1),(vi v4)] w6 (fun e w7=>∃r3,e=.returned (vi r3)∧Calls prog 88 #[(vp p1),(vi v4)] w7 (fun e w8=>∃r4,e=.returned (vi r4)∧∃z1,(Builtin.max_ #[3,3] 3 #[(vi depth1),(vi r4)]).run prog w8=.ok (vi z1) w8∧Kc3 (q6.wrap (size1+r3)) z1 (q6.wrap (x1+1)) w8))))) (Br (decide (size1>4096)) (K 0 0 52 wl1) (Br (decide ((q6.wrap (depth1+1))>64)) (K 0 0 52 wl1) (K size1 (q6.wrap (depth1+1)) 0 wl1)))
def m_E_j2 (p1:Option Addr) (p2 p3:Addr) (e2:Int) (w:World) (K:Int→Int→Int→WP):Prop :=Br (e2 != 0) (K 0 0 e2 w) (∃v1,w.cell? (p2.add 5)=some (vi v1)∧∃v2,w.cell? (p2.add 6)=some (vi v2)∧∀p4 w5,New w (.cells #[(vi v1),(vi v2)] 32) p4 w5→∃v3,w5.cell? (p3.add 4)=some (vi v3)∧∃s1:Sl,(Instr.sliceAt 39 (Sl.mk (some p4) 2 2).v none (some (vi v3)) none).run prog w5=.ok s1.v w5∧∃(I1:Int→Int→Int→WP) (mu1:Int→Int→Int→World→Nat),I1 1 0 0 w5∧∀(size1 depth1 x1:Int) (wl1:World),I1 size1 depth1 x1 wl1→m_E_l3 p1 s1 size1 depth1 x1 wl1 (fun y'0 y'1 y'2 w'=>I1 y'0 y'1 y'2 w'∧mu1 y'0 y'1 y'2 w'<mu1 size1 depth1 x1 wl1) K)
def m_E_j1 (p1:Option Addr) (p2 p3:Addr) (e1:Int) (w:World) (K:Int→Int→Int→WP):Prop :=Br (e1 == 0) (∃vfrom1 vto1 vnum1 vtext1 vkids1,Row w p3 (Ai vfrom1 vto1 vnum1 vtext1 vkids1)∧∃aH aI aJ aK aL bL bM,Row w p2 (Aa aH aI aJ aK aL bL bM)∧Calls prog 42 #[(.agg #[(vb vfrom1),(vb vto1),(vb vnum1),(vb vtext1),(vi vkids1)]),(.agg #[(vi aH),(vi aI),(vi aJ),(vu aK),(vs aL),(vi bL),(vi bM)])] w (fun e w9=>∃r5,e=.returned (vi r5)∧m_E_j2 p1 p2 p3 r5 w9 K)) (m_E_j2 p1 p2 p3 e1 w K)
def m_E_j5 (p1:Option Addr) (p2:Addr) (r1:Int) (p3:Addr) (x2 x3:Bool) (w:World) (K:Int→Int→Int→WP):Prop :=Br (r1 == 0) (Br x2 (m_E_j1 p1 p2 p3 53 w K) (Br x3 (m_E_j1 p1 p2 p3 53 w K) (m_E_j1 p1 p2 p3 r1 w K))) (m_E_j1 p1 p2 p3 r1 w K)
def m_E_j4 (p1:Option Addr) (p2:Addr) (r1:Int) (p3:Addr) (x2:Bool) (w:World) (K:Int→Int→Int→WP):Prop :=Br (r1 == 0) (Br x2 (m_E_j1 p1 p2 p3 53 w K) (∃v6,w.cell? (p3.add 4)=some (vi v6)∧Br (decide (v6<2)) (∃v7,w.cell? (p2.add 6)=some (vi v7)∧m_E_j5 p1 p2 r1 p3 x2 (v7 != 0) w K) (m_E_j5 p1 p2 r1 p3 x2 false w K))) (m_E_j1 p1 p2 p3 r1 w K)
def m_E (p1:Option Addr) (aS aT:Int) (aU aV:Int) (aW:ByteArray) (aX aY:Int) (w:World) (K:Int→Int→Int→WP):Prop :=∀p2 w1,New w (.cells #[(vi aS),(vi aT),(vi aU),(vu aV),(vs aW),(vi aX),(vi aY)] 51) p2 w1→∃aA aB aC aD aE aF aG,Row w1 p2 (Aa aA aB aC aD aE aF aG)∧Calls prog 41 #[(.agg #[(vi aA),(vi aB),(vi aC),(vu aD),(vs aE),(vi aF),(vi aG)])] w1 (fun e w2=>∃rfrom1 rto1 rnum1 rtext1 rkids1 r1,e=.returned (.tuple #[(Am rfrom1 rto1 rnum1 rtext1 rkids1),(vi r1)])∧∀p3 w3,New w2 (.cells #[(vb false),(vb false),(vb false),(vb false),(vi 0)] 109) p3 w3→(∀j,j<5→zS w3 (p3.add j))∧∀w4,w4=storeRow w3 p3 (Ai rfrom1 rto1 rnum1 rtext1 rkids1)→Br (r1 == 0) (∃v5,w4.cell? (p3.add 4)=some (vi v5)∧Br (decide (v5<1)) (∃v8,w4.cell? (p2.add 5)=some (vi v8)∧m_E_j4 p1 p2 r1 p3 (v8 != 0) w4 K) (m_E_j4 p1 p2 r1 p3 false w4 K)) (m_E_j1 p1 p2 p3 r1 w4 K))
theorem w_E (p1 aS aT aU aV aW aX aY w K) (h:m_E p1 aS aT aU aV aW aX aY w K):
  Calls prog 78 #[(vp p1),(.agg #[(vi aS),(vi aT),(vi aU),(vu aV),(vs aW),(vi aX),(vi aY)])] w (fun e w'=>∃r6 r7 r8,e=.returned (.tuple #[(vi r6),(vi r7),(vi r8)])∧K r6 r7 r8 w'):=by
 refine cw (args:=[(vp p1),(Ab aS aT aU aV aW aX aY)]) func78 ntmps78 (eg (sn (O:=(.cells #[(vi aS),(vi aT),(vi aU),(vu aV),(vs aW),(vi aX),(vi aY)] 51)) xb ?_))
 intro p2 w1 hn4
 have h:=h p2 w1 hn4
 refine qc (ln (eg ?_))
 obtain ⟨aA,aB,aC,aD,aE,aF,aG,hv14,h⟩:=h
 refine qa (isAgg51 _) (sizeOf51 _) hv14 (sc call41 (h.mono fun e w2 ⟨rfrom1,rto1,rnum1,rtext1,rkids1,r1,k,h⟩=>⟨_,k,?_⟩))
 refine qc (nw1 h (jX (zeroValue109 _) rfl) fun p3 w3 h=>sro (sizeOf109 _) h fun w4 h=>q (ln (qM (fun ρ w=>∃e1,Has ρ [(0,(vp p1)),(3,(vp (some p2))),(7,(vp (some p3))),(8,(vi e1))]∧m_E_j1 p1 p2 p3 e1 w K) ?_ ?_)))
 rintro ρ w ⟨e1,hH,h⟩
 refine jN hH (qM (fun ρ w=>∃e2,Has ρ [(0,(vp p1)),(3,(vp (some p2))),(7,(vp (some p3))),(8,(vi e2))]∧m_E_j2 p1 p2 p3 e2 w K) ?_ ?_)
 rintro ρ w ⟨e2,hH,h⟩
 refine jN hH (jA (eg (qb (ln (cbr h ?_ ?_)))))<;>intro h
 refine eg (qd (ln (er (zI (jGV (.inl rfl) results78 (v:=(vi 0)) (by kernel_rfl) (v':=(vi 0)) (by kernel_rfl) (v'':=(vi e2)) (by kernel_rfl) ⟨0,0,e2,rfl,h⟩)))))
 refine jC (jI (eg (qb (ln (jA (eg (q (ql (isAgg32 _) h fun v1 h=>q (ql (isAgg32 _) h fun v2 h=>qT (O:=(.cells #[(vi v1),(vi v2)] 32)) (fun p=>(Sl.mk (some p) 2 2).v) (jM rfl) (zA (vs:=#[(0,(vi v1)),(1,(vi v2))]) (by kernel_rfl) (by kernel_rfl)) ?_)))))))))
 intro p4 w5 hn2
 have h:=h p4 w5 hn2
 refine q (ql (isAgg3 _) h fun v3 h=>?_)
 obtain ⟨s1,hv4,h⟩:=h
 refine q2 s1.v (qY (by kernel_rfl) (by kernel_rfl) (by kernel_rfl) (by kernel_rfl) hv4) (qb (ln (jG ?_)))
 obtain ⟨I1,mu1,h0,hr⟩:=h
 refine zH (σ:=Int×Int×Int×World) (fun s ρ w=>w=s.2.2.2∧Has ρ [(0,(vp p1)),(9,(vi s.1)),(10,(vi s.2.1)),(55,s1.v),(56,(vi (s1.len:Int))),(57,(vi s.2.2.1))]∧I1 s.1 s.2.1 s.2.2.1 s.2.2.2) (fun s=>mu1 s.1 s.2.1 s.2.2.1 s.2.2.2) (1,0,0,w5) ⟨rfl,hm,h0⟩ ?_
 rintro ⟨size1,depth1,x1,wl1⟩ ρ w ⟨hw,hH,hI⟩
 dsimp only at hw hH;subst w
 have h:=hr size1 depth1 x1 wl1 hI
 refine jN hH (eg (q (ln (jA (cbr h ?_ ?_)))))<;>intro h
 refine jC (jI (jA (jG (eg (qi (runUnderlying39 _) (sizeOf32 _) h fun a1 h=>ql (isAgg32 _) h fun v4 h=>q (ln (jA (eg (qb (sc call28 (h.mono fun e w6 ⟨r2,k,h⟩=>⟨_,k,?_⟩)))))))))))
 refine q (ln (cbr h ?_ ?_))<;>intro h
 refine eg (qc (ln (er (zI (qX (zI (zI (qX (zI (jGV (.inl rfl) results78 (v:=(vi 0)) (by kernel_rfl) (v':=(vi 0)) (by kernel_rfl) (v'':=(vi 51)) (by kernel_rfl) ⟨0,0,51,rfl,h⟩))))))))))
 refine jC (jI (eg (qc (sc call87 (h.mono fun e w7 ⟨r3,k,h⟩=>⟨_,k,?_⟩)))))
 refine qb (ln (rg (qc (sc call88 (h.mono fun e w8 ⟨r4,k,h⟩=>⟨_,k,?_⟩)))))
 obtain ⟨z1,hv1,h⟩:=h
 refine q2 (vi z1) (zD (args:=#[(vi depth1),(vi r4)]) (by kernel_rfl) (fun _=>rfl) hv1) (q (jB (qB (jI (rg (qb (ln ⟨((q6.wrap (size1+r3)),z1,(q6.wrap (x1+1)),w8),⟨rfl,hm,h.1⟩,h.2⟩)))))))
 refine zB (vG (vG (kQ (jI (eg (q0 (vi depth1) (q0 (vi (q6.wrap (depth1+1))) (q0 (vi (q6.wrap (depth1+1))) (ln (jA (eg (qc ?_))))))))))))
 obtain ⟨hg1,h⟩|⟨hg1,h⟩:=h.br
 refine sj2 80 hg1 (q2 (vb true) (xT hg1) (ln (kJ (by kernel_rfl) (eg (q0 (vi 0) (q0 (vi 0) (q0 (vi 52) (jB (jI (er (zI (jGV (.inl rfl) results78 (v:=(vi 0)) (by kernel_rfl) (v':=(vi 0)) (by kernel_rfl) (v'':=(vi 52)) (by kernel_rfl) ⟨0,0,52,rfl,h⟩))))))))))))
 refine qk 80 hg1 (qk 80 hg1 (q2 (vb (decide ((q6.wrap (depth1+1))>64))) (xF hg1) (ln (cbr h ?_ ?_))))<;>intro h
 refine eg (qc (ln (er (zI (jGV (.inl rfl) results78 (v:=(vi 0)) (by kernel_rfl) (v':=(vi 0)) (by kernel_rfl) (v'':=(vi 52)) (by kernel_rfl) ⟨0,0,52,rfl,h⟩)))))
 refine jC (jI (eg (q (qd (ln (er (jGV (.inl rfl) results78 (v:=(vi size1)) (by kernel_rfl) (v':=(vi (q6.wrap (depth1+1)))) (by kernel_rfl) (v'':=(vi 0)) (by kernel_rfl) ⟨size1,(q6.wrap (depth1+1)),0,rfl,h⟩)))))))
 refine eg (qb (ln (cbr h ?_ ?_)))<;>intro h
 refine rg ?_
 obtain ⟨vfrom1,vto1,vnum1,vtext1,vkids1,hv9,h⟩:=h
 refine qa (isAgg109 _) (sizeOf109 _) hv9 ?_
 obtain ⟨aH,aI,aJ,aK,aL,bL,bM,hv8,h⟩:=h
 refine qa (isAgg51 _) (sizeOf51 _) hv8 (sc call42 (h.mono fun e w9 ⟨r5,k,h⟩=>⟨_,k,?_⟩))
 refine q (ln ⟨r5,hm,h⟩)
 refine jC (jI ⟨e1,hm,h⟩)
 refine eg (qc ?_)
 obtain ⟨hg2,h⟩|⟨hg2,h⟩:=h.br
 refine qk 20 hg2 ?_
 obtain ⟨v5,hv13,h⟩:=h
 refine q4 20 hg2 (xl (isAgg3 _) hv13) (qk 20 hg2 (qk 20 hg2 (jE 4 (fun ρ w=>∃x2,Has ρ [(0,(vp p1)),(3,(vp (some p2))),(7,(vp (some p3))),(8,(vi r1)),(20,(vb (r1 == 0))),(28,(vb x2))]∧m_E_j4 p1 p2 r1 p3 x2 w K) ?_ ?_)))
 rintro ρ w ⟨x2,hH,h⟩
 refine jJ hH ?_
 obtain ⟨hg3,h⟩|⟨hg3,h⟩:=h.br
 refine qk 20 hg3 ?_
 obtain ⟨hg4,h⟩|⟨hg4,h⟩:=h.br
 refine sj4 29 hg4 (sm (sm (sm (sj 29 hg4 (stq (v:=(vb true)) (wy 20 hg3) (xT hg4) (q2 (vb true) (xT hg3) (ln (kJ (by kernel_rfl) (rg (q0 (vi 53) (ln ⟨53,hm,h⟩)))))))))))
 refine qk 29 hg4 ?_
 obtain ⟨v6,hv11,h⟩:=h
 refine q4 29 hg4 (xl (isAgg3 _) hv11) (qk 29 hg4 (qk 29 hg4 (jE 4 (fun ρ w=>∃x3,Has ρ [(0,(vp p1)),(3,(vp (some p2))),(7,(vp (some p3))),(8,(vi r1)),(20,(vb (r1 == 0))),(29,(vb x2)),(37,(vb x3))]∧m_E_j5 p1 p2 r1 p3 x2 x3 w K) ?_ ?_)))
 rintro ρ w ⟨x3,hH,h⟩
 refine jJ hH ?_
 obtain ⟨hg5,h⟩|⟨hg5,h⟩:=h.br
 obtain ⟨hg6,h⟩|⟨hg6,h⟩:=h.br
 refine stq (v:=(vb true)) (wy 20 hg5) (xT hg6) (q2 (vb true) (xT hg5) (ln (kJ (by kernel_rfl) (rg (q0 (vi 53) (ln ⟨53,hm,h⟩))))))
 refine stq (v:=(vb x3)) (wy 20 hg5) (xF hg6) (q2 (vb x3) (xT hg5) (ln (cbr h ?_ ?_)))<;>intro h
 refine rg (q (ln ⟨53,hm,h⟩))
 refine jC (jI ⟨r1,hm,h⟩)
 refine sj 20 hg5 (q2 (vb false) (xF hg5) (ln (kY (by kernel_rfl) (jC (jI ⟨r1,hm,h⟩)))))
 obtain ⟨hg7,h⟩|⟨hg7,h⟩:=h.br
 refine qk 33 hg7 ?_
 obtain ⟨v7,hv10,h⟩:=h
 refine q4 33 hg7 (xl (isAgg32 _) hv10) (qk 33 hg7 (stq (v:=(vb (v7 != 0))) (wy 29 hg4) (xT hg7) (jB ⟨(v7 != 0),hm,h⟩)))
 refine sj3 33 hg7 (stq (v:=(vb false)) (wy 29 hg4) (xF hg7) (jB ⟨false,hm,h⟩))
 refine sj 20 hg3 (sm (sm (sm (sm (sm (sm (sm (sm (sj 20 hg3 (q2 (vb false) (xF hg3) (jB (jI (kY (by kernel_rfl) (jC (jI ⟨r1,hm,h⟩)))))))))))))))
 obtain ⟨hg8,h⟩|⟨hg8,h⟩:=h.br
 refine qk 24 hg8 ?_
 obtain ⟨v8,hv12,h⟩:=h
 refine q4 24 hg8 (xl (isAgg32 _) hv12) (qk 24 hg8 (stq (v:=(vb (v8 != 0))) (wy 20 hg2) (xT hg8) (jB ⟨(v8 != 0),hm,h⟩)))
 refine sj3 24 hg8 (stq (v:=(vb false)) (wy 20 hg2) (xF hg8) (jB ⟨false,hm,h⟩))
 refine sj4 20 hg2 (sm (sm (sm (sj2 20 hg2 (sm (sm (sm (sm (sm (sm (sm (sm (sj 20 hg2 (q2 (vb false) (xF hg2) (ln (kY (by kernel_rfl) (jC (jI ⟨r1,hm,h⟩))))))))))))))))))
def m_D2  (w:World) (K:(Array Value)→WP):Prop :=∀p1 w1,New w (.cells #[(vb false),(vb false),(vb false),(vb false),(vi 0),(vb false),(vb false),(vb false),(vb false),(vi 0),(vb false),(vb false),(vb false),(vb false),(vi 0),(vb false),(vb false),(vb false),(vb false),(vi 0),(vb false),(vb false),(vb false),(vb false),(vi 0),(vb false),(vb false),(vb false),(vb false),(vi 0),(vb false),(vb false),(vb false),(vb false),(vi 0),(vb false),(vb false),(vb false),(vb false),(vi 0),(vb false),(vb false),(vb false),(vb false),(vi 0),(vb false),(vb false),(vb false),(vb false),(vi 0)] 143) p1 w1→(∀j,j<50→zS w1 (p1.add j))∧∀w2,w2=storeRow w1 p1 (Al false false false false 0 true false false false 0 false false true false 0 false false false true 0 false false false false 2 false false false false 1 true false false false 0 true false false false 1 true true false false 1 true true false false 1)→∃q1:Array Value,(q1.size=50∧Row w2 p1 q1.toList)∧K q1 w2
theorem w_D2  (w:World) (K:(Array Value)→WP) (h:m_D2  w K) :
  Calls prog 86 #[] w (fun e w'=>∃r1:Array Value,e=.returned (.agg r1)∧K r1 w'):=by
 refine cw (args:=[]) func86 ntmps86 (eg (sn (O:=(.cells #[(vb false),(vb false),(vb false),(vb false),(vi 0),(vb false),(vb false),(vb false),(vb false),(vi 0),(vb false),(vb false),(vb false),(vb false),(vi 0),(vb false),(vb false),(vb false),(vb false),(vi 0),(vb false),(vb false),(vb false),(vb false),(vi 0),(vb false),(vb false),(vb false),(vb false),(vi 0),(vb false),(vb false),(vb false),(vb false),(vi 0),(vb false),(vb false),(vb false),(vb false),(vi 0),(vb false),(vb false),(vb false),(vb false),(vi 0),(vb false),(vb false),(vb false),(vb false),(vi 0)] 143)) (jX (zeroValue143 _) rfl) ?_))
 intro p1 w1 hn2
 have h:=h p1 w1 hn2
 refine ln (eg (qd (qd (qb (sro (sizeOf143 _) h fun w2 h=>ln (er ?_))))))
 obtain ⟨q1,hv1,h⟩:=h
 refine gg1 results86 (RV.cellAr (A:=p1) (vs:=q1) (by kernel_rfl) (isAgg143 _) (sizeOf143 _) hv1) ⟨q1,rfl,h⟩
def m_E2 (p1:Option Addr) (t1:Int) (w:World) (K:Int→WP):Prop :=Calls prog 28 #[(vp p1),(vi t1)] w (fun e w1=>∃r1,e=.returned (vb r1)∧Br (!r1) (K 0 w1) (∃a1,p1=some a1∧∃v1:Sl,w1.cell? a1=some v1.v∧∃a2:Addr,At v1 (q6.wrap (t1 - 1)) 9 a2∧∃v2,w1.cell? (a2.add 7)=some (vi v2)∧K v2 w1))
theorem w_E2 (p1 t1 w K) (h:m_E2 p1 t1 w K):
  Calls prog 87 #[(vp p1),(vi t1)] w (fun e w'=>∃r2,e=.returned (vi r2)∧K r2 w'):=by
 refine cw (args:=[(vp p1),(vi t1)]) func87 ntmps87 (eg (q0 (vi 0) (ln (jA (eg (q0 (vp p1) (q0 (vi t1) ?_)))))))
 refine sc call28 (h.mono fun e w1 ⟨r1,k,h⟩=>⟨_,k,?_⟩)
 refine q (ln (cbr h ?_ ?_))<;>intro h
 refine eg (q (ln (er (zI (rs1 results87 ⟨0,rfl,h⟩)))))
 refine jC (jI (eg (q (qm h fun a1 h=>q (ql (isAgg79 _) h fun v1 h=>qb (qi (runUnderlying79 _) (sizeOf78 _) h fun a2 h=>q (ql (isAgg3 _) h fun v2 h=>q (ln (er (rs1 results87 ⟨v2,rfl,h⟩))))))))))
def m_F2 (p1:Option Addr) (t1:Int) (w:World) (K:Int→WP):Prop :=Calls prog 28 #[(vp p1),(vi t1)] w (fun e w1=>∃r1,e=.returned (vb r1)∧Br (!r1) (K 0 w1) (∃a1,p1=some a1∧∃v1:Sl,w1.cell? a1=some v1.v∧∃a2:Addr,At v1 (q6.wrap (t1 - 1)) 9 a2∧∃v2,w1.cell? (a2.add 8)=some (vi v2)∧K v2 w1))
theorem w_F2 (p1 t1 w K) (h:m_F2 p1 t1 w K):
  Calls prog 88 #[(vp p1),(vi t1)] w (fun e w'=>∃r2,e=.returned (vi r2)∧K r2 w'):=by
 refine cw (args:=[(vp p1),(vi t1)]) func88 ntmps88 (eg (q0 (vi 0) (ln (jA (eg (q0 (vp p1) (q0 (vi t1) ?_)))))))
 refine sc call28 (h.mono fun e w1 ⟨r1,k,h⟩=>⟨_,k,?_⟩)
 refine q (ln (cbr h ?_ ?_))<;>intro h
 refine eg (q (ln (er (zI (rs1 results88 ⟨0,rfl,h⟩)))))
 refine jC (jI (eg (q (qm h fun a1 h=>q (ql (isAgg79 _) h fun v1 h=>qb (qi (runUnderlying79 _) (sizeOf78 _) h fun a2 h=>q (ql (isAgg3 _) h fun v2 h=>q (ln (er (rs1 results88 ⟨v2,rfl,h⟩))))))))))
end Go.Proofs
end
section
open Go Go.SE
namespace Go.Proofs
open Try
attribute [local irreducible] Calls
theorem jCF (n:Int) (w:World):Calls prog 77 #[.int .i64 n] w (fun e w'=>∃r,e=.returned (.bool r)∧(r=Sp.uN n∧w'=w)):=by
 refine w_C2 n w (fun r w'=>r=Sp.uN n∧w'=w) ?_;unfold m_C2;refine ⟨fun h=>⟨?_,rfl⟩,fun h=>⟨?_,rfl⟩⟩
 ·have:0≤n:=by simpa using h
  simp [Sp.uN,this]
 ·have:¬ 0≤n:=by simpa using h
  simp [Sp.uN,this]
theorem jCG (s1 s2 s3 s4:Bool) (s5 k f t u:Int) (x:ByteArray) (a b:Int) (w:World) :
  Calls prog 42 #[.agg #[.bool s1,.bool s2,.bool s3,.bool s4,.int .i64 s5],.agg #[.int .i64 k,.int .i64 f,.int .i64 t,.int .u64 u,.string x,.int .i64 a,.int .i64 b]] w
   (fun e w'=>∃r,e=.returned (.int .i64 r)∧(r=Sp.jV ⟨s1,s2,s3,s4,s5⟩ ⟨k,f,t,u,x,a,b⟩∧Pure w w')):=by
 refine w_Q _ _ _ _ _ _ _ _ _ _ _ _ w (fun r w'=>r=Sp.jV ⟨s1,s2,s3,s4,s5⟩ ⟨k,f,t,u,x,a,b⟩∧Pure w w') ?_
 unfold m_Q
 intro p1 w1 h1 p2 w2 h2
 have b1:=(Box.of_new h1).pure (Ext.new h2)
 have b2:=Box.of_new h2
 have E:Pure w w2:=(Ext.new h1).trans (Ext.new h2)
 have J:∀c:Bool,c=(s1 && !Sp.uN f)→m_Q_j1 p1 p2 c w2 (fun r w'=>r=Sp.jV ⟨s1,s2,s3,s4,s5⟩ ⟨k,f,t,u,x,a,b⟩∧Pure w w'):=by
  intro c hc;unfold m_Q_j1;refine ⟨fun h=>⟨?_,E⟩,fun h=>⟨_,b1.cell rfl,fun h'=>⟨_,b2.cell rfl,?_⟩,fun h'=>⟨_,b2.cell rfl,fun h3=>⟨?_,E⟩,fun h3=>⟨?_,E⟩⟩⟩⟩
  ·rw [hc] at h;simp [Sp.jV,h]
  ·refine (jCF _ _).mono ?_;rintro _ _ ⟨r,rfl,rfl,rfl⟩;rw [hc] at h;refine ⟨_,rfl,fun h2=>⟨?_,E⟩,fun h2=>⟨_,b2.cell rfl,_,b2.cell rfl,fun h3=>⟨?_,E⟩,fun h3=>⟨_,b2.cell rfl,fun h4=>⟨?_,E⟩,fun h4=>⟨?_,E⟩⟩⟩⟩
   ·simp [Sp.jV,h',h2]
   ·simp [Sp.jV,h',h3]
   ·simp only [Sp.jV,h,h',h3];simp at h2 h4;simp [h2];omega
   ·simp only [Sp.jV,h,h',h3];simp at h2 h4;simp [h2];omega
  ·rw [hc] at h;simp only [Sp.jV,h,h'];simp at h3;simp;omega
  ·rw [hc] at h;simp only [Sp.jV,h,h'];simp at h3;simp;omega
 refine ⟨_,b1.cell0,fun h=>⟨_,b2.cell rfl,?_⟩,fun h=>J _ (by simp [h])⟩
 refine (jCF _ _).mono ?_
 rintro _ _ ⟨r,rfl,rfl,rfl⟩
 exact ⟨_,rfl,J _ (by simp [h])⟩
def jAS:Array Value:=#[.bool false,.bool false,.bool false,.bool false,.int .i64 0,.bool true,.bool false,.bool false,.bool false,.int .i64 0,.bool false,.bool false,.bool true,.bool false,.int .i64 0,.bool false,.bool false,.bool false,.bool true,.int .i64 0,.bool false,.bool false,.bool false,.bool false,.int .i64 2,.bool false,.bool false,.bool false,.bool false,.int .i64 1,.bool true,.bool false,.bool false,.bool false,.int .i64 0,.bool true,.bool false,.bool false,.bool false,.int .i64 1,.bool true,.bool true,.bool false,.bool false,.int .i64 1,.bool true,.bool true,.bool false,.bool false,.int .i64 1]
theorem jGJ (w:World):Calls prog 86 #[] w (fun e w'=>∃r,e=.returned (.agg r)∧(r=jAS∧Pure w w')):=by
 refine w_D2 w (fun r w'=>r=jAS∧Pure w w') ?_;unfold m_D2;intro p1 w1 h1;have E1:Pure w w1:=Ext.new h1;have hp:=New.own (Ext.refl w) h1;have b1:=Box.of_newA h1;clear h1;refine bx 50 b1 (by kernel_rfl) (by kernel_rfl) (fun w' b E=>?_);refine ⟨jAS,⟨by kernel_rfl,b.row_eq (by kernel_rfl)⟩,rfl,E1.own hp E⟩
theorem jEW (k:Int) (w:World):Calls prog 76 #[.int .i64 k] w (fun e w'=>∃r1:Bool,∃r2:Bool,∃r3:Bool,∃r4:Bool,∃r5:Int,∃r:Bool,e=.returned (.tuple #[.agg #[.bool r1,.bool r2,.bool r3,.bool r4,.int .i64 r5],.bool r])∧(((⟨r1,r2,r3,r4,r5⟩:Sp.Shape)=Sp.shapeOf k∧r=Sp.isKind k)∧Pure w w')):=by
 refine w_B2 k w (fun r1 r2 r3 r4 r5 r w'=>((⟨r1,r2,r3,r4,r5⟩:Sp.Shape)=Sp.shapeOf k∧r=Sp.isKind k)∧Pure w w') ?_;unfold m_B2;intro p1 w1 h1;have E1:Pure w w1:=Ext.new h1;have b1:=Box.of_new h1;have hp:=New.own (Ext.refl w) h1;refine ⟨fun h=>bx 5 b1 rfl rfl (fun w' b E=>⟨_,_,_,_,_,b.row,⟨?_,?_⟩,E1.own hp E⟩),fun h=>⟨fun h2=>bx 5 b1 rfl rfl (fun w' b E=>⟨_,_,_,_,_,b.row,⟨?_,?_⟩,E1.own hp E⟩),fun h2=>?_⟩⟩
 ·have:k<1:=by simpa using h
  simp only [Sp.shapeOf,Sp.noShape];repeat rw [if_neg (by omega)]
 ·have:k<1:=by simpa using h
  simp [Sp.isKind];omega
 ·have:9<k:=by simpa using h2
  simp only [Sp.shapeOf,Sp.noShape];repeat rw [if_neg (by omega)]
 ·have:9<k:=by simpa using h2
  simp [Sp.isKind];omega
 ·have h3:¬ k<1:=by simpa using h
  have h4:¬ 9<k:=by simpa using h2
  refine (jGJ _).mono ?_;rintro _ w4 ⟨_,rfl,rfl,E4⟩;refine ⟨_,rfl,?_⟩;have b4:=b1.pure E4;have E5:Pure w w4:=E1.trans E4;have hk:k=1∨k=2∨k=3∨k=4∨k=5∨k=6∨k=7∨k=8∨k=9:=by omega
  rcases hk with rfl | rfl | rfl | rfl | rfl | rfl | rfl | rfl | rfl
  ·exact ⟨true,false,false,false,0,by kernel_rfl,bx 5 b4 rfl rfl (fun w' b E=>⟨_,_,_,_,_,b.row,⟨by decide,by decide⟩,E5.own hp E⟩)⟩
  ·exact ⟨false,false,true,false,0,by kernel_rfl,bx 5 b4 rfl rfl (fun w' b E=>⟨_,_,_,_,_,b.row,⟨by decide,by decide⟩,E5.own hp E⟩)⟩
  ·exact ⟨false,false,false,true,0,by kernel_rfl,bx 5 b4 rfl rfl (fun w' b E=>⟨_,_,_,_,_,b.row,⟨by decide,by decide⟩,E5.own hp E⟩)⟩
  ·exact ⟨false,false,false,false,2,by kernel_rfl,bx 5 b4 rfl rfl (fun w' b E=>⟨_,_,_,_,_,b.row,⟨by decide,by decide⟩,E5.own hp E⟩)⟩
  ·exact ⟨false,false,false,false,1,by kernel_rfl,bx 5 b4 rfl rfl (fun w' b E=>⟨_,_,_,_,_,b.row,⟨by decide,by decide⟩,E5.own hp E⟩)⟩
  ·exact ⟨true,false,false,false,0,by kernel_rfl,bx 5 b4 rfl rfl (fun w' b E=>⟨_,_,_,_,_,b.row,⟨by decide,by decide⟩,E5.own hp E⟩)⟩
  ·exact ⟨true,false,false,false,1,by kernel_rfl,bx 5 b4 rfl rfl (fun w' b E=>⟨_,_,_,_,_,b.row,⟨by decide,by decide⟩,E5.own hp E⟩)⟩
  ·exact ⟨true,true,false,false,1,by kernel_rfl,bx 5 b4 rfl rfl (fun w' b E=>⟨_,_,_,_,_,b.row,⟨by decide,by decide⟩,E5.own hp E⟩)⟩
  ·exact ⟨true,true,false,false,1,by kernel_rfl,bx 5 b4 rfl rfl (fun w' b E=>⟨_,_,_,_,_,b.row,⟨by decide,by decide⟩,E5.own hp E⟩)⟩
theorem jEX (k f t u:Int) (x:ByteArray) (a b:Int) (w:World) :
  Calls prog 41 #[.agg #[.int .i64 k,.int .i64 f,.int .i64 t,.int .u64 u,.string x,.int .i64 a,.int .i64 b]] w
   (fun e w'=>∃r1:Bool,∃r2:Bool,∃r3:Bool,∃r4:Bool,∃r5:Int,∃r:Int,e=.returned (.tuple #[.agg #[.bool r1,.bool r2,.bool r3,.bool r4,.int .i64 r5],.int .i64 r])∧(((⟨r1,r2,r3,r4,r5⟩:Sp.Shape)=Sp.shapeOf k∧r=Sp.jW ⟨k,f,t,u,x,a,b⟩)∧Pure w w')):=by
 suffices key:∀K:Bool→Bool→Bool→Bool→Int→Int→WP,(∀r1 r2 r3 r4 r5 r w',((⟨r1,r2,r3,r4,r5⟩:Sp.Shape)=Sp.shapeOf k∧r=Sp.jW ⟨k,f,t,u,x,a,b⟩)∧Pure w w'→K r1 r2 r3 r4 r5 r w')→m_D k f t u x a b w K from
  w_D _ _ _ _ _ _ _ w _ (key _ (fun _ _ _ _ _ _ _ h=>h))
 intro K hK
 unfold m_D
 intro p1 w1 h1 p2 w2 h2
 have a1:=(Box.of_new h1).pure (Ext.new h2)
 have a2:=Box.of_new h2
 have E2:Pure w w2:=(Ext.new h1).trans (Ext.new h2)
 have o2:=New.own (Ext.new h1:Pure w w1) h2
 have n12:p1.block≠p2.block:=New.ne h2 (Box.of_new h1).blk
 refine ⟨_,a1.cell0,?_⟩
 refine (jEW _ _).mono ?_
 rintro _ w3 ⟨s1,s2,s3,s4,s5,ok,rfl,⟨hs,hok⟩,E3⟩
 refine ⟨_,_,_,_,_,_,rfl,?_⟩
 intro p3 w4 h3
 have E4:Pure w w4:=(E2.trans E3).trans (Ext.new h3)
 have o3:=New.own (E2.trans E3) h3
 have n13:p1.block≠p3.block:=New.ne h3 (a1.pure E3).blk
 have n23:p2.block≠p3.block:=New.ne h3 (a2.pure E3).blk
 refine bx 5 (Box.of_new h3) rfl rfl (fun w5 b3 E=>?_)
 have b1:=((a1.pure E3).pure (Ext.new h3)).ext E n13
 have b2:=((a2.pure E3).pure (Ext.new h3)).ext E n23
 have E5:=E4.own o3 E
 clear E E4 E3 E2 a1 a2 h1 h2 h3
 have fin : ∀ v : Int, v = Sp.jW ⟨k, f, t, u, x, a, b⟩ → (∀ j, j < 5 → zS w5 (p2.add j)) ∧ ∀ w', w' = storeRow w5 p2 [.bool s1, .bool s2, .bool s3, .bool s4, .int .i64 s5] →
   ∃q1:Bool,∃q2:Bool,∃q3:Bool,∃q4:Bool,∃q5:Int,Row w' p2 [.bool q1,.bool q2,.bool q3,.bool q4,.int .i64 q5]∧K q1 q2 q3 q4 q5 v w':=fun v hv =>
  bx 5 b2 rfl rfl (fun w' b E=>⟨_,_,_,_,_,b.row,hK _ _ _ _ _ _ _ ⟨⟨hs,hv⟩,E5.own o2 E⟩⟩)
 obtain ⟨e1,e2,e3,e4,e5⟩:s1=(Sp.shapeOf k).frm∧s2=(Sp.shapeOf k).to∧s3=(Sp.shapeOf k).num∧s4=(Sp.shapeOf k).text∧s5=(Sp.shapeOf k).kids:=by rw [← hs];simp
 have J3:∀c:Bool,c=(!ok || (!s1 && f != 0) || (!s2 && t != 0) || (!s3 && u != 0))→m_D_j3 p1 p2 p3 c w5 K:=by
  intro c hc;unfold m_D_j3;refine ⟨fun h=>⟨_,_,_,_,_,b3.row,fin _ ?_⟩,fun h=>⟨_,b3.cell rfl,fun h4=>⟨_,b1.cell rfl,fun h5=>⟨_,_,_,_,_,b3.row,fin _ ?_⟩,fun h5=>⟨_,_,_,_,_,b3.row,fin _ ?_⟩⟩,fun h4=>⟨_,_,_,_,_,b3.row,fin _ ?_⟩⟩⟩
  ·rw [h] at hc;simp only [Sp.jW,← e1,← e2,← e3,← e4,← hok,← hc];simp
  ·rw [h] at hc;simp only [Sp.jW,← e1,← e2,← e3,← e4,← hok,← hc];simp at h4 h5;simp [h4,h5]
  ·rw [h] at hc;simp only [Sp.jW,← e1,← e2,← e3,← e4,← hok,← hc];simp at h4 h5;simp [h4,h5]
  ·rw [h] at hc;simp only [Sp.jW,← e1,← e2,← e3,← e4,← hok,← hc];simp at h4;simp [h4]
 have J2:∀c:Bool,c=(!ok || (!s1 && f != 0) || (!s2 && t != 0))→m_D_j2 p1 p2 p3 c w5 K:=by
  intro c hc;have J4:∀d:Bool,d=(!s3 && u != 0)→m_D_j4 p1 p2 p3 c d w5 K:=fun d hd=>⟨fun h=>J3 _ (by rw [← hc,h];rfl),fun h=>J3 _ (by rw [← hc,h];simpa using hd)⟩;exact ⟨fun h=>J3 _ (by rw [← hc,h];rfl),fun h=>⟨_,b3.cell rfl,fun h4=>⟨_,b1.cell rfl,J4 _ (by rw [h4];rfl)⟩,fun h4=>J4 _ (by rw [h4];rfl)⟩⟩
 have J1:∀c:Bool,c=(!ok || (!s1 && f != 0))→m_D_j1 p1 p2 p3 c w5 K:=by
  intro c hc;have J5:∀d:Bool,d=(!s2 && t != 0)→m_D_j5 p1 p2 p3 c d w5 K:=fun d hd=>⟨fun h=>J2 _ (by rw [← hc,h];rfl),fun h=>J2 _ (by rw [← hc,h];simpa using hd)⟩;exact ⟨fun h=>J2 _ (by rw [← hc,h];rfl),fun h=>⟨_,b3.cell rfl,fun h4=>⟨_,b1.cell rfl,J5 _ (by rw [h4];rfl)⟩,fun h4=>J5 _ (by rw [h4];rfl)⟩⟩
 have J6:∀d:Bool,d=(!s1 && f != 0)→m_D_j6 p1 p2 ok p3 d w5 K:=fun d hd=>⟨fun h=>J1 _ (by rw [h];rfl),fun h=>J1 _ (by rw [h];simpa using hd)⟩
 exact ⟨fun h=>J1 _ (by rw [h];rfl),fun h=>⟨_,b3.cell0,fun h4=>⟨_,b1.cell rfl,J6 _ (by rw [h4];rfl)⟩,fun h4=>J6 _ (by rw [h4];rfl)⟩⟩
def yV (n:Sp.Node):List Value:=[.int .i64 n.kind,.int .i64 n.frm,.int .i64 n.to,.int .u64 n.num,.string n.text,.int .i64 n.a,.int .i64 n.b]
def jDH (e:Sp.Ent):List Value:=yV e.node++[.int .i64 e.size,.int .i64 e.depth]
def gO (n:Sp.Node):Value:=.agg (yV n).toArray
def vV (L:Sp.Pool):List (Value×Value):=L.zipIdx.map fun p=>(gO p.1.node,.int .i64 (p.2+1:Nat))
structure PoolS (w:World) (p:Addr) (L:Sp.Pool) (s:Sl) (m:Nat):Prop where
 box:Box w p [s.v,.map (some m)] 82
 rows:Rws w 78 9 s (L.map jDH)
 map:CMap w m (vV L)
 n1:m≠p.block
 n2:¬ s.blk p.block
 n3:¬ s.blk m
def jL (w:World) (p:Addr) (L:Sp.Pool) (F:NP):Prop:=∃s m,PoolS w p L s m∧∀b,F b↔(b=p.block∨s.blk b∨b=m)
theorem jL.ext {G:NP} {w w':World} {p:Addr} {L:Sp.Pool} {F:NP} (h:jL w p L F) (hE:Ext G w w') (hd:∀b,F b→¬ G b):jL w' p L F:=by
 obtain ⟨s,m,h,hF⟩:=h;exact ⟨s,m,⟨h.box.ext hE (hd _ ((hF _).2 (.inl rfl))),h.rows.ext hE (fun b hb=>hd _ ((hF _).2 (.inr (.inl hb)))),h.map.ext hE (hd _ ((hF _).2 (.inr (.inr rfl)))),h.n1,h.n2,h.n3⟩,hF⟩
theorem jL.pure {w w':World} {p:Addr} {L:Sp.Pool} {F:NP} (h:jL w p L F) (hE:Pure w w'):jL w' p L F:=h.ext hE (fun _ _ h=>h)
theorem jL.lt {w:World} {p:Addr} {L:Sp.Pool} {F:NP} (h:jL w p L F) {b:Nat} (hb:F b):b<w.heap.size:=by
 obtain ⟨s,m,h,hF⟩:=h;rcases (hF b).1 hb with rfl | hb | rfl
 ·exact h.box.lt
 ·exact h.rows.lt hb
 ·exact h.map.lt
theorem i64 {n:Int} (h:-9223372036854775808≤n) (h':n≤9223372036854775807):IntKind.i64.wrap n=n:=IntWalk.i64_in n ⟨h,h'⟩
theorem c_in (p:Addr) (t:Int) (w:World) {L:Sp.Pool} {F:NP} (hP:jL w p L F):Calls prog 28 #[.pointer (some p),.int .i64 t] w (fun e w'=>∃r,e=.returned (.bool r)∧(r=Sp.inP L t∧w=w')):=by
 obtain ⟨s,m,h,_⟩:=hP;refine w_U (some p) t w (fun r w'=>r=Sp.inP L t∧w=w') ?_;unfold m_U;have hl:(s.len:Int)=L.length:=by rw [h.rows.len];simp
 refine Br.t rfl ⟨fun h1=>⟨p,rfl,s,h.box.cell0,?_,rfl⟩,fun h1=>⟨?_,rfl⟩⟩
 ·have:1≤t:=by simpa using h1
  simp [Sp.inP,hl,this]
 ·have:¬ 1≤t:=by simpa using h1
  simp [Sp.inP,this]
theorem PoolS.at {w:World} {p:Addr} {L:Sp.Pool} {s:Sl} {m:Nat} (h:PoolS w p L s m) {t:Int} (ht:Sp.inP L t=true) (hok:Sp.Ok L):∃a e,At s (IntKind.i64.wrap (t - 1)) 9 a∧Row w a (jDH e)∧s.blk a.block∧Sp.get L t=some e:=by
 obtain ⟨h1,h2⟩:=Sp.kG.1 ht;obtain ⟨e,hg,_,hi,he⟩:=Sp.uU ht;have:=hok.few;rw [i64 (by omega) (by omega)];obtain ⟨a,hat,hr,hb⟩:=h.rows.at (i:=t - 1) (by omega) (by simpa using hi);exact ⟨a,e,hat,(by rw [List.getElem_map,he] at hr;exact hr),hb,hg⟩
theorem c_Size (p:Addr) (t:Int) (w:World) {L:Sp.Pool} {F:NP} (hP:jL w p L F) (hok:Sp.Ok L):Calls prog 87 #[.pointer (some p),.int .i64 t] w (fun e w'=>∃r,e=.returned (.int .i64 r)∧(r=Sp.sizeOf L t∧w=w')):=by
 refine w_E2 (some p) t w (fun r w'=>r=Sp.sizeOf L t∧w=w') ?_;unfold m_E2;refine (c_in p t w hP).mono ?_;rintro _ _ ⟨_,rfl,rfl,rfl⟩;obtain ⟨s,m,h,_⟩:=hP;refine ⟨_,rfl,fun h1=>⟨?_,rfl⟩,fun h1=>?_⟩
 ·simp [Sp.sizeOf,Sp.vI (show Sp.inP L t=false by simpa using h1)]
 ·obtain ⟨a,e,hat,hr,_,hg⟩:=h.at (show Sp.inP L t=true by simpa using h1) hok;exact ⟨p,rfl,s,h.box.cell0,a,hat,e.size,hr 7 (by simp [jDH,yV]),by simp [Sp.sizeOf,hg],rfl⟩
theorem jIJ (p:Addr) (t:Int) (w:World) {L:Sp.Pool} {F:NP} (hP:jL w p L F) (hok:Sp.Ok L):Calls prog 88 #[.pointer (some p),.int .i64 t] w (fun e w'=>∃r,e=.returned (.int .i64 r)∧(r=Sp.depthOf L t∧w=w')):=by
 refine w_F2 (some p) t w (fun r w'=>r=Sp.depthOf L t∧w=w') ?_;unfold m_F2;refine (c_in p t w hP).mono ?_;rintro _ _ ⟨_,rfl,rfl,rfl⟩;obtain ⟨s,m,h,_⟩:=hP;refine ⟨_,rfl,fun h1=>⟨?_,rfl⟩,fun h1=>?_⟩
 ·simp [Sp.depthOf,Sp.vI (show Sp.inP L t=false by simpa using h1)]
 ·obtain ⟨a,e,hat,hr,_,hg⟩:=h.at (show Sp.inP L t=true by simpa using h1) hok;exact ⟨p,rfl,s,h.box.cell0,a,hat,e.depth,hr 8 (by simp [jDH,yV]),by simp [Sp.depthOf,hg],rfl⟩
theorem jAL (p:Addr) (t:Int) (w:World) {L:Sp.Pool} {F:NP} (hP:jL w p L F) (hok:Sp.Ok L):Calls prog 14 #[.pointer (some p),.int .i64 t] w
  (fun e w'=>∃k:Int,∃f:Int,∃t':Int,∃u:Int,∃x:ByteArray,∃a:Int,∃b:Int,∃r:Bool,e=.returned (.tuple #[.agg #[.int .i64 k,.int .i64 f,.int .i64 t',.int .u64 u,.string x,.int .i64 a,.int .i64 b],.bool r])∧(((⟨k,f,t',u,x,a,b⟩:Sp.Node)=Sp.jD L t∧r=Sp.inP L t)∧Pure w w')):=by
 refine w_Q1 (some p) t w (fun k f t' u x a b r w'=>((⟨k,f,t',u,x,a,b⟩:Sp.Node)=Sp.jD L t∧r=Sp.inP L t)∧Pure w w') ?_
 unfold m_Q1
 intro p1 w1 h1
 have E1:Pure w w1:=Ext.new h1
 have b1:=Box.of_new h1
 have hp:=New.own (Ext.refl w) h1
 refine (c_in p t w1 (hP.pure E1)).mono ?_
 rintro _ _ ⟨_,rfl,rfl,rfl⟩
 obtain ⟨s,m,h,_⟩:=hP.pure E1
 refine ⟨_,rfl,fun h1=>bx 7 b1 rfl rfl (fun w' b E=>⟨_,_,_,_,_,_,_,b.row,⟨?_,?_⟩,E1.own hp E⟩),fun h1=>?_⟩
 ·simp [Sp.jD,Sp.vI (show Sp.inP L t=false by simpa using h1),Sp.qW]
 ·symm;simpa using h1
 ·have ht:Sp.inP L t=true:=by simpa using h1
  obtain ⟨a,e,hat,hr,_,hg⟩:=h.at ht hok
  have hn:Row w1 a (yV e.node):=fun i hi=>by
   have:=hr i (by simp [jDH];omega);rw [this];unfold jDH;rw [List.getElem?_append_left hi]
  exact ⟨p,rfl,s,h.box.cell0,a,hat,_,_,_,_,_,_,_,hn,bx 7 b1 rfl rfl (fun w' b E=>⟨_,_,_,_,_,_,_,b.row,⟨by simp [Sp.jD,hg],ht.symm⟩,E1.own hp E⟩)⟩
theorem jFK (p:Addr) (k:Int) (w:World) (hk:k=0∨k=1∨k=2):(Instr.sliceAt 39 (Sl.mk (some p) 2 2).v .none (some (.int .i64 k)) .none).run prog w=.ok (Sl.mk (some p) k.toNat 2).v w:=by
 rcases hk with rfl | rfl | rfl <;> kernel_rfl
theorem jII (p:Addr) (k f t u:Int) (x:ByteArray) (a b:Int) (w:World) {L:Sp.Pool} {F:NP} (hP:jL w p L F) (hok:Sp.Ok L) :
  Calls prog 78 #[.pointer (some p),.agg #[.int .i64 k,.int .i64 f,.int .i64 t,.int .u64 u,.string x,.int .i64 a,.int .i64 b]] w
   (fun e w'=>∃r1:Int,∃r2:Int,∃r3:Int,e=.returned (.tuple #[.int .i64 r1,.int .i64 r2,.int .i64 r3])∧((r1,r2,r3)=Sp.check L ⟨k,f,t,u,x,a,b⟩∧Pure w w')):=by
 suffices key:∀K:Int→Int→Int→WP,(∀r1 r2 r3 w',(r1,r2,r3)=Sp.check L ⟨k,f,t,u,x,a,b⟩∧Pure w w'→K r1 r2 r3 w')→m_E (some p) k f t u x a b w K from
  w_E _ _ _ _ _ _ _ _ w _ (key _ (fun _ _ _ _ h=>h))
 intro K hK
 unfold m_E
 intro p2 w1 h1
 have b1:=Box.of_new h1
 have E1:Pure w w1:=Ext.new h1
 refine ⟨_,_,_,_,_,_,_,b1.row,?_⟩
 refine (jEX _ _ _ _ _ _ _ _).mono ?_
 rintro _ w2 ⟨s1,s2,s3,s4,s5,pe,rfl,⟨hs,hpe⟩,E2⟩
 refine ⟨_,_,_,_,_,_,rfl,?_⟩
 intro p3 w3 h3
 have b2:=(b1.pure E2).pure (Ext.new h3)
 have n23:p2.block≠p3.block:=New.ne h3 (b1.pure E2).blk
 have E3:Pure w w3:=(E1.trans E2).trans (Ext.new h3)
 have o3:=New.own (E1.trans E2) h3
 refine bx 5 (Box.of_new h3) rfl rfl (fun w4 b3 E=>?_)
 have b2:=b2.ext E n23
 have E4:Pure w w4:=E3.own o3 E
 clear E E3 E2 E1 b1 h1 h3
 have hsh:Sp.shapeOf k=⟨s1,s2,s3,s4,s5⟩:=hs.symm
 have hk5:s5=0∨s5=1∨s5=2:=by have:=Sp.gR k;rw [hsh] at this;exact this
 generalize hn:(⟨k,f,t,u,x,a,b⟩:Sp.Node)=n at *
 have hnk:n.kind=k:=by rw [← hn]
 have hna:n.a=a:=by rw [← hn]
 have hnb:n.b=b:=by rw [← hn]
 have J2:∀e2 w',Pure w4 w'→(e2≠0→Sp.check L n=(0,0,e2))→(e2=0→pe=0∧((decide (s5<1) && a != 0) || (decide (s5<2) && b != 0))=false∧Sp.jV ⟨s1,s2,s3,s4,s5⟩ n=0)→m_E_j2 (some p) p2 p3 e2 w' K:=by
  intro e2 w' E' hne heq;have b2:=b2.pure E';have b3:=b3.pure E';have E5:=E4.trans E';have hP':=hP.pure E5;unfold m_E_j2;refine ⟨fun h=>hK _ _ _ _ ⟨(hne (by simpa using h)).symm,E5⟩,fun h=>⟨_,b2.cell rfl,_,b2.cell rfl,?_⟩⟩;intro p4 w5 h5;obtain ⟨hp0,hc0,hf0⟩:=heq (by simpa using h);have b4:=Box.of_new h5;have E6:=E5.trans (Ext.new h5);have hP6:=hP.pure E6;refine ⟨_,(b3.pure (Ext.new h5)).cell rfl,_,jFK p4 s5 w5 hk5,?_⟩;have hks:Sp.jR n=[a,b].take s5.toNat:=by simp [Sp.jR,hnk,hsh,hna,hnb]
  have hlen:(Sp.jR n).length=s5.toNat:=by rw [hks];rcases hk5 with rfl | rfl | rfl <;> rfl
  have hget:∀j (hj:j<(Sp.jR n).length),w5.cell? (p4.add (j*1))=some (.int .i64 (Sp.jR n)[j]):=by
   intro j hj;have hj2:j<s5.toNat:=by omega
   have:(Sp.jR n)[j]=[a,b][j]'(by simp;omega):=by simp only [hks,List.getElem_take]
   rw [this,Nat.mul_one];refine b4.cell ?_;have h2:j=0∨j=1:=by omega
   rcases h2 with rfl | rfl <;> rfl
  have hrest:Sp.check L n=if (Sp.jR n).any (fun t=>!Sp.inP L t) then (0,0,51) else if 1+((Sp.jR n).map (Sp.sizeOf L)).sum>4096∨(Sp.jR n).foldl (fun d t=>max d (Sp.depthOf L t)) 0+1>64 then (0,0,52) else (1+((Sp.jR n).map (Sp.sizeOf L)).sum,(Sp.jR n).foldl (fun d t=>max d (Sp.depthOf L t)) 0+1,0):=by
   unfold Sp.check;simp only [hnk,hsh,hna,hnb,← hpe,hp0,hc0,hf0];simp
  generalize hkk:Sp.jR n=ks at *;have hl2:ks.length≤2:=by omega
  have hsum:∀j,0≤((ks.take j).map (Sp.sizeOf L)).sum∧((ks.take j).map (Sp.sizeOf L)).sum≤4096*(ks.take j).length:=by
   intro j;generalize ks.take j=l;induction l with
   | nil=>simp
   | cons y l ih=>have:=hok.sizeOf y;simp only [List.map_cons,List.sum_cons,List.length_cons];omega
  have hdep:∀(l:List Int) (d:Int),0≤d→d≤64→0≤l.foldl (fun d t=>max d (Sp.depthOf L t)) d∧l.foldl (fun d t=>max d (Sp.depthOf L t)) d≤64:=by
   intro l;induction l with
   | nil=>intro d h1 h2;exact ⟨h1,h2⟩
   | cons y l ih=>intro d h1 h2;have:=hok.depthOf y;exact ih (max d (Sp.depthOf L y)) (by omega) (by omega)
  refine ⟨fun sz d x w'=>∃j:Nat,x=j∧j≤ks.length∧sz=1+((ks.take j).map (Sp.sizeOf L)).sum∧d=(ks.take j).foldl (fun d t=>max d (Sp.depthOf L t)) 0∧(ks.take j).any (fun t=>!Sp.inP L t)=false∧w5=w',fun _ _ x _=>(2 - x).toNat,⟨0,rfl,Nat.zero_le _,by simp,by simp,by simp,rfl⟩,?_⟩;rintro sz d _ _ ⟨j,rfl,hj,rfl,rfl,hin,rfl⟩;unfold m_E_l3;have hs1:=hsum j;have hd1:=hdep (ks.take j) 0 (by omega) (by omega);have htl:(ks.take j).length≤2:=by rw [List.length_take];omega
  refine ⟨fun h=>?_,fun h=>?_⟩
  ·have hlt:j<ks.length:=by have h:=of_decide_eq_true h;simp only at h;omega
   refine ⟨p4.add (j*1),⟨by omega,of_decide_eq_true h,p4,rfl,by simp⟩,ks[j],hget j hlt,?_⟩;have htk:ks.take (j+1)=ks.take j++[ks[j]]:=List.take_succ_eq_append_getElem hlt;refine (c_in p _ w5 hP6).mono ?_;rintro _ _ ⟨_,rfl,rfl,rfl⟩;refine ⟨_,rfl,fun h=>?_,fun h=>?_⟩
   ·refine hK _ _ _ _ ⟨?_,E6⟩;rw [hrest,if_pos];exact List.any_eq_true.2 ⟨ks[j],List.getElem_mem hlt,h⟩
   ·refine (c_Size p _ w5 hP6 hok).mono ?_;rintro _ _ ⟨_,rfl,rfl,rfl⟩;refine ⟨_,rfl,?_⟩;refine (jIJ p _ w5 hP6 hok).mono ?_;rintro _ _ ⟨_,rfl,rfl,rfl⟩;refine ⟨_,rfl,_,run_max_int2 _ _ _ _ _ _ _,⟨j+1,?_,hlt,?_,?_,?_,rfl⟩,?_⟩
    ·rw [i64 (by omega) (by omega)];omega
    ·have:=hok.sizeOf ks[j];rw [i64 (by omega) (by omega),htk,List.map_append,List.sum_append];simp only [List.map_cons,List.map_nil,List.sum_cons,List.sum_nil];omega
    ·rw [htk,List.foldl_append];simp only [List.foldl_cons,List.foldl_nil];split <;> omega
    ·rw [htk,List.any_append,hin];simpa using h
    ·show (2 - IntKind.i64.wrap ((j:Int)+1)).toNat<(2 - (j:Int)).toNat;rw [i64 (by omega) (by omega)];omega
  ·have hge:j=ks.length:=by have h:=of_decide_eq_false h;simp only at h;omega
   subst hge;rw [List.take_length] at hs1 hd1 hin ⊢;have hlt:(ks.length:Int)≤2:=by omega
   refine ⟨fun h=>hK _ _ _ _ ⟨?_,E6⟩,fun h=>?_⟩
   ·rw [hrest,hin,if_neg (by simp),if_pos (.inl (by simpa using h))]
   ·rw [i64 (by omega) (by omega)];refine ⟨fun h'=>hK _ _ _ _ ⟨?_,E6⟩,fun h'=>hK _ _ _ _ ⟨?_,E6⟩⟩
    ·rw [hrest,hin,if_neg (by simp),if_pos (.inr (by simpa using h'))]
    ·rw [hrest,hin,if_neg (by simp),if_neg (by simp at h h';omega)]
 have J1:∀e1,(e1≠0→Sp.check L n=(0,0,e1))→(e1=0→pe=0∧((decide (s5<1) && a != 0) || (decide (s5<2) && b != 0))=false)→m_E_j1 (some p) p2 p3 e1 w4 K:=by
  intro e1 hne heq;unfold m_E_j1;refine ⟨fun h=>⟨_,_,_,_,_,b3.row,_,_,_,_,_,_,_,b2.row,?_⟩,fun h=>J2 _ _ (Ext.refl _) hne (fun e=>by rw [e] at h;cases h)⟩;obtain ⟨hp0,hc0⟩:=heq (by simpa using h);refine (jCG _ _ _ _ _ _ _ _ _ _ _ _ _).mono ?_;rintro _ w9 ⟨_,rfl,rfl,E9⟩;rw [hn];refine ⟨_,rfl,J2 _ _ E9 (fun hf=>?_) (fun hf=>⟨hp0,hc0,hf⟩)⟩;unfold Sp.check;simp only [hnk,hsh,hna,hnb,← hpe,hp0,hc0];simp [hf]
 have J53:pe=0→((decide (s5<1) && a != 0) || (decide (s5<2) && b != 0))=true→m_E_j1 (some p) p2 p3 53 w4 K:=fun hp0 hc=>J1 53 (fun _=>by
  unfold Sp.check;simp only [hnk,hsh,hna,hnb,← hpe,hp0,hc];simp) (fun e=>by cases e)
 have Jpe:pe≠0→m_E_j1 (some p) p2 p3 pe w4 K:=fun hp=>J1 pe (fun _=>by
  unfold Sp.check;simp only [← hpe];rw [if_pos hp]) (fun e=>absurd e hp)
 have J5:∀x2 x3,x2=(decide (s5<1) && a != 0)→x3=(decide (s5<2) && b != 0)→m_E_j5 (some p) p2 pe p3 x2 x3 w4 K:=by
  intro x2 x3 h2 h3;unfold m_E_j5;refine ⟨fun h=>⟨fun hx=>J53 (by simpa using h) (by rw [← h2,hx];rfl),fun hx=>⟨fun hy=>J53 (by simpa using h) (by rw [← h2,← h3,hy];simp),fun hy=>J1 pe (fun e=>absurd (by simpa using h) e) (fun e=>⟨e,by rw [← h2,← h3,hx,hy];rfl⟩)⟩⟩,fun h=>Jpe (by simpa using h)⟩
 have J4:∀x2,x2=(decide (s5<1) && a != 0)→m_E_j4 (some p) p2 pe p3 x2 w4 K:=by
  intro x2 h2;unfold m_E_j4;refine ⟨fun h=>⟨fun hx=>J53 (by simpa using h) (by rw [← h2,hx];rfl),fun hx=>⟨_,b3.cell rfl,fun h5=>⟨_,b2.cell rfl,J5 _ _ h2 (by rw [h5];rfl)⟩,fun h5=>J5 _ _ h2 (by rw [h5];rfl)⟩⟩,fun h=>Jpe (by simpa using h)⟩
 exact ⟨fun h=>⟨_,b3.cell rfl,fun h5=>⟨_,b2.cell rfl,J4 _ (by rw [h5];rfl)⟩,fun h5=>J4 _ (by rw [h5];rfl)⟩,fun h=>Jpe (by simpa using h)⟩
def jAN (v:Value):Prop:=∃n,v=gO n
theorem oM {n n':Sp.Node}:gO n=gO n'↔n=n':=by
 constructor
 ·intro h;cases n;cases n';simp [gO,yV] at h;simp [h]
 ·rintro rfl;rfl
theorem oD (n:Sp.Node):Instr.sameBits 10000 (gO n) (gO n)=true:=by
 have h:∀d,Instr.sameBits (d+1) (gO n) (gO n)=true:=fun d=>by
  have e:(n.text == n.text)=true:=by rw [beq_toListBytes];simp
  cases d <;> simp [Instr.sameBits,gO,yV,e]
 exact h 9999
theorem uH:KeyOK prog 51 jAN:=by
 refine KeyOK.of_struct underlying51 ?_ ?_ ?_
 ·rintro _ ⟨n,rfl⟩ em w;kernel_rfl
 ·rintro _ _ w ⟨n,rfl⟩ ⟨n',rfl⟩;refine ⟨decide (n=n'),?_,by simp only [oM,decide_eq_true_eq];exact eq_comm⟩;obtain ⟨k,f,t,u,x,a,b⟩:=n;obtain ⟨k',f',t',u',x',a',b'⟩:=n';simp [Op.equal,Op.maxDepth,go_sem,jDT,gO,yV]
  repeat' split
  all_goals simp_all
 ·rintro _ ⟨n,rfl⟩;exact oD n
theorem gD:SlType prog 79 78 9 (16*5):=by
 refine ⟨underlying79,⟨t78,_,by kernel_rfl,(by kernel_rfl:t78.zero=some (.agg #[.int .i64 0,.int .i64 0,.int .i64 0,.int .u64 0,.string ⟨#[]⟩,.int .i64 0,.int .i64 0,.int .i64 0,.int .i64 0])),by kernel_rfl,by kernel_rfl,rfl⟩,by omega⟩
theorem jFO {L:Sp.Pool} {i:Nat} {n:Sp.Node} {v:Value} (h:(vV L)[i]?=some (gO n,v)):∃e,L[i]?=some e∧e.node=n∧v=.int .i64 (i+1:Nat):=by
 simp only [vV,List.getElem?_map,List.getElem?_zipIdx,Option.map_map,Option.map_eq_some_iff] at h;obtain ⟨e,he,h⟩:=h;simp only [Function.comp,Prod.mk.injEq] at h;exact ⟨e,he,oM.1 h.1,by rw [← h.2];simp⟩
theorem jFN {L:Sp.Pool} {n:Sp.Node} (h:∀q∈vV L,q.1≠gO n):∀e∈L,e.node≠n:=by
 intro e he hn;obtain ⟨i,hi,rfl⟩:=List.mem_iff_getElem.1 he;refine h (gO L[i].node,.int .i64 (i+1:Nat)) ?_ (by rw [hn]);exact List.mem_map.2 ⟨(L[i],i),by rw [List.mem_zipIdx_iff_getElem?];simp [hi],rfl⟩
theorem gK {L:Sp.Pool}:∀q∈vV L,jAN q.1:=by
 intro q hq;obtain ⟨x,_,rfl⟩:=List.mem_map.1 hq;exact ⟨_,rfl⟩
theorem jED (L:Sp.Pool) (e:Sp.Ent):vV (L++[e])=vV L++[(gO e.node,.int .i64 (L.length+1:Nat))]:=by
 simp [vV,List.zipIdx_append]
theorem jEQ {L:Sp.Pool} (hok:Sp.Ok L) {i:Nat} {e:Sp.Ent} (h:L[i]?=some e):Sp.find L e.node=some i:=by
 obtain ⟨hi,rfl⟩:=List.getElem?_eq_some_iff.1 h;unfold Sp.find;rw [List.findIdx?_eq_some_iff_getElem];refine ⟨hi,by simp,fun j hj=>?_⟩;have hnd:=hok.nodup;simp only [decide_eq_true_eq];intro e;exact List.pairwise_iff_getElem.1 hnd j i (by simp;omega) (by simpa using hi) hj (by simpa using e)
theorem tZ {L:Sp.Pool} {n:Sp.Node} (h:∀e∈L,e.node≠n):Sp.find L n=none:=by
 unfold Sp.find;rw [List.findIdx?_eq_none_iff];intro e he;simpa using h e he
theorem yT (p:Addr) (k f t u:Int) (x:ByteArray) (a b:Int) (w:World) {L:Sp.Pool} {F:NP} (hP:jL w p L F) (hok:Sp.Ok L) :
  Calls prog 43 #[.pointer (some p),.agg #[.int .i64 k,.int .i64 f,.int .i64 t,.int .u64 u,.string x,.int .i64 a,.int .i64 b]] w
   (fun e w'=>∃r1:Int,∃r2:Int,e=.returned (.tuple #[.int .i64 r1,.int .i64 r2])∧((r1,r2)=((Sp.make L ⟨k,f,t,u,x,a,b⟩).1,(Sp.make L ⟨k,f,t,u,x,a,b⟩).2.1)∧∃F',jL w' p (Sp.make L ⟨k,f,t,u,x,a,b⟩).2.2 F'∧Ext F w w'∧∀b,F' b→F b∨w.heap.size≤b)):=by
 suffices key:∀K:Int→Int→WP,(∀r1 r2 w',((r1,r2)=((Sp.make L ⟨k,f,t,u,x,a,b⟩).1,(Sp.make L ⟨k,f,t,u,x,a,b⟩).2.1)∧∃F',jL w' p (Sp.make L ⟨k,f,t,u,x,a,b⟩).2.2 F'∧Ext F w w'∧∀b,F' b→F b∨w.heap.size≤b)→K r1 r2 w')→m_K1 (some p) k f t u x a b w K from
  w_K1 _ _ _ _ _ _ _ _ w _ (key _ (fun _ _ _ h=>h))
 intro K hK
 unfold m_K1
 intro p2 w1 h1
 have b1:=Box.of_new h1
 have E1:Pure w w1:=Ext.new h1
 have o2:¬ F p2.block:=fun h=>by have:=hP.lt h;have:=h1.at_size;omega
 refine Br.f rfl ⟨_,_,_,_,_,_,_,b1.row,?_⟩
 refine (jII p k f t u x a b w1 (hP.pure E1) hok).mono ?_
 rintro _ w2 ⟨sz,dp,er,rfl,hck,E2⟩
 refine ⟨_,_,_,rfl,?_⟩
 generalize hn:(⟨k,f,t,u,x,a,b⟩:Sp.Node)=n at *
 have E3:Pure w w2:=E1.trans E2
 have jCS:∀w',Pure w w'→∃F',jL w' p L F'∧Ext F w w'∧∀b,F' b→F b∨w.heap.size≤b:=fun w' E=>⟨F,hP.pure E,E.pure,fun _ h=>.inl h⟩
 refine ⟨fun h=>hK _ _ _ ?_,fun h=>?_⟩
 ·have he:er≠0:=by simpa using h
  have:Sp.make L n=(0,er,L):=by unfold Sp.make;simp [← hck,he]
  rw [this];exact ⟨rfl,jCS _ E3⟩
 ·have he:er=0:=by simpa using h
  subst he
  intro w3 hw3
  have E4:Pure w w3:=by rw [hw3];exact E3.trans (Ext.drew w2)
  have b3:=(b1.pure E2).pure (show Pure w2 w3 by rw [hw3];exact Ext.drew w2)
  clear hw3
  obtain ⟨s,m,hS,hF⟩:=hP.pure E4
  refine ⟨p,rfl,_,hS.box.cell (i:=1) rfl,_,_,_,_,_,_,_,b3.row,?_⟩
  have hkey:(Value.agg #[.int .i64 k,.int .i64 f,.int .i64 t,.int .u64 u,.string x,.int .i64 a,.int .i64 b])=gO n:=by rw [← hn];rfl
  rw [hkey]
  rcases hS.map.lookup (P:=prog) (T:=80) (E:=32) underlying80 uH gK ⟨n,rfl⟩ (zeroValue32 _) true with ⟨hnot,hrun⟩ | ⟨i,v,hi,hrun⟩
  ·refine ⟨_,_,hrun,Br.f rfl ⟨p,rfl,s,hS.box.cell0,?_⟩⟩
   have hno:=jFN hnot
   have hfn:=tZ hno
   have hlen:(s.len:Int)=L.length:=by rw [hS.rows.len];simp
   refine ⟨fun h=>hK _ _ _ ?_,fun h=>?_⟩
   ·have h2:65536≤L.length:=by have h:=of_decide_eq_true h;omega
    have:Sp.make L n=(0,6,L):=by unfold Sp.make;simp [← hck,hfn,h2]
    rw [this];exact ⟨rfl,jCS _ E4⟩
   ·have h2:¬ 65536≤L.length:=by have h:=of_decide_eq_false h;omega
    have hmk:Sp.make L n=((L.length:Int)+1,0,L++[⟨n,sz,dp⟩]):=by unfold Sp.make;simp [← hck,hfn,h2]
    refine ⟨fun w'=>w'.cell? p=some s.v∧Row w' p2 (yV n),⟨?_,?_⟩,?_⟩
    ·exact Ext.cell (F:=None) (Ext.drew w3) hS.box.cell0 id
    ·rw [← hn];exact Ext.row (F:=None) (Ext.drew w3) b3.row id
    intro w4 hw4
    have E5:Pure w3 w4:=by rw [hw4];exact Ext.drew w3
    clear hw4
    have hS4:PoolS w4 p L s m:=by
     exact ⟨hS.box.pure E5,hS.rows.pure E5,hS.map.ext E5 id,hS.n1,hS.n2,hS.n3⟩
    have b4:=b3.pure E5
    refine ⟨p,rfl,s,fun w' h=>h.1,k,f,t,u,x,a,b,fun w' h=>by have:=h.2;rw [← hn] at this;exact this,?_⟩
    intro p3 w5 h5
    have E6:Pure w4 w5:=Ext.new h5
    have o3:w.heap.size≤p3.block:=New.own (E4.trans E5) h5
    have b5:=Box.of_new h5
    have hrows5:=hS4.rows.pure E6
    have hbox5:=hS4.box.pure E6
    have hmap5:CMap w5 m (vV L):=hS4.map.ext E6 id
    have b45:=b4.pure E6
    have hrow:Row w5 p3 (jDH ⟨n,sz,dp⟩):=by rw [← hn];exact b5.row
    refine ⟨⟨hbox5.cell0,by rw [← hn];exact b45.row⟩,?_⟩
    obtain ⟨s1,w6,hr6,hrows6,E7,hb6⟩:=hrows5.append (P:=prog) (ty:=79) gD (c:=1) hrow (by simp [jDH,yV]) (by simp [jDH,yV,zL]) (by simp;omega) (by simp [maxLen];omega)
    have nb:∀b,s.blk b→b≠p2.block:=fun b hb e=>o2 (by rw [← e];exact (hF b).2 (.inr (.inl hb)))
    have hbox6:=hbox5.ext E7 hS.n2
    have hmap6:=hmap5.ext E7 hS.n3
    have b6:=b45.ext E7 (fun h=>nb _ h rfl)
    refine ⟨s1,w6,hr6,⟨hbox6.cell0,by rw [← hn];exact b6.row⟩,p,rfl,hbox6.canW0 (by simp),?_⟩
    intro w7 hw7
    have hbox7:Box w7 p [s1.v,.map (some m)] 82:=by rw [hw7];exact hbox6.set0
    have E8:Ext (·=p.block) w6 w7:=by rw [hw7];exact Ext.setCell p _
    clear hw7
    have hs1p:¬ s1.blk p.block:=fun h=>(hb6 _ h).elim hS.n2 (fun h=>by have:=hbox5.lt;omega)
    have hs1m:¬ s1.blk m:=fun h=>(hb6 _ h).elim hS.n3 (fun h=>by have:=hmap5.lt;omega)
    have hrows7:=hrows6.ext E8 (fun b hb e=>hs1p (by rw [← e];exact hb))
    have hmap7:=hmap6.ext E8 hS.n1
    have b7:=b6.ext E8 (fun e=>o2 (by rw [e];exact (hF _).2 (.inl rfl)))
    have hl1:(s1.len:Int)=L.length+1:=by rw [hrows6.len];simp
    refine ⟨p,rfl,s1,hbox7.cell0,?_⟩
    refine ⟨fun w'=>w'.cell? (p.add 1)=some (.map (some m))∧Row w' p2 (yV n),⟨?_,?_⟩,?_⟩
    ·exact Ext.cell (F:=None) (Ext.drew w7) (hbox7.cell (i:=1) rfl) id
    ·rw [← hn];exact Ext.row (F:=None) (Ext.drew w7) b7.row id
    intro w8 hw8
    have E9:Pure w7 w8:=by rw [hw8];exact Ext.drew w7
    clear hw8
    refine ⟨p,rfl,some m,fun w' h=>h.1,k,f,t,u,x,a,b,fun w' h=>by have:=h.2;rw [← hn] at this;exact this,?_⟩
    rw [hkey,hl1]
    have hmap8:CMap w8 m (vV L):=hmap7.ext E9 id
    obtain ⟨w9,hr9,hmap9,E10⟩:=hmap8.insert (P:=prog) (v:=.int .i64 ((L.length:Int)+1)) underlying80 uH gK ⟨n,rfl⟩ hnot
    refine ⟨w9,hr9,hK _ _ _ ?_⟩
    rw [hmk]
    have hbox9:=(hbox7.pure E9).ext E10 (fun e=>hS.n1 e.symm)
    have hrows9:=(hrows7.pure E9).ext E10 (fun b hb e=>hs1m (by rw [← e];exact hb))
    refine ⟨rfl,fun b=>b=p.block∨s1.blk b∨b=m,⟨s1,m,⟨hbox9,?_,?_,hS.n1,hs1p,hs1m⟩,fun _=>Iff.rfl⟩,?_,?_⟩
    ·simpa using hrows9
    ·rw [jED];simpa using hmap9
    ·have hF':∀b,F b↔(b=p.block∨s.blk b∨b=m):=hF
     have Ea:Ext F w w5:=((E4.trans E5).trans E6).pure
     have Eb:Ext F w w6:=Ea.trans' E7 (fun i _ h=>(hF' i).2 (.inr (.inl h)))
     have Ec:Ext F w w7:=Eb.trans' E8 (fun i _ h=>(hF' i).2 (.inl h))
     have Ed:Ext F w w8:=Ec.thenPure E9
     exact Ed.trans' E10 (fun i _ h=>(hF' i).2 (.inr (.inr h)))
    ·intro b hb
     rcases hb with rfl | hb | rfl
     ·exact .inl ((hF _).2 (.inl rfl))
     ·rcases hb6 b hb with h | h
      ·exact .inl ((hF _).2 (.inr (.inl h)))
      ·right;have:=((E4.trans E5).trans E6).size;omega
     ·exact .inl ((hF _).2 (.inr (.inr rfl)))
  ·obtain ⟨e,he,hen,rfl⟩:=jFO hi
   refine ⟨_,_,hrun,Br.t rfl (hK _ _ _ ?_)⟩
   have hfd:=jEQ hok he
   rw [hen] at hfd
   have:Sp.make L n=((i:Int)+1,0,L):=by unfold Sp.make;simp [← hck,hfd]
   rw [this];exact ⟨by simp,jCS _ E4⟩
def vN (t:Sp.Tree) (s:Sl):List Value:=[.int .i64 t.node.kind,.int .i64 t.node.frm,.int .i64 t.node.to,.int .u64 t.node.num,.string t.node.text,s.v]
inductive TreeAt (S:NP) (w:World):Sl→Sp.Tree→Prop
 | mk (k f t u : Int) (x : ByteArray) (ks : List Sp.Tree) (s : Sl) (rs : Nat → Sl) (len : s.len = ks.length) (fit : ks.length ≤ 9223372036854775807)
   (row:∀i (h:i<ks.length),∃a,At s i 6 a∧S a.block∧Row w a (vN ks[i] (rs i))) (kid:∀i (h:i<ks.length),TreeAt S w (rs i) ks[i]):TreeAt S w s (.mk k f t u x ks)
theorem TreeAt.ext {S F:NP} {w w':World} {s:Sl} {t:Sp.Tree} (h:TreeAt S w s t) (hE:Ext F w w') (hd:∀b,S b→¬ F b):TreeAt S w' s t:=by
 induction h with
 | mk k f t u x ks s rs len fit row kid ih =>
  exact .mk k f t u x ks s rs len fit (fun i h=>let ⟨a,h1,h2,h3⟩:=row i h;⟨a,h1,h2,hE.row h3 (hd _ h2)⟩) ih
theorem TreeAt.pure {S:NP} {w w':World} {s:Sl} {t:Sp.Tree} (h:TreeAt S w s t) (hE:Pure w w'):TreeAt S w' s t:=h.ext hE (fun _ _ h=>h)
theorem TreeAt.mono {S S':NP} {w:World} {s:Sl} {t:Sp.Tree} (h:TreeAt S w s t) (hd:∀b,S b→S' b):TreeAt S' w s t:=by
 induction h with
 | mk k f t u x ks s rs len fit row kid ih =>
  exact .mk k f t u x ks s rs len fit (fun i h=>let ⟨a,h1,h2,h3⟩:=row i h;⟨a,h1,hd _ h2,h3⟩) ih
theorem TreeAt.lt {S:NP} {w:World} {s:Sl} {t:Sp.Tree} (h:TreeAt S w s t):TreeAt (fun b=>S b∧b<w.heap.size) w s t:=by
 induction h with
 | mk k f t u x ks s rs len fit row kid ih =>
  refine .mk k f t u x ks s rs len fit (fun i h=>let ⟨a,h1,h2,h3⟩:=row i h;⟨a,h1,⟨h2,?_⟩,h3⟩) ih
  have:=h3 0 (by simp [vN])
  unfold World.cell? at this
  refine Classical.byContradiction fun hge=>?_
  have:w.heap[(a.add 0).block]?=none:=by rw [jK];exact Array.getElem?_eq_none (by omega)
  simp_all [vN]
theorem jCE (k f t u:Int) (x:ByteArray) (s:Sl) (w:World) :
  Calls prog 40 #[.agg #[.int .i64 k,.int .i64 f,.int .i64 t,.int .u64 u,.string x,s.v]] w
   (fun e w'=>∃k':Int,∃f':Int,∃t':Int,∃u':Int,∃x':ByteArray,∃a:Int,∃b:Int,e=.returned (.agg #[.int .i64 k',.int .i64 f',.int .i64 t',.int .u64 u',.string x',.int .i64 a,.int .i64 b])∧((⟨k',f',t',u',x',a,b⟩:Sp.Node)=⟨k,f,t,u,x,0,0⟩∧Pure w w')):=by
 refine w_S1 _ _ _ _ _ _ w (fun k' f' t' u' x' a b w'=>(⟨k',f',t',u',x',a,b⟩:Sp.Node)=⟨k,f,t,u,x,0,0⟩∧Pure w w') ?_
 unfold m_S1
 intro p1 w1 h1 p2 w2 h2
 have E1:Pure w w1:=Ext.new h1
 have b1:=(Box.of_new h1).pure (Ext.new h2)
 refine ⟨_,b1.cell0,_,b1.cell rfl,_,b1.cell rfl,_,b1.cell rfl,_,b1.cell rfl,?_⟩
 exact bx 7 (Box.of_new h2) rfl rfl (fun w' b E=>⟨_,_,_,_,_,_,_,b.row,rfl,(E1.trans (Ext.new h2)).own (New.own E1 h2) E⟩)
theorem lE (t:Sp.Tree):∀i n:Int,0≤n→0≤(Sp.zQ i n t).2:=by
 induction t using Sp.Tree.ind with
 | h k f t u x ks ih =>
  have:∀(ks:List Sp.Tree),(∀i (hi:i<ks.length),∀j n:Int,0≤n→0≤(Sp.zQ j n ks[i]).2)→∀i e n:Int,0≤n→0≤(Sp.zC i e n ks).2:=by
   intro ks;induction ks with
   | nil=>intro _ i e n h;simpa [Sp.zC] using h
   | cons t ts iht =>
    intro hh i e n h
    unfold Sp.zC
    split
    ·exact iht (fun i hi=>hh (i+1) (by simpa using hi)) _ _ _ (hh 0 (by simp) i n h)
    ·exact h
  intro i n h
  unfold Sp.zQ
  split
  ·exact h
  ·split
   ·exact h
   ·exact this ks ih _ _ _ (by omega)
theorem yP {ks:List Sp.Tree} {j:Nat} (hj:j<ks.length) (i n:Int):Sp.zC i 0 n (ks.drop j)=Sp.zC i (Sp.zQ i n ks[j]).1 (Sp.zQ i n ks[j]).2 (ks.drop (j+1)):=by
 rw [List.drop_eq_getElem_cons hj,Sp.zC,if_pos rfl]
theorem uM {ks:List Sp.Tree} {e:Int} (h:e≠0) (i n:Int):Sp.zC i e n ks=(e,n):=by
 cases ks <;> simp [Sp.zC,h]
theorem jHY {S:NP} (q:Addr) (hq:¬ S q.block) (T:TypeId) (t:Sp.Tree):∀(s:Sl) (inside seen:Int) (w:World),0≤inside→0≤seen→TreeAt S w s t→Box w q [.int .i64 seen] T →
  Calls prog 29 #[.agg (vN t s).toArray,.int .i64 inside,.pointer (some q)] w
   (fun e w'=>∃r:Int,e=.returned (.int .i64 r)∧(r=(Sp.zQ inside seen t).1∧Box w' q [.int .i64 (Sp.zQ inside seen t).2] T∧Ext (·=q.block) w w')):=by
 induction t using Sp.Tree.ind with
 | h k f t u x ks ih =>
 intro s inside seen w hi0 hn0 hT hB
 suffices key:∀K:Int→WP,(∀r w',(r=(Sp.zQ inside seen (.mk k f t u x ks)).1∧Box w' q [.int .i64 (Sp.zQ inside seen (.mk k f t u x ks)).2] T∧Ext (·=q.block) w w')→K r w')→m_H k f t u x s inside (some q) w K from
  w_H _ _ _ _ _ _ _ _ w _ (key _ (fun _ _ h=>h))
 intro K hK
 unfold m_H
 intro p1 w1 h1
 have b1:=Box.of_new h1
 have E1:Pure w w1:=Ext.new h1
 have n1:q.block≠p1.block:=New.ne h1 hB.blk
 have hB1:=hB.pure E1
 have hT1:=hT.pure E1
 refine ⟨q,rfl,seen,hB1.cell0,fun h=>?_,fun h=>⟨fun h'=>?_,fun h'=>?_⟩⟩
 ·have h:=of_decide_eq_true h
  have:Sp.zQ inside seen (.mk k f t u x ks)=(52,seen):=by rw [Sp.zQ,if_pos (by omega)]
  rw [this] at hK;exact hK _ _ ⟨rfl,hB1,E1.pure⟩
 ·have h:=of_decide_eq_false h;have h':=of_decide_eq_true h'
  have:Sp.zQ inside seen (.mk k f t u x ks)=(52,seen):=by rw [Sp.zQ,if_neg (by omega),if_pos (by omega)]
  rw [this] at hK;exact hK _ _ ⟨rfl,hB1,E1.pure⟩
 have h:=of_decide_eq_false h;have h':=of_decide_eq_false h'
 have hsp:Sp.zQ inside seen (.mk k f t u x ks)=Sp.zC (inside+1) (Sp.vH ⟨k,f,t,u,x,0,0⟩ ks.length) (seen+1) ks:=by rw [Sp.zQ,if_neg (by omega),if_neg (by omega)]
 rw [hsp] at hK
 unfold m_H_j1
 refine ⟨q,rfl,seen,hB1.cell0,q,rfl,hB1.canW0 (by simp),?_⟩
 rw [i64 (n:=seen+1) (by omega) (by omega)]
 intro w2 hw2
 have hB2:Box w2 q [.int .i64 (seen+1)] T:=by rw [hw2];exact hB1.set0
 have E12:Ext (·=q.block) w1 w2:=by rw [hw2];exact Ext.setCell q _
 clear hw2
 have b2:=b1.ext E12 (fun e=>n1 e.symm)
 have hT2:=hT1.ext E12 (fun b hb e=>hq (e▸hb))
 have E2:Ext (·=q.block) w w2:=E1.pure.trans E12
 refine ⟨_,_,_,_,_,_,b2.row,?_⟩
 refine (jCE _ _ _ _ _ _ w2).mono ?_
 rintro _ w3 ⟨k',f',t',u',x',a',b',rfl,hn,E23⟩
 cases hn
 refine ⟨_,_,_,_,_,_,_,rfl,?_⟩
 intro p2 w4 h4
 have n2:p1.block≠p2.block:=New.ne h4 (b2.pure E23).blk
 have E24:Pure w2 w4:=E23.trans (Ext.new h4)
 have o2:=New.own E23 h4
 refine bx 7 (Box.of_new h4) rfl rfl (fun w5 c2 E45=>?_)
 have E25:Pure w2 w5:=E24.own o2 E45
 refine ⟨_,_,_,_,_,_,_,c2.row,?_⟩
 refine (jEX _ _ _ _ _ _ _ w5).mono ?_
 rintro _ w6 ⟨s1,s2,s3,s4,s5,pe,rfl,⟨hs,hpe⟩,E56⟩
 refine ⟨_,_,_,_,_,_,rfl,?_⟩
 intro p3 w7 h7
 have n3:p2.block≠p3.block:=New.ne h7 (c2.pure E56).blk
 have E27:Pure w2 w7:=(E25.trans E56).trans (Ext.new h7)
 have o3:=New.own (E25.trans E56) h7
 refine bx 5 (Box.of_new h7) rfl rfl (fun w8 c3 E78=>?_)
 have E28:Pure w2 w8:=E27.own o3 E78
 have d2:=((c2.pure E56).pure (Ext.new h7)).ext E78 n3
 have d1:=b2.pure E28
 have hB8:=hB2.pure E28
 have hT8:=hT2.pure E28
 have E8:Ext (·=q.block) w w8:=E2.thenPure E28
 clear E78 E27 E56 E25 E45 E24 E23 E12 c2 b2 b1 hT2 hT1 hB1 h1 h4 h7
 have hlen:s.len=ks.length:=by cases hT;assumption
 have hfit:ks.length≤9223372036854775807:=by cases hT;assumption
 have hsh:Sp.shapeOf k=⟨s1,s2,s3,s4,s5⟩:=hs.symm
 have J3:∀e w',Pure w8 w'→e=Sp.vH ⟨k,f,t,u,x,0,0⟩ ks.length→m_H_j3 inside (some q) p1 e w' K:=by
  intro e w' E hown;rw [← hown] at hK;unfold m_H_j3;refine ⟨fun e i w'=>∃j:Nat,i=j∧j≤ks.length∧∃n:Int,0≤n∧Ext (·=q.block) w8 w'∧Box w' q [.int .i64 n] T∧Sp.zC (inside+1) e n (ks.drop j)=Sp.zC (inside+1) (Sp.vH ⟨k,f,t,u,x,0,0⟩ ks.length) (seen+1) ks,fun _ i _=>((ks.length:Int) - i).toNat,⟨0,rfl,Nat.zero_le _,seen+1,by omega,E.pure,hB8.pure E,by rw [hown];rfl⟩,?_⟩;rintro e1 _ wl ⟨j,rfl,hj,n,hn,El,hBl,heq⟩;unfold m_H_l4;have dl:=d1.ext El (fun e=>n1 e.symm);have hTl:=hT8.ext El (fun b hb e=>hq (e▸hb));rw [← hown] at heq;have fin:∀n',Sp.zC (inside+1) e ((seen:Int)+1) ks=(e1,n')→n'=n→K e1 wl:=by
   rintro n' h rfl;refine hK _ _ ⟨by rw [h],by rw [h];exact hBl,E8.trans El⟩
  refine ⟨s,dl.cell rfl,fun hlt=>⟨fun he=>?_,fun he=>?_⟩,fun hlt=>?_⟩
  ·have hlt:j<ks.length:=by have h:=of_decide_eq_true hlt;omega
   have he:e1=0:=by simpa using he
   subst he;cases hTl with
   | mk _ _ _ _ _ _ _ rs len fit row kid =>
   obtain ⟨a,hat,ha,hr⟩:=row j hlt;refine ⟨s,dl.cell rfl,a,hat,_,_,_,_,_,rs j,hr,?_⟩;rw [i64 (n:=inside+1) (by omega) (by omega)];refine (ih j hlt (rs j) (inside+1) n wl (by omega) hn (kid j hlt) hBl).mono ?_;rintro _ w9 ⟨r,rfl,rfl,hB9,E9⟩;rw [yP hlt] at heq;refine ⟨_,rfl,⟨j+1,?_,hlt,_,lE _ _ _ hn,El.trans E9,hB9,by rw [← hown];exact heq⟩,?_⟩
   ·rw [i64 (by omega) (by omega)];omega
   ·show ((ks.length:Int) - IntKind.i64.wrap ((j:Int)+1)).toNat<((ks.length:Int) - (j:Int)).toNat;rw [i64 (by omega) (by omega)];omega
  ·have he:e1≠0:=by simpa using he
   rw [uM he] at heq;exact fin _ heq.symm rfl
  ·have hge:j=ks.length:=by have h:=of_decide_eq_false hlt;omega
   rw [hge,List.drop_length,Sp.zC] at heq;exact fin _ heq.symm rfl
 have J2:∀e1,e1=(if pe=0 then if (ks.length:Int)≠s5 then 53 else 0 else pe)→m_H_j2 inside (some q) p1 p2 p3 e1 w8 K:=by
  intro e1 he1;have hown:Sp.vH ⟨k,f,t,u,x,0,0⟩ ks.length=if e1=0 then Sp.jV ⟨s1,s2,s3,s4,s5⟩ ⟨k,f,t,u,x,0,0⟩ else e1:=by
   unfold Sp.vH;simp only [hsh,← hpe,he1]
  unfold m_H_j2;refine ⟨fun h=>⟨_,_,_,_,_,c3.row,_,_,_,_,_,_,_,d2.row,?_⟩,fun h=>J3 _ _ (Ext.refl _) ?_⟩
  ·have h:e1=0:=by simpa using h
   refine (jCG _ _ _ _ _ _ _ _ _ _ _ _ _).mono ?_;rintro _ w9 ⟨_,rfl,rfl,E9⟩;exact ⟨_,rfl,J3 _ _ E9 (by rw [hown,if_pos h])⟩
  ·have h:e1≠0:=by simpa using h
   rw [hown,if_neg h]
 refine ⟨fun h=>⟨s,d1.cell rfl,s5,c3.cell rfl,fun h5=>J2 _ ?_,fun h5=>J2 _ ?_⟩,fun h=>J2 _ ?_⟩
 ·have h:pe=0:=by simpa using h
  have h5:(s.len:Int)≠s5:=by simpa using h5
  rw [if_pos h,if_pos (by omega)]
 ·have h:pe=0:=by simpa using h
  have h5:(s.len:Int)=s5:=by simpa using h5
  rw [if_pos h,if_neg (by omega),h]
 ·have h:pe≠0:=by simpa using h
  rw [if_neg h]
theorem c_New (w:World):Calls prog 15 #[] w (fun e w'=>∃r:Option Addr,e=.returned (.pointer r)∧∃p,r=some p∧Pure w w'∧∃F,jL w' p [] F∧∀b,F b→w.heap.size≤b):=by
 refine w_R1 w (fun r w'=>∃p,r=some p∧Pure w w'∧∃F,jL w' p [] F∧∀b,F b→w.heap.size≤b) ?_;unfold m_R1;intro p1 w1 h1 p2 w2 h2;have E1:Pure w w1:=Ext.new h1;have m2:CMap w2 p1.block []:=(CMap.of_new h1).ext (Ext.new h2:Pure w1 w2) id;have n12:p1.block≠p2.block:=New.ne h2 h1.block_new;refine ⟨p2,rfl,E1.trans (Ext.new h2),fun b=>b=p2.block∨Sl.nil.blk b∨b=p1.block,⟨Sl.nil,p1.block,⟨Box.of_new h2,by simpa using Rws.nil _ _ _,by simpa [vV] using m2,n12,?_,?_⟩,fun _=>Iff.rfl⟩,?_⟩
 ·rintro ⟨a,h,_⟩;cases h
 ·rintro ⟨a,h,_⟩;cases h
 ·rintro b (rfl | ⟨a,h,_⟩ | rfl)
  ·exact New.own E1 h2
  ·cases h
  ·exact New.own (Ext.refl w) h1
theorem jEC (L:Sp.Pool) (n:Nat):vV (L.take n)=(vV L).take n:=by
 apply List.ext_getElem?;intro i;simp only [vV,List.getElem?_map,List.getElem?_zipIdx,List.getElem?_take];split <;> simp
theorem jFP (L:Sp.Pool):(vV L).map (·.1)=(L.map (·.node)).map gO:=by
 apply List.ext_getElem?;intro i;simp only [vV,List.getElem?_map,List.getElem?_zipIdx];cases L[i]? <;> simp
theorem c_cut (p:Addr) (n:Nat) (w:World) {L:Sp.Pool} {F:NP} (hP:jL w p L F) (hok:Sp.Ok L) (hn:n≤L.length) :
  Calls prog 31 #[.pointer (some p),.int .i64 n] w (fun e w'=>e=.returned (.tuple #[])∧jL w' p (L.take n) F∧Ext F w w'):=by
 suffices key:∀K:WP,(∀w',jL w' p (L.take n) F∧Ext F w w'→K w')→m_W (some p) n w K from
  w_W _ _ w _ (key _ (fun _ h=>h))
 intro K hK
 unfold m_W
 obtain ⟨s,m,hS,hF⟩:=hP
 have hfew:=hok.few
 have hcap:s.len≤s.cap:=by
  have:=hS.rows.len;rcases hS.rows.own with ⟨rfl,_⟩ | ⟨g,cur,_,_,hc,_⟩
  ·simp [Sl.nil]
  ·omega
 obtain ⟨s1,hr1,hl1⟩:=hS.rows.lst.lo (P:=prog) gD hcap (k:=.i64) (n:=n) (by omega) (by simpa using hn)
 have hlen1:s1.len=L.length - n:=by rw [hl1.len];simp
 refine ⟨p,rfl,s,hS.box.cell0,s1,hr1,?_⟩
 refine ⟨fun x w'=>∃j:Nat,x=j∧j≤L.length - n∧Ext (·=m) w w'∧CMap w' m ((vV L).take n++(vV L).drop (n+j)),fun x _=>((L.length:Int) - x).toNat,⟨0,rfl,Nat.zero_le _,Ext.refl w,by simpa using hS.map⟩,?_⟩
 rintro _ wl ⟨j,rfl,hj,El,hml⟩
 have hboxl:=hS.box.ext El hS.n1.symm
 have hrowsl:=hS.rows.ext El (fun b hb e=>hS.n3 (e▸hb))
 unfold m_W_l1
 refine ⟨fun h=>?_,fun h=>?_⟩
 ·have hlt:n+j<L.length:=by have h:=of_decide_eq_true h;omega
  have hll:=hl1.ext El (fun b hb e=>hS.n3 (e▸hb))
  obtain ⟨a,hat,_,hrow⟩:=hll.at_ j (by simp;omega)
  generalize he:L[n+j]=e at *
  have hrow':Row wl a (jDH e):=by
   have:((L.map jDH).drop ((n:Int).toNat))[j]'(by simp;omega)=jDH e:=by simp [he]
   rw [this] at hrow;exact hrow
  obtain ⟨nd,sz,dp⟩:=e
  obtain ⟨k,f,t,u,x,a1,b1⟩:=nd
  refine ⟨a,hat,_,_,_,_,_,_,_,_,_,hrow',?_⟩
  intro p2 w1 h1
  have E1:Pure wl w1:=Ext.new h1
  have o1:=New.own (Ext.refl wl) h1
  refine bx 9 (Box.of_new h1) rfl rfl (fun w2 b2 E=>?_)
  have E2:Pure wl w2:=E1.own o1 E
  refine ⟨fun w'=>w'.cell? (p.add 1)=some (.map (some m))∧Row w' p2 (yV ⟨k,f,t,u,x,a1,b1⟩),⟨(hboxl.pure (E2.thenPure (Ext.drew w2))).cell (i:=1) rfl,?_⟩,?_⟩
  ·have : Row w2 p2 (yV ⟨k, f, t, u, x, a1, b1⟩) := fun i hi => by
    have:=b2.row i (by simp [yV] at hi ⊢;omega);rw [this];have h7:i<7:=by simpa [yV] using hi
    have:i=0∨i=1∨i=2∨i=3∨i=4∨i=5∨i=6:=by omega
    rcases this with rfl | rfl | rfl | rfl | rfl | rfl | rfl <;> rfl
   exact Ext.row (F:=None) (Ext.drew w2) this id
  intro w3 hw3
  have E3:Pure wl w3:=by rw [hw3];exact E2.thenPure (Ext.drew w2)
  clear hw3
  refine ⟨p,rfl,some m,fun w' h=>h.1,k,f,t,u,x,a1,b1,fun w' h=>h.2,?_⟩
  have hm3:=hml.ext E3 id
  have hpl:(vV L).length=L.length:=by simp [vV]
  have hget:(vV L)[n+j]?=some (gO ⟨k,f,t,u,x,a1,b1⟩,.int .i64 (n+j+1:Nat)):=by
   simp only [vV,List.getElem?_map,List.getElem?_zipIdx,List.getElem?_eq_getElem hlt,he];simp
  have hidx:((vV L).take n++(vV L).drop (n+j))[n]?=some (gO ⟨k,f,t,u,x,a1,b1⟩,.int .i64 (n+j+1:Nat)):=by
   have e0:n+j+(n - ((vV L).take n).length)=n+j:=by rw [List.length_take];omega
   rw [List.getElem?_append_right (by rw [List.length_take];omega),List.getElem?_drop,e0,hget]
  have hnd:((vV L).map (·.1)).Nodup:=by
   rw [jFP,List.nodup_iff_pairwise_ne,List.pairwise_map];exact hok.nodup.imp (fun h e=>h (oM.1 e))
  have hsub:List.Sublist ((vV L).take n++(vV L).drop (n+j)) (vV L):=by
   conv=>rhs;rw [← List.take_append_drop n (vV L)]
   refine (List.Sublist.refl _).append ?_;have e0:(vV L).drop (n+j)=((vV L).drop n).drop j:=by rw [List.drop_drop]
   rw [e0];exact List.drop_sublist _ _
  have hnd2:(((vV L).take n++(vV L).drop (n+j)).map (·.1)).Nodup:=hnd.sublist (hsub.map _)
  obtain ⟨w4,hr4,hm4,E4⟩:=hm3.delete (P:=prog) (Q:=51) (z:=0) underlying80 uH (fun q hq=>gK q (hsub.subset hq)) ⟨_,rfl⟩ hidx (fun i u hi=>by
   obtain ⟨hi1,hi2⟩:=List.getElem?_eq_some_iff.1 hi;obtain ⟨hn1,hn2⟩:=List.getElem?_eq_some_iff.1 hidx;refine Classical.byContradiction fun hne=>?_;have hne:=List.pairwise_iff_getElem.1 hnd2;rcases Nat.lt_or_gt_of_ne ‹_› with hlt | hlt
   ·exact hne i n (by simpa using hi1) (by simpa using hn1) hlt (by rw [List.getElem_map,List.getElem_map,hi2,hn2])
   ·exact hne n i (by simpa using hn1) (by simpa using hi1) hlt (by rw [List.getElem_map,List.getElem_map,hi2,hn2]))
  refine ⟨w4,hr4,⟨j+1,?_,by omega,(El.trans E3.pure).trans E4,?_⟩,?_⟩
  ·rw [i64 (by omega) (by omega)];omega
  ·rw [List.eraseIdx_append_of_length_le (by rw [List.length_take];omega)] at hm4
   have:n - ((vV L).take n).length=0:=by rw [List.length_take];omega
   rw [this] at hm4
   have hd:((vV L).drop (n+j)).eraseIdx 0=(vV L).drop (n+(j+1)):=by
    rw [List.drop_eq_getElem_cons (by omega)];simp;rfl
   rw [hd] at hm4;exact hm4
  ·show ((L.length:Int) - IntKind.i64.wrap ((j:Int)+1)).toNat<((L.length:Int) - (j:Int)).toNat
   rw [i64 (by omega) (by omega)];omega
 ·have hge:n+j=L.length:=by have h:=of_decide_eq_false h;omega
  have hpl:(vV L).length=L.length:=by simp [vV]
  rw [hge,← hpl,List.drop_length,List.append_nil] at hml
  obtain ⟨s2,hr2,hrows2,hb2⟩:=hrowsl.hi (P:=prog) gD (k:=.i64) (n:=n) (by omega) (by simpa using hn)
  refine ⟨p,rfl,s,hboxl.cell0,s2,hr2,p,rfl,hboxl.canW0 (by simp),?_⟩
  rintro w5 hw5
  have hbox5:Box w5 p [s2.v,.map (some m)] 82:=by rw [hw5];exact hboxl.set0
  have E5:Ext (·=p.block) wl w5:=by rw [hw5];exact Ext.setCell p _
  clear hw5
  refine hK _ ⟨⟨s2,m,⟨hbox5,?_,?_,hS.n1,fun h=>hS.n2 ((hb2 _).1 h),fun h=>hS.n3 ((hb2 _).1 h)⟩,fun b=>by rw [hF b,hb2 b]⟩,?_⟩
  ·have:=hrows2.ext E5 (fun b hb e=>hS.n2 (by rw [← e];exact (hb2 _).1 hb))
   simpa using this
  ·rw [jEC];exact hml.ext E5 hS.n1
  ·exact (El.mono (fun i _ h=>(hF i).2 (.inr (.inr h)))).trans' E5 (fun i _ h=>(hF i).2 (.inl h))
theorem gV {n:Sp.Node} {i:Nat} {L:Sp.Pool} {t:Sp.Tree} {ts:List Sp.Tree} (h:(Sp.zM L t).2.1≠0):Sp.jY n i L (t :: ts)=(0,(Sp.zM L t).2.1,(Sp.zM L t).2.2):=by rw [Sp.jY,if_pos h]
theorem uO {n:Sp.Node} {i:Nat} {L:Sp.Pool} {t:Sp.Tree} {ts:List Sp.Tree} (h:(Sp.zM L t).2.1=0):Sp.jY n i L (t :: ts)=Sp.jY (if i=0 then { n with a:=(Sp.zM L t).1 } else { n with b:=(Sp.zM L t).1 }) (i+1) (Sp.zM L t).2.2 ts:=by rw [Sp.jY,if_neg (by simp [h])]
def Sp.Tree.two (t:Sp.Tree):Prop:=Sp.Tree.rec (motive_1:=fun _=>Prop) (motive_2:=fun _=>Prop) (fun _ _ _ _ _ ks h=>ks.length≤2∧h) True (fun _ _ h1 h2=>h1∧h2) t
def tG:List Sp.Tree→Prop
 | []=>True
 | t :: ts=>Sp.Tree.two t∧tG ts
theorem jDN {k f t u:Int} {x:ByteArray} {ks:List Sp.Tree}:Sp.Tree.two (.mk k f t u x ks)↔ks.length≤2∧tG ks:=by
 have:∀ks:List Sp.Tree,(Sp.Tree.rec_1 (motive_1:=fun _=>Prop) (motive_2:=fun _=>Prop) (fun _ _ _ _ _ ks h=>ks.length≤2∧h) True (fun _ _ h1 h2=>h1∧h2) ks:Prop)=tG ks:=by
  intro ks;induction ks with
  | nil=>rfl
  | cons t ts ih=>show (Sp.Tree.two t∧_)=(Sp.Tree.two t∧_);rw [ih]
 show (ks.length≤2∧_)↔_;rw [this]
theorem xU {ks:List Sp.Tree} (h:tG ks) {i:Nat} (hi:i<ks.length):Sp.Tree.two ks[i]:=by
 induction ks generalizing i with
 | nil=>simp at hi
 | cons t ts ih =>
  cases i with
  | zero=>exact h.1
  | succ i=>exact ih h.2 (by simpa using hi)
theorem c_grow {S:NP} (p:Addr) (t:Sp.Tree):∀(s:Sl) (w:World) (L:Sp.Pool) (F:NP),Sp.Tree.two t→TreeAt S w s t→jL w p L F→Sp.Ok L→(∀b,F b→¬ S b)→(∀b,S b→b<w.heap.size) →
  Calls prog 30 #[.pointer (some p),.agg (vN t s).toArray] w
   (fun e w'=>∃r1:Int,∃r2:Int,e=.returned (.tuple #[.int .i64 r1,.int .i64 r2])∧((r1,r2)=((Sp.zM L t).1,(Sp.zM L t).2.1)∧∃F',jL w' p (Sp.zM L t).2.2 F'∧Ext F w w'∧∀b,F' b→F b∨w.heap.size≤b)):=by
 induction t using Sp.Tree.ind with
 | h k f t u x ks ih =>
 intro s w L F h2 hT hP hok hFS hSw
 suffices key:∀K:Int→Int→WP,(∀r1 r2 w',((r1,r2)=((Sp.zM L (.mk k f t u x ks)).1,(Sp.zM L (.mk k f t u x ks)).2.1)∧∃F',jL w' p (Sp.zM L (.mk k f t u x ks)).2.2 F'∧Ext F w w'∧∀b,F' b→F b∨w.heap.size≤b)→K r1 r2 w')→m_V (some p) k f t u x s w K from
  w_V _ _ _ _ _ _ _ w _ (key _ (fun _ _ _ h=>h))
 intro K hK
 obtain ⟨hk2,hall⟩:=jDN.1 h2
 unfold m_V
 intro p2 w1 h1
 have b1:=Box.of_new h1
 have E1:Pure w w1:=Ext.new h1
 refine ⟨_,_,_,_,_,_,b1.row,?_⟩
 refine (jCE _ _ _ _ _ _ w1).mono ?_
 rintro _ w2 ⟨k',f',t',u',x',a',b',rfl,hn,E12⟩
 cases hn
 refine ⟨_,_,_,_,_,_,_,rfl,?_⟩
 intro p3 w3 h3
 have E3:Pure w w3:=(E1.trans E12).trans (Ext.new h3)
 have o3:=New.own (E1.trans E12) h3
 have n23:p2.block≠p3.block:=New.ne h3 (b1.pure E12).blk
 refine bx 7 (Box.of_new h3) rfl rfl (fun w4 b3 E34=>?_)
 have E4:Pure w w4:=E3.own o3 E34
 have b2:=((b1.pure E12).pure (Ext.new h3)).ext E34 n23
 intro p4 w5 h5
 have E5:Pure w w5:=E4.trans (Ext.new h5)
 have o4:=New.own E4 h5
 have n34:p3.block≠p4.block:=New.ne h5 b3.blk
 have c3:=b3.pure (Ext.new h5:Pure w4 w5)
 have c4:=Box.of_new h5
 have c2:=b2.pure (Ext.new h5:Pure w4 w5)
 refine ⟨s,c2.cell rfl,?_⟩
 have hsp:Sp.zM L (.mk k f t u x ks)=Sp.jY ⟨k,f,t,u,x,0,0⟩ 0 L ks:=by rw [Sp.zM]
 rw [hsp] at hK
 have hlen:s.len=ks.length:=by cases hT;assumption
 refine ⟨fun i w'=>∃j:Nat,i=j∧j≤ks.length∧∃(nd:Sp.Node) (L':Sp.Pool) (F':NP),Sp.jY ⟨k,f,t,u,x,0,0⟩ 0 L ks=Sp.jY nd j L' (ks.drop j)∧Sp.Ok L'∧jL w' p L' F'∧(∀b,F' b→F b∨w.heap.size≤b)∧¬ F' p3.block∧¬ F' p4.block∧Ext F w w'∧Box w' p3 (yV nd) 51∧Box w' p4 [.pointer (some (p3.add 5)),.pointer (some (p3.add 6))] 113,fun i _=>((ks.length:Int) - i).toNat,
  ⟨0,rfl,Nat.zero_le _,⟨k,f,t,u,x,0,0⟩,L,F,by simp,hok,hP.pure E5,fun b h=>.inl h,fun h=>by have:=hP.lt h;omega,fun h=>by have:=hP.lt h;omega,E5.pure,c3,c4⟩,?_⟩
 rintro _ wl ⟨j,rfl,hj,nd,L',F',heq,hok',hPl,hF',hn3,hn4,El,d3,d4⟩
 unfold m_V_l1
 refine ⟨fun h=>?_,fun h=>?_⟩
 ·have hlt:j<ks.length:=by have h:=of_decide_eq_true h;omega
  have hTl:TreeAt S wl s (.mk k f t u x ks):=hT.ext El (fun b hs hf=>hFS b hf hs)
  have hkid:∀i (h:i<ks.length),∃a r,At s i 6 a∧Row wl a (vN ks[i] r)∧TreeAt S wl r ks[i]:=by
   cases hTl with
   | mk _ _ _ _ _ _ _ rs len fit row kid=>exact fun i h=>let ⟨a,h1,_,h3⟩:=row i h;⟨a,rs i,h1,h3,kid i h⟩
  obtain ⟨a,r,hat,hrow,hTk⟩:=hkid j hlt
  refine ⟨a,hat,_,_,_,_,_,r,hrow,?_⟩
  intro p5 w6 h6
  have o5:=New.own (Ext.refl wl) h6
  refine bx 6 (Box.of_new h6) rfl rfl (fun w7 b5 E67=>?_)
  have E7:Pure wl w7:=Ext.own (Ext.new h6) o5 E67
  refine ⟨_,_,_,_,_,r,b5.row,?_⟩
  have hsz:w.heap.size≤wl.heap.size:=El.size
  refine (ih j hlt r w7 L' F' (xU hall hlt) (hTk.pure E7) (hPl.pure E7) hok' (fun b hb hs=>(hF' b hb).elim (fun h=>hFS b h hs) (fun h=>by have:=hSw b hs;omega)) (fun b hs=>by have:=hSw b hs;have:=E7.size;omega)).mono ?_
  rintro _ w8 ⟨r1,r2,rfl,hr,F8,hP8,E8,hF8⟩
  have e1:r1=(Sp.zM L' ks[j]).1:=congrArg Prod.fst hr
  have e2:r2=(Sp.zM L' ks[j]).2.1:=congrArg Prod.snd hr
  rw [List.drop_eq_getElem_cons hlt] at heq
  have hF8':∀b,F8 b→F b∨w.heap.size≤b:=fun b hb=>(hF8 b hb).elim (hF' b) (fun h=>by right;have:=E7.size;omega)
  have Ew8:Ext F w w8:=(El.thenPure E7).trans' E8 (fun i hi h=>(hF' i h).elim id (fun h=>by omega))
  refine ⟨_,_,rfl,fun h=>?_,fun h=>?_⟩
  ·have h:(Sp.zM L' ks[j]).2.1≠0:=by rw [← e2];simpa using h
   rw [gV h] at heq
   refine hK _ _ _ ?_
   rw [heq];exact ⟨by rw [e2],F8,hP8,Ew8,hF8'⟩
  ·have h:(Sp.zM L' ks[j]).2.1=0:=by rw [← e2];simpa using h
   rw [uO h] at heq
   have q3:=(d3.pure E7).ext E8 hn3
   have q4:=(d4.pure E7).ext E8 hn4
   have hs7:wl.heap.size≤w7.heap.size:=E7.size
   have n38:¬ F8 p3.block:=fun h=>(hF8 _ h).elim hn3 (fun h=>by have:=(d3.pure E7).lt;omega)
   have n48:¬ F8 p4.block:=fun h=>(hF8 _ h).elim hn4 (fun h=>by have:=(d4.pure E7).lt;omega)
   have hok8:=(Sp.kX ks[j] L' hok').1
   have fin : ∀ (w9 : World) (nd' : Sp.Node), nd' = (if j = 0 then { nd with a := (Sp.zM L' ks[j]).1 } else { nd with b := (Sp.zM L' ks[j]).1 }) → Box w9 p3 (yV nd') 51 → Ext (· = p3.block) w8 w9 →
     (∃j':Nat,IntKind.i64.wrap ((j:Int)+1)=j'∧j'≤ks.length∧∃(nd:Sp.Node) (L':Sp.Pool) (F':NP),Sp.jY ⟨k,f,t,u,x,0,0⟩ 0 L ks=Sp.jY nd j' L' (ks.drop j')∧Sp.Ok L'∧jL w9 p L' F'∧(∀b,F' b→F b∨w.heap.size≤b)∧¬ F' p3.block∧¬ F' p4.block∧Ext F w w9∧Box w9 p3 (yV nd) 51∧Box w9 p4 [.pointer (some (p3.add 5)),.pointer (some (p3.add 6))] 113)∧((ks.length:Int) - IntKind.i64.wrap ((j:Int)+1)).toNat<((ks.length:Int) - (j:Int)).toNat:=by
    intro w9 nd' hnd B9 E9
    rw [i64 (by omega) (by omega)]
    refine ⟨⟨j+1,by omega,hlt,nd',_,F8,by rw [heq,hnd],hok8,hP8.ext E9 (fun b hb e=>n38 (e▸hb)),hF8',n38,n48,Ew8.trans' E9 (fun i hi h=>by subst h;omega),B9,q4.ext E9 n34.symm⟩,by omega⟩
   have hj2:j=0∨j=1:=by omega
   rcases hj2 with rfl | rfl
   ·refine ⟨p4,⟨by omega,by simp,p4,rfl,rfl⟩,some (p3.add 5),q4.cell0,p3.add 5,rfl,q3.canW (by simp [yV]),?_⟩
    intro w9 hw9
    refine fin w9 _ rfl ?_ ?_
    ·rw [hw9,e1];exact q3.set 5 _
    ·rw [hw9];have:=Ext.setCell (w:=w8) (p3.add 5) (.int .i64 r1);rw [jK] at this;exact this
   ·refine ⟨p4.add 1,⟨by omega,by simp,p4,rfl,rfl⟩,some (p3.add 6),q4.cell rfl,p3.add 6,rfl,q3.canW (by simp [yV]),?_⟩
    intro w9 hw9
    refine fin w9 _ rfl ?_ ?_
    ·rw [hw9,e1];exact q3.set 6 _
    ·rw [hw9];have:=Ext.setCell (w:=w8) (p3.add 6) (.int .i64 r1);rw [jK] at this;exact this
 ·have hge:j=ks.length:=by have h:=of_decide_eq_false h;omega
  rw [hge,List.drop_length,Sp.jY] at heq
  obtain ⟨k0,f0,t0,u0,x0,a0,b0⟩:=nd
  refine ⟨_,_,_,_,_,_,_,d3.row,?_⟩
  refine (yT p k0 f0 t0 u0 x0 a0 b0 wl hPl hok').mono ?_
  rintro _ w9 ⟨r1,r2,rfl,hr,F9,hP9,E9,hF9⟩
  have hsz:w.heap.size≤wl.heap.size:=El.size
  refine ⟨_,_,rfl,hK _ _ _ ?_⟩
  rw [heq]
  exact ⟨hr,F9,hP9,El.trans' E9 (fun i hi h=>(hF' i h).elim id (fun h=>by omega)),fun b hb=>(hF9 b hb).elim (hF' b) (fun h=>by right;omega)⟩
theorem tW (t:Sp.Tree):∀i n:Int,(Sp.zQ i n t).1=0→Sp.Tree.two t:=by
 induction t using Sp.Tree.ind with
 | h k f t u x ks ih =>
  have hA:∀(ks:List Sp.Tree),(∀i (hi:i<ks.length),∀j n:Int,(Sp.zQ j n ks[i]).1=0→Sp.Tree.two ks[i])→∀i e n:Int,(Sp.zC i e n ks).1=0→e=0∧tG ks:=by
   intro ks;induction ks with
   | nil=>intro _ i e n h;exact ⟨by simpa [Sp.zC] using h,trivial⟩
   | cons t ts iht =>
    intro hh i e n h
    unfold Sp.zC at h
    split at h
    ·rename_i he
     have:=iht (fun i hi=>hh (i+1) (by simpa using hi)) _ _ _ h
     exact ⟨he,hh 0 (by simp) i n this.1,this.2⟩
    ·rename_i he;exact absurd h he
  intro i n h
  unfold Sp.zQ at h
  split at h
  ·cases h
  ·split at h
   ·cases h
   ·have:=hA ks ih _ _ _ h
    refine jDN.2 ⟨?_,this.2⟩
    have ho:=this.1
    unfold Sp.vH at ho
    simp only at ho
    have hk:=Sp.gR k
    by_cases hp:Sp.jW ⟨k,f,t,u,x,0,0⟩=0
    ·rw [if_pos hp] at ho
     by_cases hl:(ks.length:Int)≠(Sp.shapeOf k).kids
     ·rw [if_pos hl] at ho;simp at ho
     ·omega
    ·rw [if_neg hp,if_neg hp] at ho;exact absurd ho hp
theorem c_Of {S:NP} (p:Addr) (t:Sp.Tree) (s:Sl) (w:World) {L:Sp.Pool} {F:NP} (hT:TreeAt S w s t) (hP:jL w p L F) (hok:Sp.Ok L) (hFS:∀b,F b→¬ S b) (hSw:∀b,S b→b<w.heap.size) :
  Calls prog 18 #[.pointer (some p),.agg (vN t s).toArray] w
   (fun e w'=>∃r1:Int,∃r2:Int,e=.returned (.tuple #[.int .i64 r1,.int .i64 r2])∧((r1,r2)=((Sp.of L t).1,(Sp.of L t).2.1)∧∃F',jL w' p (Sp.of L t).2.2 F'∧Ext F w w'∧∀b,F' b→F b∨w.heap.size≤b)):=by
 obtain ⟨k,f,to,u,x,ks⟩:=t
 suffices key:∀K:Int→Int→WP,(∀r1 r2 w',((r1,r2)=((Sp.of L (.mk k f to u x ks)).1,(Sp.of L (.mk k f to u x ks)).2.1)∧∃F',jL w' p (Sp.of L (.mk k f to u x ks)).2.2 F'∧Ext F w w'∧∀b,F' b→F b∨w.heap.size≤b)→K r1 r2 w')→m_J1 (some p) k f to u x s w K from
  w_J1 _ _ _ _ _ _ _ w _ (key _ (fun _ _ _ h=>h))
 intro K hK
 unfold m_J1
 intro p2 w1 h1
 have b1:=Box.of_new h1
 have E1:Pure w w1:=Ext.new h1
 refine Br.f rfl ?_
 intro p3 w2 h2
 have E2:Pure w w2:=E1.trans (Ext.new h2)
 have o3:=New.own E1 h2
 have c3:=Box.of_new h2
 have n23:p2.block≠p3.block:=New.ne h2 b1.blk
 refine ⟨c3.canW0 (by simp),?_⟩
 intro w3 hw3
 have c3':Box w3 p3 [.int .i64 0] 3:=by rw [hw3];exact c3.set0
 have E23:Ext (·=p3.block) w2 w3:=by rw [hw3];exact Ext.setCell p3 _
 clear hw3
 have E3:Pure w w3:=E2.own o3 E23
 have b3:=(b1.pure (Ext.new h2:Pure w1 w2)).ext E23 n23
 refine ⟨_,_,_,_,_,s,b3.row,?_⟩
 generalize ht:Sp.Tree.mk k f to u x ks=t at *
 have htr:(Value.agg #[.int .i64 k,.int .i64 f,.int .i64 to,.int .u64 u,.string x,s.v])=.agg (vN t s).toArray:=by rw [← ht];rfl
 rw [htr]
 refine (jHY p3 (fun h=>by have:=hSw _ h;omega) _ t s 0 0 w3 (by omega) (by omega) (hT.pure E3) c3').mono ?_
 rintro _ w4 ⟨r1,rfl,rfl,_,E34⟩
 have E4:Pure w w4:=E3.own o3 E34
 have b4:=b3.ext E34 n23
 have jCS:∀w',Pure w w'→∃F',jL w' p L F'∧Ext F w w'∧∀b,F' b→F b∨w.heap.size≤b:=fun w' E=>⟨F,hP.pure E,E.pure,fun _ h=>.inl h⟩
 refine ⟨_,rfl,fun h=>?_,fun h=>?_⟩
 ·have h:(Sp.zQ 0 0 t).1≠0:=by simpa using h
  have:Sp.of L t=(0,(Sp.zQ 0 0 t).1,L):=by rw [Sp.of,if_pos h]
  refine hK _ _ _ ?_
  rw [this];exact ⟨rfl,jCS _ E4⟩
 ·have h:(Sp.zQ 0 0 t).1=0:=by simpa using h
  have hP4:=hP.pure E4
  obtain ⟨s0,m0,hS0,hF0⟩:=id hP4
  have hl0:s0.len=L.length:=by rw [hS0.rows.len];simp
  refine ⟨p,rfl,s0,hS0.box.cell0,_,_,_,_,_,s,b4.row,?_⟩
  rw [htr]
  refine (c_grow p t s w4 L F (tW t _ _ h) (hT.pure E4) hP4 hok hFS (fun b hb=>by have:=hSw b hb;have:=E4.size;omega)).mono ?_
  rintro _ w5 ⟨r1,r2,rfl,hr,F5,hP5,E45,hF5⟩
  have e1:r1=(Sp.zM L t).1:=congrArg Prod.fst hr
  have e2:r2=(Sp.zM L t).2.1:=congrArg Prod.snd hr
  have hs4:w.heap.size≤w4.heap.size:=E4.size
  have E5:Ext F w w5:=E4.pure.trans E45
  have hF5':∀b,F5 b→F b∨w.heap.size≤b:=fun b hb=>(hF5 b hb).elim .inl (fun h=>.inr (by omega))
  refine ⟨_,_,rfl,fun h'=>?_,fun h'=>?_⟩
  ·have h':(Sp.zM L t).2.1≠0:=by rw [← e2];simpa using h'
   obtain ⟨hok5,M,hM⟩:=Sp.kX t L hok
   rw [hl0]
   refine (c_cut p L.length w5 hP5 hok5 (by rw [hM];simp)).mono ?_
   rintro _ w6 ⟨rfl,hP6,E56⟩
   have:Sp.of L t=(0,(Sp.zM L t).2.1,L):=by rw [Sp.of,if_neg (by simp [h]),if_pos h']
   refine ⟨rfl,hK _ _ _ ?_⟩
   rw [this]
   rw [hM,List.take_left] at hP6
   exact ⟨by rw [e2],F5,hP6,E5.trans' E56 (fun i hi h=>(hF5' i h).elim id (fun h=>by omega)),hF5'⟩
  ·have h':(Sp.zM L t).2.1=0:=by rw [← e2];simpa using h'
   have:Sp.of L t=((Sp.zM L t).1,0,(Sp.zM L t).2.2):=by rw [Sp.of,if_neg (by simp [h]),if_neg (by simp [h'])]
   refine hK _ _ _ ?_
   rw [this]
   exact ⟨by rw [e1],F5,hP5,E5,hF5'⟩
end Go.Proofs
end
section
open Go Go.SE
namespace Go.Proofs
attribute [local irreducible] wpL wpX opE wpE Calls
end Go.Proofs
end
section
open Go Go.SE
namespace Go.Sp
end Go.Sp
namespace Go.Proofs
attribute [local irreducible] Calls
theorem TreeAt.leaf {S:NP} {w:World} {k f t u:Int} {x:ByteArray}:TreeAt S w Sl.nil (.mk k f t u x []) :=
 .mk k f t u x [] Sl.nil (fun _=>Sl.nil) rfl (by simp) (fun i h=>by simp at h) (fun i h=>by simp at h)
theorem TreeAt.one {S:NP} {w:World} {k f t u:Int} {x:ByteArray} {p:Addr} {A:Sp.Tree} {sa:Sl} {T:TypeId} (hB:Box w p (vN A sa) T) (hS:S p.block) (hA:TreeAt S w sa A):TreeAt S w ⟨some p,1,1⟩ (.mk k f t u x [A]):=by
 refine .mk k f t u x [A] _ (fun _=>sa) rfl (by simp) (fun i h=>?_) (fun i h=>?_)
 ·have:i=0:=by simpa using h
  subst this;exact ⟨p,⟨by omega,by simp,p,rfl,rfl⟩,hS,hB.row⟩
 ·have:i=0:=by simpa using h
  subst this;exact hA
theorem TreeAt.pair {S:NP} {w:World} {k f t u:Int} {x:ByteArray} {p:Addr} {A B:Sp.Tree} {sa sb:Sl} {T:TypeId} (hB:Box w p (vN A sa++vN B sb) T) (hS:S p.block) (hA:TreeAt S w sa A) (hB2:TreeAt S w sb B):TreeAt S w ⟨some p,2,2⟩ (.mk k f t u x [A,B]):=by
 refine .mk k f t u x [A,B] _ (fun i=>if i=0 then sa else sb) rfl (by simp) (fun i h=>?_) (fun i h=>?_)
 ·have:i=0∨i=1:=by simp at h;omega
  rcases this with rfl | rfl
  ·refine ⟨p,⟨by omega,by simp,p,rfl,rfl⟩,hS,fun i hi=>?_⟩;have:=hB.row i (by simp [vN] at hi ⊢;omega);have hi':i<6:=by simpa [vN] using hi
   rw [this];exact List.getElem?_append_left (by simp [vN];omega)
  ·refine ⟨p.add (1*6),⟨by omega,by simp,p,rfl,rfl⟩,by rw [jK];exact hS,fun i hi=>?_⟩;have hi':i<6:=by simpa [vN] using hi
   have:=hB.row (6+i) (by simp [vN];omega);rw [vX,this,List.getElem?_append_right (by simp [vN])];simp [vN]
 ·have:i=0∨i=1:=by simp at h;omega
  rcases this with rfl | rfl
  ·exact hA
  ·exact hB2
abbrev RetT (n0:Nat) (w:World) (T:Sp.Tree) (e:Ending) (w':World):Prop:=∃s,e=.returned (.agg (vN T s).toArray)∧TreeAt (n0≤·) w' s T∧Pure w w'
end Go.Proofs
end
section
open Go Go.SE
namespace Go.Sp
end Go.Sp
namespace Go.Proofs
attribute [local irreducible] Calls
end Go.Proofs
end
section
namespace Go.Sp
theorem jEP {L:Pool} {n:Node} {i:Nat} (h:find L n=some i):∃hi:i<L.length,L[i].node=n:=by
 unfold find at h;rw [List.findIdx?_eq_some_iff_getElem] at h;obtain ⟨hi,h1,_⟩:=h;exact ⟨hi,by simpa using h1⟩
theorem tV {L:Pool} {n:Node} (h:(make L n).2.1=0):inP (make L n).2.2 (make L n).1=true∧jD (make L n).2.2 (make L n).1=n∧(check L n).2.2=0:=by
 unfold make at h ⊢;simp only at h ⊢;by_cases hc:(check L n).2.2≠0
 ·rw [if_pos hc] at h;exact absurd h hc
 ·rw [if_neg hc] at h ⊢;have hc:(check L n).2.2=0:=by simpa using hc
  cases hf:find L n with
  | some i =>
   obtain ⟨hi,hn⟩:=jEP hf
   simp only
   exact ⟨kG.2 ⟨by omega,by omega⟩,by rw [yN hi,hn],hc⟩
  | none =>
   rw [hf] at h
   simp only at h ⊢
   split at h
   ·simp at h
   ·rename_i hl
    rw [if_neg hl]
    simp only
    have hi:L.length<(L++[(⟨n,(check L n).1,(check L n).2.1⟩:Ent)]).length:=by simp
    refine ⟨kG.2 ⟨by omega,by simp⟩,?_,hc⟩
    rw [yN hi]
    simp
theorem jFW (L:Pool) (n:Node):∃M,(make L n).2.2=L++M:=uF L n
inductive Good:Tree→Prop
 | mk (k f t u:Int) (x:ByteArray) (ks:List Tree) (own:vH ⟨k,f,t,u,x,0,0⟩ ks.length=0) (kids:∀i (hi:i<ks.length),Good ks[i]):Good (.mk k f t u x ks)
theorem jCW (t:Tree):∀i n:Int,(zQ i n t).1=0→Good t:=by
 induction t using Tree.ind with
 | h k f t u x ks ih =>
  have hA:∀(ks:List Tree),(∀i (hi:i<ks.length),∀j n:Int,(zQ j n ks[i]).1=0→Good ks[i])→∀i e n:Int,(zC i e n ks).1=0→e=0∧∀i (hi:i<ks.length),Good ks[i]:=by
   intro ks;induction ks with
   | nil=>intro _ i e n h;exact ⟨by simpa [zC] using h,fun i hi=>by simp at hi⟩
   | cons t ts iht =>
    intro hh i e n h
    unfold zC at h
    split at h
    ·rename_i he
     have:=iht (fun i hi=>hh (i+1) (by simpa using hi)) _ _ _ h
     refine ⟨he,fun j hj=>?_⟩
     cases j with
     | zero=>exact hh 0 (by simp) i n this.1
     | succ j=>exact this.2 j (by simpa using hj)
    ·rename_i he;exact absurd h he
  intro i n h
  unfold zQ at h
  split at h
  ·cases h
  ·split at h
   ·cases h
   ·have:=hA ks ih _ _ _ h
    exact .mk _ _ _ _ _ _ this.1 this.2
theorem Good.inv {k f t u:Int} {x:ByteArray} {ks:List Tree} (h:Good (.mk k f t u x ks)):jW ⟨k,f,t,u,x,0,0⟩=0∧(ks.length:Int)=(shapeOf k).kids∧jV (shapeOf k) ⟨k,f,t,u,x,0,0⟩=0∧∀i (hi:i<ks.length),Good ks[i]:=by
 cases h with
 | mk _ _ _ _ _ _ own kids =>
  unfold vH at own
  simp only at own
  by_cases hp:jW ⟨k,f,t,u,x,0,0⟩=0
  ·rw [if_pos hp] at own
   by_cases hl:(ks.length:Int)≠(shapeOf k).kids
   ·rw [if_pos hl] at own;simp at own
   ·rw [if_neg hl] at own
    simp at own
    exact ⟨hp,by simpa using hl,own,kids⟩
  ·rw [if_neg hp,if_neg hp] at own;exact absurd own hp
theorem jEO (x:Tree):∀L,Wf L→Good x→(zM L x).2.1=0→inP (zM L x).2.2 (zM L x).1=true∧qD (zM L x).2.2 (zM L x).1=x:=by
 induction x using Tree.ind with
 | h k f t u x ks ih =>
  intro L hW hG h0
  obtain ⟨_,hlen,_,hk⟩:=hG.inv
  have fin:∀(n:Node) (L':Pool),Wf L'→n.kind=k→n.frm=f→n.to=t→n.num=u→n.text=x→(make L' n).2.1=0→(jR n).map (qD L')=ks→inP (make L' n).2.2 (make L' n).1=true∧qD (make L' n).2.2 (make L' n).1=.mk k f t u x ks:=by
   intro n L' hW' e1 e2 e3 e4 e5 hm hks;obtain ⟨hin,hnode,hc⟩:=tV hm;refine ⟨hin,?_⟩;rw [gC (oQ hW' n) hin,hnode,e1,e2,e3,e4,e5,← hks];congr 1;refine List.map_congr_left (fun q hq=>?_);obtain ⟨M,hM⟩:=jFW L' n;have hq':=(lK hc).2.2.2.2.1 q hq;rw [hM];have hwf:=oQ hW' n;rw [hM] at hwf;exact xV hwf _ q rfl hq'
  rw [zM] at h0 ⊢
  match ks,ih,hlen,hk,fin,h0 with
  | [],_,hlen,_,fin,h0 =>
   rw [jY] at h0 ⊢
   have hz:(shapeOf k).kids=0:=by simpa using hlen.symm
   exact fin _ L hW rfl rfl rfl rfl rfl h0 (by simp [jR,hz])
  | [a],ih,hlen,hk,fin,h0 =>
   have hz:(shapeOf k).kids=1:=by simpa using hlen.symm
   rw [jY] at h0 ⊢
   by_cases ha:(zM L a).2.1≠0
   ·rw [if_pos ha] at h0;exact absurd h0 ha
   ·rw [if_neg ha] at h0 ⊢
    have ha:(zM L a).2.1=0:=by simpa using ha
    obtain ⟨i1,t1⟩:=ih 0 (by simp) L hW (hk 0 (by simp)) ha
    simp only [List.getElem_cons_zero] at i1 t1
    rw [jY] at h0 ⊢
    exact fin _ _ (oV a L hW) rfl rfl rfl rfl rfl h0 (by simp [jR,hz,t1])
  | [a,b],ih,hlen,hk,fin,h0 =>
   have hz:(shapeOf k).kids=2:=by simpa using hlen.symm
   rw [jY] at h0 ⊢
   by_cases ha:(zM L a).2.1≠0
   ·rw [if_pos ha] at h0;exact absurd h0 ha
   ·rw [if_neg ha] at h0 ⊢
    have ha:(zM L a).2.1=0:=by simpa using ha
    have hW1:=oV a L hW
    obtain ⟨i1,t1⟩:=ih 0 (by simp) L hW (hk 0 (by simp)) ha
    simp only [List.getElem_cons_zero] at i1 t1
    rw [jY] at h0 ⊢
    by_cases hb:(zM (zM L a).2.2 b).2.1≠0
    ·rw [if_pos hb] at h0;exact absurd h0 hb
    ·rw [if_neg hb] at h0 ⊢
     have hb:(zM (zM L a).2.2 b).2.1=0:=by simpa using hb
     have hW2:=oV b _ hW1
     obtain ⟨i2,t2⟩:=ih 1 (by simp) (zM L a).2.2 hW1 (hk 1 (by simp)) hb
     simp only [List.getElem_cons_succ,List.getElem_cons_zero] at i2 t2
     obtain ⟨M,hM⟩:=(kX b (zM L a).2.2 hW1.ok).2
     have t1':qD (zM (zM L a).2.2 b).2.2 (zM L a).1=a:=by
      rw [hM] at hW2 ⊢;exact (xV hW2 _ _ rfl i1).trans t1
     rw [jY] at h0 ⊢
     exact fin _ _ hW2 rfl rfl rfl rfl rfl h0 (by simp [jR,hz,t1',t2])
  | a :: b :: c :: ks,_,hlen,_,_,_ =>
   have:=gR k
   simp only [List.length_cons] at hlen
   omega
theorem jHP {L:Pool} (hW:Wf L) {x:Tree} (h:(of L x).2.1=0):inP (of L x).2.2 (of L x).1=true∧qD (of L x).2.2 (of L x).1=x∧Good x:=by
 unfold of at h ⊢;by_cases h1:(zQ 0 0 x).1≠0
 ·rw [if_pos h1] at h;exact absurd h h1
 ·rw [if_neg h1] at h ⊢;have hg:=jCW x 0 0 (by simpa using h1);by_cases h2:(zM L x).2.1≠0
  ·rw [if_pos h2] at h;exact absurd h h2
  ·rw [if_neg h2] at h ⊢;have:=jEO x L hW hg (by simpa using h2);exact ⟨this.1,this.2,hg⟩
end Go.Sp
end
section
namespace Go.Sp
mutual
def cnt:Tree→Nat
 | .mk _ _ _ _ _ ks=>1+cntAll ks
def cntAll:List Tree→Nat
 | []=>0
 | t :: ts=>cnt t+cntAll ts
end
theorem jHX (t:Tree):1≤cnt t:=by cases t;simp [cnt]
theorem lI:∀ks:List Tree,ks.length≤cntAll ks
 | []=>by simp
 | t :: ts=>by have:=jHX t;have:=lI ts;simp only [cntAll,List.length_cons];omega
theorem lJ:∀{ks:List Tree} {i:Nat} (hi:i<ks.length),cnt ks[i]≤cntAll ks
 | t :: ts,0,_=>by simp [cntAll]
 | t :: ts,i+1,hi=>by
  have:=lJ (ks:=ts) (i:=i) (by simpa using hi);simp only [cntAll,List.getElem_cons_succ];omega
mutual
def yB (most:Int):Tree→Int
 | .mk _ _ _ _ _ ks=>kF most 1 ks
def kF (most n:Int):List Tree→Int
 | []=>n
 | t :: ts=>if n≤most then kF most (n+yB (most - n) t) ts else n
end
theorem gL (t:Tree):∀most:Int,0≤most→1≤yB most t∧yB most t≤most+1∧(yB most t≤most→(cnt t:Int)=yB most t):=by
 induction t using Tree.ind with
 | h k f tt u x ks ih =>
  have hA : ∀ (ks : List Tree), (∀ i (hi : i < ks.length), ∀ most : Int, 0 ≤ most → 1 ≤ yB most ks[i] ∧ yB most ks[i] ≤ most + 1 ∧ (yB most ks[i] ≤ most → (cnt ks[i] : Int) = yB most ks[i])) →
    ∀most n:Int,1≤n→n≤most+1→n≤kF most n ks∧kF most n ks≤most+1∧(kF most n ks≤most→n+(cntAll ks:Int)=kF most n ks):=by
   intro ks
   induction ks with
   | nil=>intro _ most n h1 h2;simp [kF,cntAll,h2]
   | cons t ts iht =>
    intro hh most n h1 h2
    unfold kF
    by_cases hn:n≤most
    ·rw [if_pos hn]
     have h0:=hh 0 (by simp) (most - n) (by omega)
     simp only [List.getElem_cons_zero] at h0
     have h3:=iht (fun i hi=>hh (i+1) (by simpa using hi)) most (n+yB (most - n) t) (by omega) (by omega)
     refine ⟨by omega,h3.2.1,fun h=>?_⟩
     have h4:=h3.2.2 h
     have h5:=h0.2.2 (by omega)
     simp only [cntAll];omega
    ·rw [if_neg hn];exact ⟨Int.le_refl _,h2,fun h=>absurd h hn⟩
  intro most hm
  have:=hA ks ih most 1 (by omega) (by omega)
  simp only [yB,cnt]
  refine ⟨this.1,this.2.1,fun h=>?_⟩
  have:=this.2.2 h
  omega
mutual
def jCS:Tree→Tree→Bool
 | .mk k f t u x ks,.mk k' f' t' u' x' ks'=>decide (k=k') && decide (f=f') && decide (t=t') && decide (u=u') && decide (x=x') && jDZ ks ks'
def jDZ:List Tree→List Tree→Bool
 | [],[]=>true
 | t :: ts,t' :: ts'=>jCS t t' && jDZ ts ts'
 | _,_=>false
end
end Go.Sp
end
section
namespace Go.Sp
end Go.Sp
end
section
open Go Go.SE
namespace Go.Proofs
attribute [local irreducible] wpL wpX opE wpE Calls
end Go.Proofs
end
section
open Go Go.SE
namespace Go.Proofs
attribute [local irreducible] Calls
section
variable {S:NP} (w:World) (hS:∀b,w.heap.size≤b→S b)
include hS
end
end Go.Proofs
end
section
open Go Go.SE
namespace Go.Sp
end Go.Sp
end
section
namespace Go.Sp
end Go.Sp
end
section
open Go Go.SE
namespace Go.Sp
theorem jGH {L:Pool} {n:Node} (hp:jW n=0) (ha:(shapeOf n.kind).kids<1→n.a=0) (hb:(shapeOf n.kind).kids<2→n.b=0) (hf:jV (shapeOf n.kind) n=0) (hk:∀k∈jR n,inP L k=true) :
  check L n=if 1+((jR n).map (sizeOf L)).sum>4096∨(jR n).foldl (fun d t=>max d (depthOf L t)) 0+1>64 then (0,0,52) else (1+((jR n).map (sizeOf L)).sum,(jR n).foldl (fun d t=>max d (depthOf L t)) 0+1,0):=by
 unfold check
 simp only
 rw [if_neg (by simp [hp]),if_neg (fun h=>?_),if_neg (by simp [hf]),if_neg (fun h=>?_)]
 ·obtain ⟨k,hk1,hk2⟩:=List.any_eq_true.1 h
  rw [hk k hk1] at hk2;cases hk2
 ·rw [Bool.or_eq_true,Bool.and_eq_true,Bool.and_eq_true] at h
  rcases h with ⟨h1,h2⟩ | ⟨h1,h2⟩
  ·rw [ha (of_decide_eq_true h1)] at h2;simp at h2
  ·rw [hb (of_decide_eq_true h1)] at h2;simp at h2
theorem jFV {L:Pool} (hW:Wf L) {t:Int} (ht:inP L t=true):make L (jD L t)=(t,0,L):=by
 obtain ⟨h1,h2,h3,h4,h5,h6,h7⟩:=hW.node ht;have hc:=jGH h1 h2 h3 h4 (fun k hk=>(h5 k hk).1);rw [← h6,← h7] at hc;obtain ⟨i,hi,rfl⟩:=jBY ht;have hsz:=hW.ok.size L[i] (List.getElem_mem hi);have hdp:=hW.ok.depth L[i] (List.getElem_mem hi);have e1:sizeOf L ((i:Int)+1)=L[i].size:=by simp [sizeOf,lF hi]
 have e2:depthOf L ((i:Int)+1)=L[i].depth:=by simp [depthOf,lF hi]
 rw [if_neg (by omega)] at hc;have hfd:find L (jD L ((i:Int)+1))=some i:=by rw [yN hi];exact Go.Proofs.jEQ hW.ok (List.getElem?_eq_getElem hi)
 unfold make;simp only [hc,hfd];rw [if_neg (by simp)]
end Go.Sp
end
section
open Go Go.SE
open Go.IntKind renaming i64 → q6
namespace Go.Proofs
open Try
set_option maxRecDepth 100000
set_option maxHeartbeats 4000000
attribute [local irreducible] wpL wpX opE wpE Calls
def m_B1_l1 (s1:Sl) (v1 x1:Int) (wl1:World) (Kc1:Int→WP) (K:Int→WP):Prop :=Br (decide (x1<(s1.len:Int))) (∃a1:Addr,At s1 x1 1 a1∧∃v2,wl1.cell? a1=some (vi v2)∧Br (v1 == v2) (K x1 wl1) (Kc1 (q6.wrap (x1+1)) wl1)) (K (-1) wl1)
def m_B1 (s1:Sl) (v1:Int) (w0:World) (K:Int→WP):Prop :=∃(I1:Int→WP) (mu1:Int→World→Nat),I1 0 w0∧∀(x1:Int) (wl1:World),I1 x1 wl1→m_B1_l1 s1 v1 x1 wl1 (fun y'0 w'=>I1 y'0 w'∧mu1 y'0 w'<mu1 x1 wl1) K
theorem w_B1 (s1 v1 w0 K) (h:m_B1 s1 v1 w0 K):
  Calls prog 47 #[s1.v,(vi v1)] w0 (fun e w'=>∃r1,e=.returned (vi r1)∧K r1 w'):=by
 refine cw (args:=[s1.v,(vi v1)]) func47 ntmps47 (eg (q0 (vi 0) (ln (jA (eg (q0 s1.v (q0 (vi (s1.len:Int)) (q0 (vi 0) ?_))))))))
 refine ln (jG ?_)
 obtain ⟨I1,mu1,h0,hr⟩:=h
 refine zH (σ:=Int×World) (fun s ρ w=>w=s.2∧Has ρ [(0,s1.v),(1,(vi v1)),(7,(vi (s1.len:Int))),(8,(vi s.1))]∧I1 s.1 s.2) (fun s=>mu1 s.1 s.2) (0,w0) ⟨rfl,hm,h0⟩ ?_
 rintro ⟨x1,wl1⟩ ρ w ⟨hw,hH,hI⟩
 dsimp only at hw hH;subst w
 have h:=hr x1 wl1 hI
 refine jN hH (eg (q (ln (jA (cbr h ?_ ?_)))))<;>intro h
 refine jC (jI (jA (jG (eg (qb (ln (eg (qc (qi (runUnderlying39 _) (sizeOf32 _) h fun a1 h=>ql (isAgg32 _) h fun v2 h=>q (ln (cbr h ?_ ?_)))))))))))<;>intro h
 refine eg (qb (ln (er (qX (zI (zI (qX (zI (rs1 results47 ⟨x1,rfl,h⟩)))))))))
 refine jC (qB (jI (rg (qb (ln ⟨((q6.wrap (x1+1)),wl1),⟨rfl,hm,h.1⟩,h.2⟩)))))
 refine zB (vG (vG (kQ (jI (eg (q0 (vi (-1)) (ln (er (rs1 results47 ⟨(-1),rfl,h⟩)))))))))
def m_G2 (s1:Sl) (v1:Int) (w0:World) (K:Bool→WP):Prop :=Calls prog 47 #[s1.v,(vi v1)] w0 (fun e w1=>∃r1,e=.returned (vi r1)∧K (decide (r1≥0)) w1)
theorem w_G2 (s1 v1 w0 K) (h:m_G2 s1 v1 w0 K):
  Calls prog 35 #[s1.v,(vi v1)] w0 (fun e w'=>∃r2,e=.returned (vb r2)∧K r2 w'):=by
 refine cw (args:=[s1.v,(vi v1)]) func35 ntmps35 (eg (q0 (vb false) (ln (eg (q0 s1.v (q0 (vi v1) ?_))))))
 refine sc call47 (h.mono fun e w1 ⟨r1,k,h⟩=>⟨_,k,?_⟩)
 refine qb (ln (er (rs1 results35 ⟨(decide (r1≥0)),rfl,h⟩)))
def m_H2 (s1:Sl) (w0:World) (K:Sl→WP):Prop :=∃b1,(Go.binOp .eql 39 s1.v Sl.nil.v).run prog w0=.ok (vb b1) w0∧Br b1 (K Sl.nil w0) (∀p1 w1,New w0 (.cells #[] 32) p1 w1→∃s2:Sl,∃w2:World,(Builtin.append_ #[39,39] 39 #[(Sl.mk (some p1) 0 0).v,s1.v]).run prog w1=.ok s2.v w2∧K s2 w2)
theorem w_H2 (s1 w0 K) (h:m_H2 s1 w0 K):
  Calls prog 49 #[s1.v] w0 (fun e w'=>∃r1:Sl,e=.returned r1.v∧K r1 w'):=by
 refine cw (args:=[s1.v]) func49 ntmps49 (eg (q0 Sl.nil.v (ln (jA (eg (q0 s1.v ?_))))))
 obtain ⟨b1,hv2,h⟩:=h
 refine q2 (vb b1) (x_bin (by kernel_rfl) (by kernel_rfl) (by kernel_rfl) hv2) (ln (cbr h ?_ ?_))<;>intro h
 refine eg (q (ln (er (zI (rs1 results49 ⟨Sl.nil,rfl,h⟩)))))
 refine jC (jI (eg (nw4 (fun p=>(Sl.mk (some p) 0 0).v) h fun p1 w1 h=>q ?_)))
 obtain ⟨s2,w2,hv1,h⟩:=h
 refine st (v:=s2.v) (jM rfl) (zD (args:=#[(Sl.mk (some p1) 0 0).v,s1.v]) (by kernel_rfl) (fun _=>rfl) hv1) (q0 s2.v (ln (er (rs1 results49 ⟨s2,rfl,h⟩))))
end Go.Proofs
end
section
open Go Go.SE
namespace Go.Proofs
open Try
attribute [local irreducible] Calls
def tmr (ts:List Int):List (List Value):=ts.map fun t=>[.int .i64 t]
theorem zO (ts:List Int):(tmr ts).length=ts.length:=by simp [tmr]
theorem jHK (ts:List Int):∀q∈tmr ts,q.all zL=true:=by intro q hq;obtain ⟨t,_,rfl⟩:=List.mem_map.1 hq;rfl
theorem tmr_sz (ts:List Int):∀q∈tmr ts,q.length=1:=by intro q hq;obtain ⟨t,_,rfl⟩:=List.mem_map.1 hq;rfl
theorem tI:SlType prog 39 32 1 8:=by
 refine ⟨underlying39,⟨t32,_,by kernel_rfl,(by kernel_rfl:t32.zero=some (.int .i64 0)),by kernel_rfl,by kernel_rfl,rfl⟩,by omega⟩
structure RetO (w:World) (e:TypeId) (sz:Nat) (rs:List (List Value)) (s:Sl) (w':World):Prop where
 rows:Rws w' e sz s rs
 own:∀b,s.blk b→w.heap.size≤b
 pure:Pure w w'
theorem RetO.kept {w:World} {H:NP} {e:TypeId} {sz:Nat} {rs:List (List Value)} {s:Sl} {w':World} (h:RetO w e sz rs s w'):Kept H w w':=h.pure.keptP
theorem jDS {S:NP} {w:World} {s:Sl} {ts:List Int} (h:Lst S w 1 s (tmr ts)) {j:Nat} (hj:j<ts.length):∃a,At s j 1 a∧S a.block∧w.cell? a=some (.int .i64 ts[j]):=by
 obtain ⟨a,h1,h2,h3⟩:=h.at_ j (by simpa [tmr] using hj);exact ⟨a,h1,h2,qP (by simpa [tmr] using h3)⟩
theorem yZ {P:Program} (w:World) (d:Nat) {t e:TypeId} (a:Option Addr) (l c:Nat) (h:P.underlying t=some (.slice e)):(Op.equalIn (d+1) t (.slice a l c) (.slice none 0 0)).run P w=.ok a.isNone w:=by
 cases a <;> simp [Op.equalIn,run_underlying h]
theorem oE {P:Program} (w:World) {t e:TypeId} (a:Option Addr) (l c:Nat) (h:P.underlying t=some (.slice e)):(Go.binOp .eql t (.slice a l c) (.slice none 0 0)).run P w=.ok (.bool a.isNone) w:=by
 simp only [Go.binOp];simp [Op.equal,Op.maxDepth,yZ w 9999 a l c h]
theorem jEU {S:NP} (s:Sl) (ts:List Int) (v:Int) (w0:World) (hs:Lst S w0 1 s (tmr ts)) (hn:ts.length≤1000000) :
  Calls prog 47 #[s.v,.int .i64 v] w0 (fun e w'=>∃r:Int,e=.returned (.int .i64 r)∧((decide (r≥0)=decide (v∈ts))∧w'=w0)):=by
 refine w_B1 _ _ w0 (fun r w'=>(decide (r≥0)=decide (v∈ts))∧w'=w0) ?_
 unfold m_B1
 have hl:s.len=ts.length:=by rw [hs.len,zO]
 refine ⟨fun i w'=>w'=w0∧∃j:Nat,i=j∧j≤ts.length∧v ∉ ts.take j,fun i _=>((ts.length:Int) - i).toNat,⟨rfl,0,rfl,Nat.zero_le _,by simp⟩,?_⟩
 rintro _ _ ⟨rfl,j,rfl,hj,hv⟩
 unfold m_B1_l1
 refine ⟨fun h=>?_,fun h=>?_⟩
 ·have hlt:=zR hl h
  obtain ⟨a,hat,_,hc⟩:=jDS hs hlt
  have htk:ts.take (j+1)=ts.take j++[ts[j]]:=List.take_succ_eq_append_getElem hlt
  refine ⟨a,hat,_,hc,fun h=>⟨?_,rfl⟩,fun h=>?_⟩
  ·have:v=ts[j]:=by simpa using h
   rw [decide_eq_true (by omega),decide_eq_true]
   rw [this];exact List.getElem_mem hlt
  ·rw [zE hlt (by omega)]
   refine ⟨⟨rfl,j+1,rfl,hlt,?_⟩,kN hlt⟩
   rw [htk,List.mem_append,List.mem_singleton]
   rintro (h' | h')
   ·exact hv h'
   ·simp [h'] at h
 ·have hge:=zY hl hj h
  subst hge
  rw [List.take_length] at hv
  exact ⟨by simp [hv],rfl⟩
theorem jAE {S:NP} (s:Sl) (ts:List Int) (v:Int) (w0:World) (hs:Lst S w0 1 s (tmr ts)) (hn:ts.length≤1000000) :
  Calls prog 35 #[s.v,.int .i64 v] w0 (fun e w'=>∃r:Bool,e=.returned (.bool r)∧(r=decide (v∈ts)∧w'=w0)):=by
 refine w_G2 _ _ w0 (fun r w'=>r=decide (v∈ts)∧w'=w0) ?_
 unfold m_G2
 refine (jEU s ts v w0 hs hn).mono ?_
 rintro _ _ ⟨r,rfl,hr,rfl⟩
 exact ⟨_,rfl,hr,rfl⟩
theorem jEV {S:NP} (s:Sl) (ts:List Int) (w0:World) (hs:Lst S w0 1 s (tmr ts)) (hz:s.a=none→s=Sl.nil) (hn:ts.length≤1000000) :
  Calls prog 49 #[s.v] w0 (fun e w'=>∃r:Sl,e=.returned r.v∧RetO w0 32 1 (tmr ts) r w'):=by
 refine w_H2 _ w0 (fun r w'=>RetO w0 32 1 (tmr ts) r w') ?_
 unfold m_H2
 refine ⟨s.a.isNone,?_,fun h=>?_,fun h=>?_⟩
 ·exact oE w0 s.a s.len s.cap underlying39
 ·have hs0:=hz (Option.isNone_iff_eq_none.1 h)
  subst hs0
  have:ts=[]:=by have:=hs.len;rw [zO] at this;exact List.length_eq_zero_iff.1 this.symm
  subst this
  exact ⟨Rws.nil _ _ _,fun b hb=>(by obtain ⟨a,ha,_⟩:=hb;cases ha),Ext.refl _⟩
 ·intro p1 w1 h1
  have E1:Pure w0 w1:=Ext.new h1
  obtain ⟨s2,w2,hr,hR,hE,hb⟩:=(Rws.empty (sz:=1) h1).appendL (P:=prog) (ty:=39) tI (hs.pure E1) (tmr_sz _) (jHK _) (by rw [zO];simp;omega) (by rw [zO];simp [maxLen];omega)
  have hp:=h1.at_size
  have hp':∀b,(Sl.mk (some p1) 0 0).blk b→w0.heap.size≤b:=fun b hb=>(by obtain ⟨a,ha,e⟩:=hb;cases ha;omega)
  exact ⟨s2,w2,hr,by simpa using hR,fun b h=>(hb b h).elim (hp' b) (fun h=>by have:=E1.size;omega),E1.trans' hE (fun i hi h=>by have:=hp' i h;omega)⟩
end Go.Proofs
end
section
open Go Go.SE
open Go.IntKind renaming i64 → q6
namespace Go.Proofs
open Try
set_option maxRecDepth 100000
set_option maxHeartbeats 4000000
attribute [local irreducible] wpL wpX opE wpE Calls
def m_I2 (p1:Option Addr) (w0:World) (K:(Option Addr)→WP):Prop :=Br (Option.isNone p1) (K none w0) (∀p2 w1,New w0 (.map #[] 0) p2 w1→∀p3 w2,New w1 (.cells #[(vp p1),Sl.nil.v,(.map (some p2.block)),Sl.nil.v] 88) p3 w2→K (some p3) w2)
theorem w_I2 (p1 w0 K) (h:m_I2 p1 w0 K):
  Calls prog 17 #[(vp p1)] w0 (fun e w'=>∃r1,e=.returned (vp r1)∧K r1 w'):=by
 refine cw (args:=[(vp p1)]) func17 ntmps17 (eg (q0 (vp none) (ln (jA (eg (q0 (vp p1) (q2 (vb (Option.isNone p1)) (vS (by kernel_rfl) rfl underlying36) (jB ?_))))))))
 refine jI (cbr h ?_ ?_)<;>intro h
 refine eg (q (ln (er (zI (rs1 results17 ⟨none,rfl,h⟩)))))
 refine jC (jI (eg (q (nw4 (fun p=>.map (some p.block)) h fun p2 w1 h=>q (nw1 h xb fun p3 w2 h=>q (ln (er (rs1 results17 ⟨(some p3),rfl,h⟩))))))))
def m_O_j2 (p1:Addr) (at1:Int) (p5 a9:Addr) (w0:World) (H:NP) (w:World) (Kc1:Int→NP→WP) (_K:WP):Prop :=∃v15,w.cell? a9=some (vi v15)∧Br (v15 == 4) (∃v16,w.cell? (a9.add 5)=some (vi v16)∧Calls prog 48 #[(vi v16),(vi 1),(vp (some p1)),(vp (some p5))] w (fun e w13=>e=.returned (.tuple #[])∧Kept H w w13∧∃v17,w13.cell? (a9.add 6)=some (vi v17)∧Calls prog 48 #[(vi v17),(vi 2),(vp (some p1)),(vp (some p5))] w13 (fun e w14=>e=.returned (.tuple #[])∧Kept H w13 w14∧Kc1 (q6.wrap (at1+1)) H w14))) (∀y1:Bool,y1=(cond (v15 == 7) (v15 == 7) (cond (v15 == 8) (v15 == 8) (v15 == 9)))→Br y1 (∀H3 w15,Hst w0 H w H3 w15→∃v18,w15.cell? (a9.add 5)=some (vi v18)∧Calls prog 48 #[(vi v18),(vi 3),(vp (some p1)),(vp (some p5))] w15 (fun e w16=>e=.returned (.tuple #[])∧Kept H3 w15 w16∧Kc1 (q6.wrap (at1+1)) H3 w16)) (∀H3 w15,Hst w0 H w H3 w15→Kc1 (q6.wrap (at1+1)) H3 w15))
def m_O_l1 (p1:Addr) (at1:Int) (w0:World) (Hl1:NP) (wl1:World) (Kc1:Int→NP→WP) (K:WP):Prop :=∃v10,wl1.cell? p1=some (vp v10)∧∃a6,v10=some a6∧∃v11:Sl,wl1.cell? (a6.add 3)=some v11.v∧Br (decide (at1<(v11.len:Int))) (∃v12,wl1.cell? p1=some (vp v12)∧∃a7,v12=some a7∧∃v13:Sl,wl1.cell? (a7.add 3)=some v13.v∧∃a8:Addr,At v13 at1 1 a8∧∃v14,wl1.cell? a8=some (vi v14)∧∀p5 w11,New wl1 (.cells #[(vi 0)] 32) p5 w11→zS w11 p5∧¬ Hl1 p5.block∧∀w12,w12=w11.setCell p5 (vi v14)→∃C3:WP,C3 w12.drew∧∀w17,w17=w12.drew→∃v19,(∀w',C3 w'→w'.cell? p1=some (vp v19))∧∃a10,v19=some a10∧∃v20,(∀w',C3 w'→w'.cell? a10=some (vp v20))∧∃v21,(∀w',C3 w'→w'.cell? p5=some (vi v21))∧(Calls prog 14 #[(vp v20),(vi v21)] w17 (fun e w18=>∃aA aB aC aD aE aF aG r1,e=.returned (.tuple #[(Ab aA aB aC aD aE aF aG),(vb r1)])∧C3 w18∧Kept Hl1 w17 w18∧∀p6 w19,New w18 (.cells #[(vi 0),(vi 0),(vi 0),(vu 0),ve,(vi 0),(vi 0)] 51) p6 w19→C3 w19∧(∀j,j<7→zS w19 (p6.add j))∧¬ Hl1 p6.block∧∀w20,w20=storeRow w19 p6 (Aa aA aB aC aD aE aF aG)→C3 w20∧m_O_j2 p1 at1 p5 p6 w0 Hl1 w20 Kc1 K))∧(∀p7 w21,New w17 (.cells #[(vi 0),(vi 0),(vi 0),(vu 0),ve,(vi 0),(vi 0)] 51) p7 w21→C3 w21∧Calls prog 14 #[(vp v20),(vi v21)] w21 (fun e w22=>∃aH aI aJ aK aL aM aN r2,e=.returned (.tuple #[(Ab aH aI aJ aK aL aM aN),(vb r2)])∧C3 w22∧Kept Hl1 w21 w22∧(∀j,j<7→zS w22 (p7.add j))∧¬ Hl1 p7.block∧∀w23,w23=storeRow w22 p7 (Aa aH aI aJ aK aL aM aN)→C3 w23∧m_O_j2 p1 at1 p5 p7 w0 Hl1 w23 Kc1 K))) (K wl1)
def m_O (k1:Option Addr) (t1 wrule1 wfrom1:Int) (w0:World) (K:WP):Prop :=∀p1 w1,New w0 (.cells #[(vp k1)] 37) p1 w1→∀H1 w2,Hst w0 None w1 H1 w2→∃v1,w2.cell? p1=some (vp v1)∧∃a1,v1=some a1∧∃v2:Option Nat,w2.cell? (a1.add 2)=some (.map v2)∧∃vrule1 vfrom1 ok1,(Instr.lookup 86 (.map v2) (vi t1) true).run prog w2=.ok (.tuple #[(.agg #[(vi vrule1),(vi vfrom1)]),(vb ok1)]) w2∧Br ok1 (∀H2 w4,Hst w0 H1 w2 H2 w4→K w4) (∀H2 w4,Hst w0 H1 w2 H2 w4→∃C1:WP,C1 w4.drew∧∀w5,w5=w4.drew→∃v3,(∀w',C1 w'→w'.cell? p1=some (vp v3))∧∃a2,v3=some a2∧∃v4:Option Nat,(∀w',C1 w'→w'.cell? (a2.add 2)=some (.map v4))∧∃w6:World,(Instr.mapUpdate 86 (.map v4) (vi t1) (.agg #[(vi wrule1),(vi wfrom1)])).run prog w5=.ok () w6∧Kept H2 w5 w6∧∃v5,w6.cell? p1=some (vp v5)∧∃a3,v5=some a3∧∃v6:Sl,w6.cell? (a3.add 3)=some v6.v∧∃C2:WP,C2 w6.drew∧∀w7,w7=w6.drew→∃v7,(∀w',C2 w'→w'.cell? p1=some (vp v7))∧∃v8,(∀w',C2 w'→w'.cell? p1=some (vp v8))∧∃a4,v8=some a4∧∃v9:Sl,(∀w',C2 w'→w'.cell? (a4.add 3)=some v9.v)∧∀p4 w8,New w7 (.cells #[(vi t1)] 32) p4 w8→C2 w8∧∃s1:Sl,∃w9:World,(Builtin.append_ #[39,39] 39 #[v9.v,(Sl.mk (some p4) 1 1).v]).run prog w8=.ok s1.v w9∧C2 w9∧Kept H2 w8 w9∧∃a5,v7=some a5∧zS w9 (a5.add 3)∧¬ H2 (a5.add 3).block∧∀w10,w10=w9.setCell (a5.add 3) s1.v→∃(I1:Int→NP→WP) (mu1:Int→World→Nat),I1 (v6.len:Int) H2 w10∧∀(at1:Int) (Hl1:NP) (wl1:World),Hst w0 Hl1 wl1 Hl1 wl1→I1 at1 Hl1 wl1→m_O_l1 p1 at1 w0 Hl1 wl1 (fun y'0 H' w'=>I1 y'0 H' w'∧mu1 y'0 w'<mu1 at1 wl1) K)
theorem w_O (k1 t1 wrule1 wfrom1 w0 K) (h:m_O k1 t1 wrule1 wfrom1 w0 K):
  Calls prog 36 #[(vp k1),(vi t1),(.agg #[(vi wrule1),(vi wfrom1)])] w0 (fun e w'=>e=.returned (.tuple #[])∧K  w'):=by
 refine cw (args:=[(vp k1),(vi t1),(.agg #[(vi wrule1),(vi wfrom1)])]) func36 ntmps36 ?_
 obtain ⟨hs,hb⟩:=st0 w0
 refine eg (nw2 hs hb h xb fun p1 w1 hs hb h=>nw3 [(vi wrule1),(vi wfrom1)] 96 hs hb xb fun p2 w2 H1 hs hb=>ln (jA (eg ?_)))
 have ⟨h,hs⟩:=hs.hr (h H1 w2)
 refine ql (isAgg37 _) h fun v1 h=>qm h fun a1 h=>q (ql (isAgg86 _) h fun v2 h=>q ?_)
 obtain ⟨vrule1,vfrom1,ok1,hv23,h⟩:=h
 refine q2 (.tuple #[(.agg #[(vi vrule1),(vi vfrom1)]),(vb ok1)]) (qL (by kernel_rfl) (by kernel_rfl) hv23) (qc (nw3 [(vi 0),(vi 0)] 96 hs hb (jX (zeroValue96 _) rfl) fun p3 w3 H2 hs hb=>sbx 0 [(vi vrule1),(vi vfrom1)] (sizeOf96 _) hs hb gZ fun w4 hs hb=>q (ln (eg (q (ln (cbr h ?_ ?_)))))))<;>intro h
 refine er (zI ?_)
 have ⟨h,hs⟩:=hs.hr (h H2 w4)
 refine jGW (.inl rfl) results36 ⟨rfl,h⟩
 refine jC (jI (jA ?_))
 have ⟨h,hs⟩:=hs.hr (h H2 w4)
 obtain ⟨C1,hC,h⟩:=h
 refine dr2 (fun x=>C1 x∧HB H2 x _) [6] [6] ⟨hC,hb.drew⟩ h hs hb fun w5 hs hb h=>?_
 have hs:=hs.here
 refine qg 0 ?_
 obtain ⟨v3,hv22,h⟩:=h
 refine sy Kp0 (fun _ k=>xl (isAgg37 _) (hv22 _ k.1)) (qg 1 ?_)
 obtain ⟨a2,hp2,h⟩:=h
 refine sy Kp1 (fun _ _=>xn hp2) (qx 2 (vp (some (a2.add 2))) Kp2 (qg 3 ?_))
 obtain ⟨v4,hv21,h⟩:=h
 refine sy Kp3 (fun _ k=>xl (isAgg86 _) (hv21 _ k.1)) (qx 4 (vi t1) Kp4 (qz 5 (.agg #[(vi wrule1),(vi wfrom1)]) Kp5 (fun w' hw'=>(xa p2 [(vi wrule1),(vi wfrom1)] (isAgg96 _) (sizeOf96 _) (hw'.2.r0 1 2 (gS gZ)))) (lg 6 ?_)))
 obtain ⟨w6,hv20,hk,h⟩:=h
 refine lZ Kp6 (jM rfl) (by kernel_rfl) (vT (by kernel_rfl) (by kernel_rfl) (by kernel_rfl) hv20) (.inl (by kernel_rfl)) ?_
 obtain ⟨hs,hb⟩:=hk.hh hs hb
 refine wn (jI (eg (ql (isAgg37 _) h fun v5 h=>qm h fun a3 h=>q (ql (isAgg39 _) h fun v6 h=>qb (ln (jA ?_))))))
 obtain ⟨C2,hC,h⟩:=h
 refine dr2 (fun x=>C2 x∧HB H2 x _) [6,7,10] [10] ⟨hC,hb.drew⟩ h hs hb fun w7 hs hb h=>?_
 have hs:=hs.here
 refine qg 0 ?_
 obtain ⟨v7,hv17,h⟩:=h
 refine sy Kp0 (fun _ k=>xl (isAgg37 _) (hv17 _ k.1)) (qg 1 ?_)
 obtain ⟨v8,hv16,h⟩:=h
 refine sy Kp1 (fun _ k=>xl (isAgg37 _) (hv16 _ k.1)) (qg 2 ?_)
 obtain ⟨a4,hp4,h⟩:=h
 refine sy Kp2 (fun _ _=>xn hp4) (qx 3 (vp (some (a4.add 3))) Kp3 (qg 4 ?_))
 obtain ⟨v9,hv15,h⟩:=h
 refine sy Kp4 (fun _ k=>xl (isAgg39 _) (hv15 _ k.1)) (qx 5 (vi t1) Kp5 (lg 6 (qU (O:=(.cells #[(vi t1)] 32)) (fun p=>(Sl.mk (some p) 1 1).v) Kp6 (jM rfl) (by kernel_rfl) (zA (vs:=#[(0,(vi t1))]) (by kernel_rfl) (by kernel_rfl)) ?_)))
 intro p4 w8 hn11
 have h:=h p4 w8 hn11
 refine ⟨.inr ⟨h.1,hb.kept (Ext.new (F:=None) hn11).keptP⟩,?_⟩
 have h:=h.2
 obtain ⟨hs,hb⟩:=hs.nw hb hn11
 refine lg 7 ?_
 obtain ⟨s1,w9,hv14,hC,hk,h⟩:=h
 refine sl (v:=s1.v) Kp7 (jM rfl) (by kernel_rfl) (zD (args:=#[v9.v,(Sl.mk (some p4) 1 1).v]) (by kernel_rfl) (fun _=>rfl) hv14) (.inr ⟨hC,hb.kept hk⟩) ?_
 obtain ⟨hs,hb⟩:=hk.hh hs hb
 refine qg 8 ?_
 obtain ⟨a5,hp5,h⟩:=h
 refine sy Kp8 (fun _ _=>xn hp5) (qx 9 (vp (some (a5.add 3))) Kp9 (lg 10 ?_))
 obtain ⟨hp6,hnh,h⟩:=h
 refine sl_t (jT (S8 (jH (jH jS)))) (xs (v:=s1.v) (sizeOf39 _) hp6) ?_
 intro w10 hn4
 have h:=h w10 hn4
 refine ⟨.inl (by kernel_rfl),?_⟩
 have hk:=Kept.sc hnh hn4
 obtain ⟨hs,hb⟩:=hk.hh hs hb
 refine wn (jI (jG ?_))
 obtain ⟨I1,mu1,h0,hr⟩:=h
 refine zH (σ:=Int×NP×World) (fun s ρ w=>w=s.2.2∧Has ρ [(3,(vp (some p1))),(8,(vi s.1))]∧Hst w0 s.2.1 w s.2.1 w∧HB s.2.1 w [(p3,[(vi vrule1),(vi vfrom1)],96),(p2,[(vi wrule1),(vi wfrom1)],96)]∧I1 s.1 s.2.1 s.2.2) (fun s=>mu1 s.1 s.2.2) ((v6.len:Int),H2,w10) ⟨rfl,hm,hs,hb,h0⟩ ?_
 rintro ⟨at1,Hl1,wl1⟩ ρ w ⟨hw,hH,hs,hb,hI⟩
 dsimp only at hw hH hs hb;subst w
 have h:=hr at1 Hl1 wl1 hs hI
 refine jN hH (jA (eg (q (ql (isAgg37 _) h fun v10 h=>qm h fun a6 h=>q (ql (isAgg39 _) h fun v11 h=>qb (ln (cbr h ?_ ?_)))))))<;>intro h
 refine jC (jI (jA (jG (eg (ql (isAgg37 _) h fun v12 h=>qm h fun a7 h=>q (ql (isAgg39 _) h fun v13 h=>q (qi (runUnderlying39 _) (sizeOf32 _) h fun a8 h=>ql (isAgg32 _) h fun v14 h=>sn (O:=(.cells #[(vi 0)] 32)) (jX (zeroValue32 _) rfl) ?_)))))))
 intro p5 w11 hn10
 have h:=h p5 w11 hn10
 obtain ⟨hs,hb⟩:=hs.nw hb hn10
 refine st2 (sizeOf32 _) hs hb h fun w12 hs hb h=>ln (jA (zJ (fun ρ w=>∃a9:Addr,∃H:NP,Has ρ [(3,(vp (some p1))),(8,(vi at1)),(9,(vp (some p5))),(10,(vp (some a9)))]∧Hst w0 H w H w∧HB H w [(p3,[(vi vrule1),(vi vfrom1)],96),(p2,[(vi wrule1),(vi wfrom1)],96)]∧m_O_j2 p1 at1 p5 a9 w0 H w (fun y'0 H' w'=>I1 y'0 H' w'∧mu1 y'0 w'<mu1 at1 wl1) K) ?_ ?_))
 rintro ρ w ⟨a9,H,hH,hs,hb,h⟩
 refine jN hH (eg (qb (ln (eg (q (ql (isAgg3 _) h fun v15 h=>ln (jG (eg (qb (ln (cbr h ?_ ?_)))))))))))<;>intro h
 refine eg (qb (ql (isAgg32 _) h fun v16 h=>zK (jM rfl) (lT (fs:=#[]) (caps:=#[(vp (some p1)),(vp (some p5))]) (args:=#[(vi v16),(vi 1)]) (args':=#[(vi v16),(vi 1),(vp (some p1)),(vp (some p5))]) (by kernel_rfl) call48 (by kernel_rfl) (by kernel_rfl)) (h.mono ?_)))
 rintro e w13 ⟨rfl,hk,h⟩
 refine ⟨_,rfl,?_⟩
 obtain ⟨hs,hb⟩:=hk.hh hs hb
 refine ln (rg (qb (ql (isAgg32 _) h fun v17 h=>zK (jM rfl) (lT (fs:=#[]) (caps:=#[(vp (some p1)),(vp (some p5))]) (args:=#[(vi v17),(vi 2)]) (args':=#[(vi v17),(vi 2),(vp (some p1)),(vp (some p5))]) (by kernel_rfl) call48 (by kernel_rfl) (by kernel_rfl)) (h.mono ?_))))
 rintro e w14 ⟨rfl,hk,h⟩
 refine ⟨_,rfl,?_⟩
 obtain ⟨hs,hb⟩:=hk.hh hs hb
 refine jB (qB (qB (jI (rg (qc (ln ⟨((q6.wrap (at1+1)),H,w14),⟨rfl,hm,hs,hb,h.1⟩,h.2⟩))))))
 refine jA (eg (qb (ln (jZ (fun ρ wJ=>∃b1'0 b1'1 y1:Bool,∃HJ:NP,((v15 == 7)=b1'0)∧((v15 == 8)=b1'1)∧(y1=(cond b1'0 (v15 == 7) (cond b1'1 (v15 == 8) (v15 == 9))))∧Hst w0 H w HJ wJ∧HB HJ wJ [(p3,[(vi vrule1),(vi vfrom1)],96),(p2,[(vi wrule1),(vi wfrom1)],96)]∧Has ρ [(3,(vp (some p1))),(8,(vi at1)),(10,(vp (some a9))),(12,(.func (.func 48) #[] #[(vp (some p1)),(vp (some p5))])),(82,(vb y1))]) ?_ ?_))))
 refine zF (t:=(v15 == 7)) (by kernel_rfl) (fun hc6=>?_) (fun hc6=>?_)
 refine jC (jI ⟨true,_,_,_,hc6,rfl,rfl,hs,hb,hm⟩)
 refine eg (qb (ln (zF (t:=(v15 == 8)) (by kernel_rfl) (fun hc7=>?_) (fun hc7=>?_))))
 refine jC (jI ⟨false,true,_,_,hc6,hc7,rfl,hs,hb,hm⟩)
 refine rg (qb (ln ⟨false,false,_,_,hc6,hc7,rfl,hs,hb,hm⟩))
 rintro ρ w15 ⟨b1'0,b1'1,y1,H3,he0,he1,hy1,hs,hb,hH⟩
 subst he0
 subst he1
 have h:=h y1 hy1
 refine jP hH (jI (cbr h ?_ ?_))<;>intro h
 refine rg (qb ?_)
 have ⟨h,hs⟩:=hs.hr (h H3 w15)
 refine ql (isAgg32 _) h fun v18 h=>zK (jM rfl) (lT (fs:=#[]) (caps:=#[(vp (some p1)),(vp (some p5))]) (args:=#[(vi v18),(vi 3)]) (args':=#[(vi v18),(vi 3),(vp (some p1)),(vp (some p5))]) (by kernel_rfl) call48 (by kernel_rfl) (by kernel_rfl)) (h.mono ?_)
 rintro e w16 ⟨rfl,hk,h⟩
 refine ⟨_,rfl,?_⟩
 obtain ⟨hs,hb⟩:=hk.hh hs hb
 refine jB (qB (qB (jI (rg (qc (ln ⟨((q6.wrap (at1+1)),H3,w16),⟨rfl,hm,hs,hb,h.1⟩,h.2⟩))))))
 refine jC (qB (qB (jI (rg (qc (jB ?_))))))
 have ⟨h,hs⟩:=hs.hr (h H3 w15)
 refine jI ⟨((q6.wrap (at1+1)),H3,w15),⟨rfl,hm,hs,hb,h.1⟩,h.2⟩
 obtain ⟨C3,hC,h⟩:=h
 refine dr2 (fun x=>C3 x∧HB Hl1 x _) [5,9,10] [] ⟨hC,hb.drew⟩ h hs hb fun w17 hs hb h=>?_
 have hs:=hs.here
 refine qg 0 ?_
 obtain ⟨v19,hv7,h⟩:=h
 refine sy Kp0 (fun _ k=>xl (isAgg37 _) (hv7 _ k.1)) (qg 1 ?_)
 obtain ⟨a10,hp10,h⟩:=h
 refine sy Kp1 (fun _ _=>xn hp10) (qx 2 (vp (some a10)) Kp2 (qg 3 ?_))
 obtain ⟨v20,hv6,h⟩:=h
 refine sy Kp3 (fun _ k=>xl (isAgg36 _) (hv6 _ k.1)) (qg 4 ?_)
 obtain ⟨v21,hv5,h⟩:=h
 refine sy Kp4 (fun _ k=>xl (isAgg32 _) (hv5 _ k.1)) (lgo2 (k:=5) (k':=9) (by kernel_rfl) ?_ ?_)
 have h:=h.1
 refine slc Kp5 call14 (h.mono ?_)
 rintro e w18 ⟨aA,aB,aC,aD,aE,aF,aG,r1,rfl,hC,hk,h⟩
 refine ⟨_,rfl,.inr ⟨hC,hb.kept hk⟩,?_⟩
 obtain ⟨hs,hb⟩:=hk.hh hs hb
 refine qx 6 (.tuple #[(Ab aA aB aC aD aE aF aG),(vb r1)]) Kp6 (qx 7 (Ab aA aB aC aD aE aF aG) Kp7 (qx 8 (vb r1) Kp8 (lg 9 (qU (O:=(.cells #[(vi 0),(vi 0),(vi 0),(vu 0),ve,(vi 0),(vi 0)] 51)) (fun p=>.pointer (some p)) Kp9 (jM rfl) (by kernel_rfl) (jX (zeroValue51 _) rfl) ?_))))
 intro p6 w19 hn7
 have h:=h p6 w19 hn7
 refine ⟨.inr ⟨h.1,hb.kept (Ext.new (F:=None) hn7).keptP⟩,?_⟩
 have h:=h.2
 obtain ⟨hs,hb⟩:=hs.nw hb hn7
 refine lg 10 ?_
 obtain ⟨hp11,hnh,h⟩:=h
 refine jBR (jT (S8 (jH (jH jS)))) (jM rfl) (by kernel_rfl) (xo p6 (Aa aA aB aC aD aE aF aG) (sizeOf51 _) hp11) ?_
 intro w20 hn6
 have h:=h w20 hn6
 refine ⟨.inr ⟨h.1,hb.kept (by rw [hn6];exact Kept.storeRow hnh)⟩,?_⟩
 have h:=h.2
 have hk:Kept Hl1 w19 w20:=by rw [hn6];exact Kept.storeRow hnh
 obtain ⟨hs,hb⟩:=hk.hh hs hb
 refine qx 11 (vb r1) (jT (S8 (jH (jH (jH jS))))) (wn (jI ⟨p6,Hl1,hm,hs,hb,h⟩))
 have h:=h.2
 refine qU (O:=(.cells #[(vi 0),(vi 0),(vi 0),(vu 0),ve,(vi 0),(vi 0)] 51)) (fun p=>.pointer (some p)) Kp9 (jM rfl) (by kernel_rfl) (jX (zeroValue51 _) rfl) ?_
 intro p7 w21 hn9
 have h:=h p7 w21 hn9
 refine ⟨.inr ⟨h.1,hb.kept (Ext.new (F:=None) hn9).keptP⟩,?_⟩
 have h:=h.2
 obtain ⟨hs,hb⟩:=hs.nw hb hn9
 refine lg 5 (slc Kp5 call14 (h.mono ?_))
 rintro e w22 ⟨aH,aI,aJ,aK,aL,aM,aN,r2,rfl,hC,hk,h⟩
 refine ⟨_,rfl,.inr ⟨hC,hb.kept hk⟩,?_⟩
 obtain ⟨hs,hb⟩:=hk.hh hs hb
 refine qx 6 (.tuple #[(Ab aH aI aJ aK aL aM aN),(vb r2)]) Kp6 (qx 7 (Ab aH aI aJ aK aL aM aN) Kp7 (qx 8 (vb r2) Kp8 (lg 10 ?_)))
 obtain ⟨hp12,hnh,h⟩:=h
 refine jBR (jT (S8 (jH (jH jS)))) (jM rfl) (by kernel_rfl) (xo p7 (Aa aH aI aJ aK aL aM aN) (sizeOf51 _) hp12) ?_
 intro w23 hn8
 have h:=h w23 hn8
 refine ⟨.inr ⟨h.1,hb.kept (by rw [hn8];exact Kept.storeRow hnh)⟩,?_⟩
 have h:=h.2
 have hk:Kept Hl1 w22 w23:=by rw [hn8];exact Kept.storeRow hnh
 obtain ⟨hs,hb⟩:=hk.hh hs hb
 refine qx 11 (vb r2) (jT (S8 (jH (jH (jH jS))))) (wn (jI ⟨p7,Hl1,hm,hs,hb,h⟩))
 refine zB (vG (vG (kQ (jGW (.inr rfl) results36 ⟨rfl,h⟩))))
def m_L1 (k1:Option Addr) (t1:Int) (w0:World) (K:Int→WP):Prop :=Br (Option.isNone k1) (K 7 w0) (∃a1,k1=some a1∧∃v1,w0.cell? a1=some (vp v1)∧Calls prog 14 #[(vp v1),(vi t1)] w0 (fun e w1=>∃aA aB aC aD aE aF aG r1,e=.returned (.tuple #[(Ab aA aB aC aD aE aF aG),(vb r1)])∧Kept None w0 w1∧Br (!r1) (∀H1 w3,Hst w0 None w1 H1 w3→K 51 w3) (∃a2,k1=some a2∧∀H1 w3,Hst w0 None w1 H1 w3→∃v2:Sl,w3.cell? (a2.add 1)=some v2.v∧Calls prog 35 #[v2.v,(vi t1)] w3 (fun e w4=>∃r2,e=.returned (vb r2)∧Kept H1 w3 w4∧Br (!r2) (∃a3,k1=some a3∧∃v3:Sl,w4.cell? (a3.add 1)=some v3.v∧∀p2 w5,New w4 (.cells #[(vi t1)] 32) p2 w5→∃s1:Sl,∃w6:World,(Builtin.append_ #[39,39] 39 #[v3.v,(Sl.mk (some p2) 1 1).v]).run prog w5=.ok s1.v w6∧Kept H1 w5 w6∧∃a4,k1=some a4∧zS w6 (a4.add 1)∧¬ H1 (a4.add 1).block∧∀w7,w7=w6.setCell (a4.add 1) s1.v→Calls prog 36 #[(vp k1),(vi t1),(.agg #[(vi 0),(vi 0)])] w7 (fun e w8=>e=.returned (.tuple #[])∧Kept H1 w7 w8∧K 0 w8)) (Calls prog 36 #[(vp k1),(vi t1),(.agg #[(vi 0),(vi 0)])] w4 (fun e w9=>e=.returned (.tuple #[])∧Kept H1 w4 w9∧K 0 w9))))))
theorem w_L1 (k1 t1 w0 K) (h:m_L1 k1 t1 w0 K):
  Calls prog 21 #[(vp k1),(vi t1)] w0 (fun e w'=>∃r3,e=.returned (vi r3)∧K r3 w'):=by
 refine cw (args:=[(vp k1),(vi t1)]) func21 ntmps21 ?_
 obtain ⟨hs,hb⟩:=st0 w0
 refine eg (q (ln (jA (eg (q (q2 (vb (Option.isNone k1)) (vS (by kernel_rfl) rfl underlying37) (ln (cbr h ?_ ?_))))))))<;>intro h
 refine eg (q (ln (er (zI (rs1 results21 ⟨7,rfl,h⟩)))))
 refine jC (jI (jA (eg (q (qm h fun a1 h=>q (ql (isAgg36 _) h fun v1 h=>q (sc call14 (h.mono fun e w1 ⟨aA,aB,aC,aD,aE,aF,aG,r1,k,hk,h⟩=>have ⟨hs,hb⟩:=hk.hh hs hb;⟨_,k,?_⟩))))))))
 refine qc (nw3 (Ak 0 0 0 0 0 0) 51 hs hb (jX (zeroValue51 _) rfl) fun p1 w2 H1 hs hb=>sbx 0 (Aa aA aB aC aD aE aF aG) (sizeOf51 _) hs hb gZ fun w3 hs hb=>q (ln (eg (qb (ln (cbr h ?_ ?_))))))<;>intro h
 refine eg (q (ln (er (zI ?_))))
 have ⟨h,hs⟩:=hs.hr (h H1 w3)
 refine rs1 results21 ⟨51,rfl,h⟩
 refine jC (jI (jA (eg (q (qm h fun a2 h=>q ?_)))))
 have ⟨h,hs⟩:=hs.hr (h H1 w3)
 refine ql (isAgg39 _) h fun v2 h=>q (sc call35 (h.mono fun e w4 ⟨r2,k,hk,h⟩=>have ⟨hs,hb⟩:=hk.hh hs hb;⟨_,k,?_⟩))
 refine q (ln (cbr h ?_ ?_))<;>intro h
 refine rg (qb (qm h fun a3 h=>q (ql (isAgg39 _) h fun v3 h=>q (qT (O:=(.cells #[(vi t1)] 32)) (fun p=>(Sl.mk (some p) 1 1).v) (jM rfl) (zA (vs:=#[(0,(vi t1))]) (by kernel_rfl) (by kernel_rfl)) ?_))))
 intro p2 w5 hn4
 have h:=h p2 w5 hn4
 obtain ⟨hs,hb⟩:=hs.nw hb hn4
 obtain ⟨s1,w6,hv1,hk,h⟩:=h
 refine st (v:=s1.v) (jM rfl) (zD (args:=#[v3.v,(Sl.mk (some p2) 1 1).v]) (by kernel_rfl) (fun _=>rfl) hv1) ?_
 obtain ⟨hs,hb⟩:=hk.hh hs hb
 refine qm h fun a4 h=>q (st2 (sizeOf39 _) hs hb h fun w7 hs hb h=>ln (eg (qc (sc call36 (h.mono fun e w8 ⟨k,hk,h⟩=>have ⟨hs,hb⟩:=hk.hh hs hb;⟨_,k,?_⟩)))))
 refine ln (eg (q (ln (er (rs1 results21 ⟨0,rfl,h⟩)))))
 refine jC (jI (eg (qc (sc call36 (h.mono fun e w9 ⟨k,hk,h⟩=>have ⟨hs,hb⟩:=hk.hh hs hb;⟨_,k,?_⟩)))))
 refine ln (eg (q (ln (er (rs1 results21 ⟨0,rfl,h⟩)))))
def m_J2 (k1:Option Addr) (w0:World) (K:Sl→WP):Prop :=Br (Option.isNone k1) (K Sl.nil w0) (∃a1,k1=some a1∧∃v1:Sl,w0.cell? (a1.add 1)=some v1.v∧Calls prog 49 #[v1.v] w0 (fun e w1=>∃r1:Sl,e=.returned r1.v∧K r1 w1))
theorem w_J2 (k1 w0 K) (h:m_J2 k1 w0 K):
  Calls prog 38 #[(vp k1)] w0 (fun e w'=>∃r2:Sl,e=.returned r2.v∧K r2 w'):=by
 refine cw (args:=[(vp k1)]) func38 ntmps38 (eg (q0 Sl.nil.v (ln (jA (eg (q0 (vp k1) (q2 (vb (Option.isNone k1)) (vS (by kernel_rfl) rfl underlying37) (jB ?_))))))))
 refine jI (cbr h ?_ ?_)<;>intro h
 refine eg (q (ln (er (zI (rs1 results38 ⟨Sl.nil,rfl,h⟩)))))
 refine jC (jI (eg (q (qm h fun a1 h=>q (ql (isAgg39 _) h fun v1 h=>sc call49 (h.mono fun e w1 ⟨r1,k,h⟩=>⟨_,k,?_⟩))))))
 refine q (ln (er (rs1 results38 ⟨r1,rfl,h⟩)))
def m_K2 (t1 rule1:Int) (cap1 cap2:Addr) (w0:World) (K:WP):Prop :=∃v1,w0.cell? cap1=some (vp v1)∧∃a1,v1=some a1∧∃v2:Option Nat,w0.cell? (a1.add 2)=some (.map v2)∧∃vrule1 vfrom1 ok1,(Instr.lookup 86 (.map v2) (vi t1) true).run prog w0=.ok (.tuple #[(.agg #[(vi vrule1),(vi vfrom1)]),(vb ok1)]) w0∧Br (!ok1) (∀H1 w2,Hst w0 None w0 H1 w2→∃C1:WP,C1 w2.drew∧∀w3,w3=w2.drew→∃v3,(∀w',C1 w'→w'.cell? cap1=some (vp v3))∧∃a2,v3=some a2∧∃v4:Option Nat,(∀w',C1 w'→w'.cell? (a2.add 2)=some (.map v4))∧∃v5,(∀w',C1 w'→w'.cell? cap2=some (vi v5))∧∃w4:World,(Instr.mapUpdate 86 (.map v4) (vi t1) (.agg #[(vi rule1),(vi v5)])).run prog w3=.ok () w4∧Kept H1 w3 w4∧∃C2:WP,C2 w4.drew∧∀w5,w5=w4.drew→∃v6,(∀w',C2 w'→w'.cell? cap1=some (vp v6))∧∃v7,(∀w',C2 w'→w'.cell? cap1=some (vp v7))∧∃a3,v7=some a3∧∃v8:Sl,(∀w',C2 w'→w'.cell? (a3.add 3)=some v8.v)∧∀p2 w6,New w5 (.cells #[(vi t1)] 32) p2 w6→C2 w6∧∃s1:Sl,∃w7:World,(Builtin.append_ #[39,39] 39 #[v8.v,(Sl.mk (some p2) 1 1).v]).run prog w6=.ok s1.v w7∧C2 w7∧Kept H1 w6 w7∧∃a4,v6=some a4∧zS w7 (a4.add 3)∧¬ H1 (a4.add 3).block∧∀w8,w8=w7.setCell (a4.add 3) s1.v→K w8) (∀H1 w2,Hst w0 None w0 H1 w2→K w2)
theorem w_K2 (t1 rule1 cap1 cap2 w0 K) (h:m_K2 t1 rule1 cap1 cap2 w0 K):
  Calls prog 48 #[(vi t1),(vi rule1),(vp (some cap1)),(vp (some cap2))] w0 (fun e w'=>e=.returned (.tuple #[])∧K  w'):=by
 refine cw (args:=[(vi t1),(vi rule1),(vp (some cap1)),(vp (some cap2))]) func48 ntmps48 ?_
 obtain ⟨hs,hb⟩:=st0 w0
 refine eg (ql (isAgg37 _) h fun v1 h=>qm h fun a1 h=>q (ql (isAgg86 _) h fun v2 h=>q ?_))
 obtain ⟨vrule1,vfrom1,ok1,hv9,h⟩:=h
 refine q2 (.tuple #[(.agg #[(vi vrule1),(vi vfrom1)]),(vb ok1)]) (qL (by kernel_rfl) (by kernel_rfl) hv9) (qc (nw3 [(vi 0),(vi 0)] 96 hs hb (jX (zeroValue96 _) rfl) fun p1 w1 H1 hs hb=>sbx 0 [(vi vrule1),(vi vfrom1)] (sizeOf96 _) hs hb gZ fun w2 hs hb=>q (ln (eg (qb (ln (cbr h ?_ ?_)))))))<;>intro h
 refine jA ?_
 have ⟨h,hs⟩:=hs.hr (h H1 w2)
 obtain ⟨C1,hC,h⟩:=h
 refine dr2 (fun x=>C1 x∧HB H1 x _) [8] [8] ⟨hC,hb.drew⟩ h hs hb fun w3 hs hb h=>?_
 have hs:=hs.here
 refine qg 0 ?_
 obtain ⟨v3,hv8,h⟩:=h
 refine sy Kp0 (fun _ k=>xl (isAgg37 _) (hv8 _ k.1)) (qg 1 ?_)
 obtain ⟨a2,hp2,h⟩:=h
 refine sy Kp1 (fun _ _=>xn hp2) (qx 2 (vp (some (a2.add 2))) Kp2 (qg 3 ?_))
 obtain ⟨v4,hv7,h⟩:=h
 refine sy Kp3 (fun _ k=>xl (isAgg86 _) (hv7 _ k.1)) (qx 4 (vi t1) Kp4 (qx 5 (vi rule1) Kp5 (qg 6 ?_)))
 obtain ⟨v5,hv6,h⟩:=h
 refine sy Kp6 (fun _ k=>xl (isAgg32 _) (hv6 _ k.1)) (qx 7 (.agg #[(vi rule1),(vi v5)]) Kp7 (lg 8 ?_))
 obtain ⟨w4,hv5,hk,h⟩:=h
 refine lZ Kp8 (jM rfl) (by kernel_rfl) (vT (by kernel_rfl) (by kernel_rfl) (by kernel_rfl) hv5) (.inl (by kernel_rfl)) ?_
 obtain ⟨hs,hb⟩:=hk.hh hs hb
 refine wn (jI ?_)
 obtain ⟨C2,hC,h⟩:=h
 refine dr2 (fun x=>C2 x∧HB H1 x _) [6,7,10] [10] ⟨hC,hb.drew⟩ h hs hb fun w5 hs hb h=>?_
 have hs:=hs.here
 refine qg 0 ?_
 obtain ⟨v6,hv4,h⟩:=h
 refine sy Kp0 (fun _ k=>xl (isAgg37 _) (hv4 _ k.1)) (qg 1 ?_)
 obtain ⟨v7,hv3,h⟩:=h
 refine sy Kp1 (fun _ k=>xl (isAgg37 _) (hv3 _ k.1)) (qg 2 ?_)
 obtain ⟨a3,hp3,h⟩:=h
 refine sy Kp2 (fun _ _=>xn hp3) (qx 3 (vp (some (a3.add 3))) Kp3 (qg 4 ?_))
 obtain ⟨v8,hv2,h⟩:=h
 refine sy Kp4 (fun _ k=>xl (isAgg39 _) (hv2 _ k.1)) (qx 5 (vi t1) Kp5 (lg 6 (qU (O:=(.cells #[(vi t1)] 32)) (fun p=>(Sl.mk (some p) 1 1).v) Kp6 (jM rfl) (by kernel_rfl) (zA (vs:=#[(0,(vi t1))]) (by kernel_rfl) (by kernel_rfl)) ?_)))
 intro p2 w6 hn4
 have h:=h p2 w6 hn4
 refine ⟨.inr ⟨h.1,hb.kept (Ext.new (F:=None) hn4).keptP⟩,?_⟩
 have h:=h.2
 obtain ⟨hs,hb⟩:=hs.nw hb hn4
 refine lg 7 ?_
 obtain ⟨s1,w7,hv1,hC,hk,h⟩:=h
 refine sl (v:=s1.v) Kp7 (jM rfl) (by kernel_rfl) (zD (args:=#[v8.v,(Sl.mk (some p2) 1 1).v]) (by kernel_rfl) (fun _=>rfl) hv1) (.inr ⟨hC,hb.kept hk⟩) ?_
 obtain ⟨hs,hb⟩:=hk.hh hs hb
 refine qg 8 ?_
 obtain ⟨a4,hp4,h⟩:=h
 refine sy Kp8 (fun _ _=>xn hp4) (qx 9 (vp (some (a4.add 3))) Kp9 (lg 10 ?_))
 obtain ⟨hp5,hnh,h⟩:=h
 refine sl_t (jT (S8 (jH (jH jS)))) (xs (v:=s1.v) (sizeOf39 _) hp5) ?_
 intro w8 hn3
 have h:=h w8 hn3
 refine ⟨.inl (by kernel_rfl),?_⟩
 have hk:=Kept.sc hnh hn3
 obtain ⟨hs,hb⟩:=hk.hh hs hb
 refine wn (jGW (.inr rfl) results48 ⟨rfl,h⟩)
 refine jC ?_
 have ⟨h,hs⟩:=hs.hr (h H1 w2)
 refine jGW (.inr rfl) results48 ⟨rfl,h⟩
end Go.Proofs
end
section
open Go Go.SE
namespace Go.Proofs
open Try
attribute [local irreducible] Calls
def wayv (p:Int×Int):Value:=.agg #[.int .i64 p.1,.int .i64 p.2]
def jHI (S:List Sp.Way):List (Int×(Int×Int)):=S.map fun v=>(v.t,(v.rule,v.frm))
theorem gA (S:List Sp.Way):(jHI S).map Prod.fst=Sp.jU S:=by simp [jHI,Sp.jU]
theorem jDM (S:List Sp.Way) (v:Sp.Way):jHI (S++[v])=jHI S++[(v.t,(v.rule,v.frm))]:=by simp [jHI]
structure KnowS (w:World) (k p:Addr) (G:List Int) (S:List Sp.Way) (ks:List Int) (sg:Sl) (m:Nat) (sl:Sl):Prop where
 box:Box w k [.pointer (some p),sg.v,.map (some m),sl.v] 88
 giv:Rws w 32 1 sg (tmr G)
 seen:IMap wayv w m (jHI S)
 list:Rws w 32 1 sl (tmr ks)
 n1:m≠k.block
 n2:¬ sg.blk k.block
 n3:¬ sl.blk k.block
 n4:¬ sg.blk m
 n5:¬ sl.blk m
 n6:∀b,sg.blk b→¬ sl.blk b
def KF (k:Addr) (sg:Sl) (m:Nat) (sl:Sl) (b:Nat):Prop:=b=k.block∨sg.blk b∨b=m∨sl.blk b
def zN (w:World) (k p:Addr) (G:List Int) (S:List Sp.Way) (F:NP):Prop:=∃sg m sl,KnowS w k p G S (Sp.jU S) sg m sl∧∀b,F b↔KF k sg m sl b
section
variable {w w':World} {k p:Addr} {G:List Int} {S:List Sp.Way} {ks:List Int} {sg sl:Sl} {m:Nat} {F:NP}
theorem KnowS.ext {X:NP} (h:KnowS w k p G S ks sg m sl) (hE:Ext X w w') (hd:∀b,KF k sg m sl b→¬ X b):KnowS w' k p G S ks sg m sl :=
 ⟨h.box.ext hE (hd _ (.inl rfl)),h.giv.ext hE (fun b hb=>hd _ (.inr (.inl hb))),h.seen.ext hE (hd _ (.inr (.inr (.inl rfl)))),h.list.ext hE (fun b hb=>hd _ (.inr (.inr (.inr hb)))),h.n1,h.n2,h.n3,h.n4,h.n5,h.n6⟩
theorem KnowS.pure (h:KnowS w k p G S ks sg m sl) (hE:Pure w w'):KnowS w' k p G S ks sg m sl:=h.ext hE (fun _ _ h=>h)
theorem KnowS.lt (h:KnowS w k p G S ks sg m sl) {b:Nat} (hb:KF k sg m sl b):b<w.heap.size:=by
 rcases hb with rfl | hb | rfl | hb
 ·exact h.box.lt
 ·exact h.giv.lt hb
 ·exact h.seen.lt
 ·exact h.list.lt hb
theorem zN.ext {X:NP} (h:zN w k p G S F) (hE:Ext X w w') (hd:∀b,F b→¬ X b):zN w' k p G S F:=by
 obtain ⟨sg,m,sl,h,hF⟩:=h;exact ⟨sg,m,sl,h.ext hE (fun b hb=>hd b ((hF b).2 hb)),hF⟩
theorem zN.pure (h:zN w k p G S F) (hE:Pure w w'):zN w' k p G S F:=h.ext hE (fun _ _ h=>h)
theorem zN.lt (h:zN w k p G S F) {b:Nat} (hb:F b):b<w.heap.size:=by
 obtain ⟨sg,m,sl,h,hF⟩:=h;exact h.lt ((hF b).1 hb)
theorem KnowS.look (h:KnowS w k p G S ks sg m sl) (t:Int):∃r f:Int,(Instr.lookup 86 (.map (some m)) (.int .i64 t) true).run prog w=.ok (.tuple #[.agg #[.int .i64 r,.int .i64 f],.bool (decide (t∈Sp.jU S))]) w∧(t∈Sp.jU S→SE.look (jHI S) t=some (r,f)):=by
 rcases h.seen.get (P:=prog) (T:=86) underlying86 underlying32 (zeroValue96 _) t true with ⟨h1,h2⟩ | ⟨⟨r,f⟩,h1,h2⟩
 ·have hn:t ∉ Sp.jU S:=by have:=qH.1 h1;rwa [gA] at this
  exact ⟨0,0,by rw [decide_eq_false hn];exact h2,fun h=>absurd h hn⟩
 ·have hy : t ∈ Sp.jU S := by
   have:=oT h1;rw [← gA];exact List.mem_map.2 ⟨_,this,rfl⟩
  exact ⟨r,f,by rw [decide_eq_true hy];exact h2,fun _=>h1⟩
theorem KnowS.put (h:KnowS w k p G S ks sg m sl) {v:Sp.Way} (hn:v.t ∉ Sp.jU S):∃w',(Instr.mapUpdate 86 (.map (some m)) (.int .i64 v.t) (.agg #[.int .i64 v.rule,.int .i64 v.frm])).run prog w=.ok () w'∧KnowS w' k p G (S++[v]) ks sg m sl∧Ext (·=m) w w':=by
 obtain ⟨w',h1,h2,h3⟩:=h.seen.put (P:=prog) (T:=86) (K:=32) underlying86 underlying32 (k:=v.t) (qH.2 (by rw [gA];exact hn)) (v.rule,v.frm);exact ⟨w',h1,⟨h.box.ext h3 (fun e=>h.n1 e.symm),h.giv.ext h3 (fun b hb e=>h.n4 (e▸hb)),by rw [jDM];exact h2,h.list.ext h3 (fun b hb e=>h.n5 (e▸hb)),h.n1,h.n2,h.n3,h.n4,h.n5,h.n6⟩,h3⟩
theorem KnowS.app (h:KnowS w k p G S ks sg m sl) {t:Int} {q:Addr} {w1:World} (hq:New w (.cells #[.int .i64 t] 32) q w1) (hn:ks.length≤1000000):∃s1 w2,(Builtin.append_ #[39,39] 39 #[sl.v,(Sl.mk (some q) 1 1).v]).run prog w1=.ok s1.v w2∧Ext sl.blk w1 w2∧Box w2 k [.pointer (some p),sg.v,.map (some m),sl.v] 88 ∧
  KnowS (w2.setCell (k.add 3) s1.v) k p G S (ks++[t]) sg m s1∧Ext (KF k sg m sl) w (w2.setCell (k.add 3) s1.v)∧∀b,KF k sg m s1 b→KF k sg m sl b∨w.heap.size≤b:=by
 have E1:Pure w w1:=Ext.new hq
 have h1:=h.pure E1
 obtain ⟨s1,w2,hr,hR,hE,hb⟩:=h1.list.append (P:=prog) (ty:=39) (c:=1) tI (r:=[.int .i64 t]) (Box.of_new hq).row rfl rfl (by rw [zO];omega) (by rw [zO];simp [maxLen];omega)
 have hbx:=h1.box.ext hE h1.n3
 have hs1:∀b,s1.blk b→sl.blk b∨w.heap.size≤b:=fun b h=>(hb b h).imp_right (fun h=>by have:=E1.size;omega)
 have nk:¬ s1.blk k.block:=fun hh=>(hs1 _ hh).elim h.n3 (fun hh=>by have:=h.box.lt;omega)
 have nm:¬ s1.blk m:=fun hh=>(hs1 _ hh).elim h.n5 (fun hh=>by have:=h.seen.lt;omega)
 have E3:=Ext.setCell (w:=w2) (k.add 3) s1.v
 rw [jK] at E3
 refine ⟨s1,w2,hr,hE,hbx,⟨hbx.set 3 s1.v,((h1.giv.ext hE h.n6).ext E3 (fun b hb e=>h.n2 (e▸hb))),((h1.seen.ext hE h.n5).ext E3 h.n1),by rw [show tmr (ks++[t])=tmr ks++[[.int .i64 t]] by simp [tmr]];exact hR.ext E3 (fun b hb e=>nk (e▸hb)),h.n1,h.n2,nk,h.n4,nm,fun b h1 h2=>(hs1 b h2).elim (h.n6 b h1) (fun hh=>by have:=h.giv.lt h1;omega)⟩,?_,?_⟩
 ·exact ((E1.pure (F:=KF k sg m sl)).trans (hE.mono (fun b _ hb=>.inr (.inr (.inr hb))))).trans (E3.mono (fun b _ hb=>.inl hb))
 ·rintro b (hb | hb | hb | hb)
  ·exact .inl (.inl hb)
  ·exact .inl (.inr (.inl hb))
  ·exact .inl (.inr (.inr (.inl hb)))
  ·exact (hs1 b hb).imp_left (fun h=>.inr (.inr (.inr h)))
end
theorem jEZ (p:Addr) (w0:World):Calls prog 17 #[.pointer (some p)] w0 (fun e w'=>∃r:Option Addr,e=.returned (.pointer r)∧∃k F,r=some k∧zN w' k p [] [] F∧Pure w0 w'∧∀b,F b→w0.heap.size≤b):=by
 refine w_I2 _ w0 (fun r w'=>∃k F,r=some k∧zN w' k p [] [] F∧Pure w0 w'∧∀b,F b→w0.heap.size≤b) ?_;unfold m_I2;refine Br.f rfl ?_;intro p2 w1 h1 p3 w2 h2;have E1:Pure w0 w1:=Ext.new h1;have E2:Pure w1 w2:=Ext.new h2;have hnil:∀b,¬ Sl.nil.blk b:=fun b hb=>by obtain ⟨a,h,_⟩:=hb;cases h
 refine ⟨p3,_,rfl,⟨Sl.nil,p2.block,Sl.nil,⟨Box.of_new h2,Rws.nil _ _ _,(IMap.of_new (f:=wayv) h1).pure E2,Rws.nil _ _ _,?_,hnil _,hnil _,hnil _,hnil _,fun b hb=>(hnil b hb).elim⟩,fun b=>Iff.rfl⟩,E1.trans E2,?_⟩
 ·have:=h1.at_size;have:=h2.at_size;have:=E1.size;have:=(IMap.of_new (f:=wayv) h1).lt;omega
 ·rintro b (rfl | hb | rfl | hb)
  ·have:=h2.at_size;have:=E1.size;omega
  ·exact (hnil b hb).elim
  ·have:=h1.at_size;omega
  ·exact (hnil b hb).elim
theorem jBL (k p:Addr) (w0:World) {G:List Int} {S:List Sp.Way} {F:NP} (h:zN w0 k p G S F) (hn:G.length≤1000000) :
  Calls prog 38 #[.pointer (some k)] w0 (fun e w'=>∃r:Sl,e=.returned r.v∧RetO w0 32 1 (tmr G) r w'):=by
 refine w_J2 _ w0 (fun r w'=>RetO w0 32 1 (tmr G) r w') ?_
 unfold m_J2
 obtain ⟨sg,m,sl,h,hF⟩:=h
 refine Br.f rfl ⟨k,rfl,sg,h.box.cell rfl,?_⟩
 refine (jEV sg G w0 h.giv.lst (fun hz=>?_) hn).mono ?_
 ·rcases h.giv.own with ⟨e,_⟩ | ⟨g,cur,ha,_⟩
  ·exact e
  ·rw [ha] at hz;cases hz
 ·rintro _ w1 ⟨r,rfl,hr⟩
  exact ⟨r,rfl,hr⟩
section
variable {w w':World} {k p:Addr} {G:List Int} {S:List Sp.Way} {F:NP}
theorem zN.hst {w0:World} {H H':NP} (h:zN w k p G S F) (hs:Hst w0 H w H' w') (hd:∀b,F b→¬ H b):zN w' k p G S F∧∀b,F b→¬ H' b:=by
 have hd':=hs.disj (G:=F) (fun b hb=>⟨h.lt hb,hd b hb⟩);exact ⟨h.ext hs.ext hd',hd'⟩
end
theorem yH (k p:Addr) (t rule u:Int) (c1 c2:Addr) (w0:World) {G:List Int} {S:List Sp.Way} {F:NP} (h:zN w0 k p G S F) (h1:w0.cell? c1=some (.pointer (some k))) (h2:w0.cell? c2=some (.int .i64 u)) (d1:¬ F c1.block) (d2:¬ F c2.block) (hn:S.length≤1000000) :
  Calls prog 48 #[.int .i64 t,.int .i64 rule,.pointer (some c1),.pointer (some c2)] w0 (fun e w'=>e=.returned (.tuple #[])∧∃F',zN w' k p G (Sp.qA S ⟨t,rule,u⟩) F'∧Ext F w0 w'∧∀b,F' b→F b∨w0.heap.size≤b):=by
 refine w_K2 _ _ _ _ w0 (fun w'=>∃F',zN w' k p G (Sp.qA S ⟨t,rule,u⟩) F'∧Ext F w0 w'∧∀b,F' b→F b∨w0.heap.size≤b) ?_
 unfold m_K2
 have hA:=h
 obtain ⟨sg,m,sl,h,hF⟩:=h
 obtain ⟨r,f,hl,_⟩:=h.look t
 refine ⟨_,h1,k,rfl,_,h.box.cell rfl,r,f,_,hl,fun hc=>?_,fun hc=>?_⟩
 ·have hnt:t ∉ Sp.jU S:=by simpa using hc
  have hadd:Sp.qA S ⟨t,rule,u⟩=S++[⟨t,rule,u⟩]:=if_neg hnt
  rw [hadd]
  intro H1 w2 hs2
  have E2:=hs2.first
  have hh:∀{b},b<w0.heap.size→¬ H1 b:=fun hb hx=>by have:=hs2.old _ hx;omega
  have E3:Pure w0 w2.drew:=E2.trans (Ext.drew w2)
  have D4:∀w4:World,Pure w4 w4.drew:=fun w4=>Ext.drew w4
  have c1lt:=World.block_lt_of_cell? w0 c1 h1
  refine ⟨fun w'=>KnowS w' k p G S (Sp.jU S) sg m sl∧w'.cell? c1=some (.pointer (some k))∧w'.cell? c2=some (.int .i64 u),⟨h.pure E3,E3.cell h1 (fun h=>h),E3.cell h2 (fun h=>h)⟩,?_⟩
  rintro _ rfl
  have h3:=h.pure E3
  refine ⟨_,fun w' h=>h.2.1,k,rfl,_,fun w' h=>h.1.box.cell rfl,_,fun w' h=>h.2.2,?_⟩
  obtain ⟨w4,hr4,h4,E4⟩:=h3.put (v:=⟨t,rule,u⟩) hnt
  refine ⟨w4,hr4,E4.kept (fun b hb e=>by subst e;exact hh (h.lt (.inr (.inr (.inl rfl)))) hb),?_⟩
  have c14:w4.cell? c1=some (.pointer (some k)):=E4.cell (E3.cell h1 (fun h=>h)) (fun e=>d1 ((hF _).2 (.inr (.inr (.inl e)))))
  have h5:=h4.pure (Ext.drew w4)
  refine ⟨fun w'=>w'.cell? c1=some (.pointer (some k))∧Box w' k [.pointer (some p),sg.v,.map (some m),sl.v] 88,⟨(D4 w4).cell c14 (fun h=>h),h5.box⟩,?_⟩
  rintro _ rfl
  refine ⟨_,fun w' h=>h.1,_,fun w' h=>h.1,k,rfl,sl,fun w' h=>h.2.cell rfl,?_⟩
  intro q w6 h6
  have E6:Pure w4.drew w6:=Ext.new h6
  refine ⟨⟨E6.cell ((D4 w4).cell c14 (fun h=>h)) (fun h=>h),h5.box.pure E6⟩,?_⟩
  obtain ⟨s1,w7,hr7,X7,b7,k7,E7,f7⟩:=h5.app h6 (by rw [Sp.kZ];exact hn)
  have c17:w7.cell? c1=some (.pointer (some k)):=X7.cell (E6.cell ((D4 w4).cell c14 (fun h=>h)) (fun h=>h)) (fun hb=>d1 ((hF _).2 (.inr (.inr (.inr hb)))))
  refine ⟨s1,w7,hr7,⟨c17,b7⟩,X7.kept (fun b hb hx=>hh (h.lt (.inr (.inr (.inr hx)))) hb),k,rfl,b7.canW (by simp),by rw [jK];exact hh h.box.lt,?_⟩
  rintro _ rfl
  rw [← show Sp.jU (S++[⟨t,rule,u⟩])=Sp.jU S++[t] from Sp.kU S ⟨t,rule,u⟩] at k7
  have e4:w0.heap.size≤w4.drew.heap.size:=Nat.le_trans E3.size (Nat.le_trans E4.size (D4 w4).size)
  refine ⟨_,⟨sg,m,s1,k7,fun b=>Iff.rfl⟩,?_,fun b hb=>(f7 b hb).imp (hF b).2 (fun h=>by omega)⟩
  refine ((E3.pure (F:=F)).trans (E4.mono (fun b _ e=>(hF b).2 (.inr (.inr (.inl e)))))).trans (((Ext.drew w4:Pure w4 w4.drew).pure (F:=F)).trans (E7.mono (fun b _ hb=>(hF b).2 hb)))
 ·have hnt:t∈Sp.jU S:=by simpa using hc
  have hadd:Sp.qA S ⟨t,rule,u⟩=S:=if_pos hnt
  rw [hadd]
  intro H1 w2 hs2
  exact ⟨F,hA.pure hs2.first,hs2.first.pure,fun b hb=>.inl hb⟩
structure SeesAt (w0:World) (H:NP) (w:World) (k p p1:Addr) (L:Sp.Pool) (G:List Int) (S:List Sp.Way) (F F0 FP:NP):Prop where
 know:zN w k p G S F
 pool:jL w p L FP
 cap:w.cell? p1=some (.pointer (some k))
 ext:Ext F0 w0 w
 own:∀b,F b→F0 b∨w0.heap.size≤b
 h1:∀b,F b→¬ H b
 h2:∀b,FP b→¬ H b
 h3:¬ H p1.block
 d1:¬ F p1.block
 d2:∀b,F b→¬ FP b
section
variable {w0 w w':World} {H H':NP} {k p p1:Addr} {L:Sp.Pool} {G:List Int} {S S':List Sp.Way} {F F' F0 FP:NP}
theorem SeesAt.pure (h:SeesAt w0 H w k p p1 L G S F F0 FP) (E:Pure w w'):SeesAt w0 H w' k p p1 L G S F F0 FP :=
 ⟨h.know.pure E,h.pool.pure E,E.cell h.cap (fun h=>h),h.ext.thenPure E,h.own,h.h1,h.h2,h.h3,h.d1,h.d2⟩
theorem SeesAt.hst (h:SeesAt w0 H w k p p1 L G S F F0 FP) (hs:Hst w0 H w H' w'):SeesAt w0 H' w' k p p1 L G S F F0 FP:=by
 have x1:=hs.disj (G:=F) (fun b hb=>⟨h.know.lt hb,h.h1 b hb⟩);have x2:=hs.disj (G:=FP) (fun b hb=>⟨h.pool.lt hb,h.h2 b hb⟩);have x3:=hs.disj (G:=(·=p1.block)) (fun b hb=>by subst hb;exact ⟨World.block_lt_of_cell? w p1 h.cap,h.h3⟩) _ rfl;exact ⟨h.know.ext hs.ext x1,h.pool.ext hs.ext x2,hs.ext.cell h.cap x3,h.ext.trans' hs.ext (fun i hi hb=>by have:=hs.old i hb;omega),h.own,x1,x2,x3,h.d1,h.d2⟩
theorem SeesAt.fresh (h:SeesAt w0 H w k p p1 L G S F F0 FP) {q:Nat} (E:Ext (·=q) w w') (q1:¬ F q) (q2:¬ FP q) (q3:q≠p1.block) (q4:w0.heap.size≤q):SeesAt w0 H w' k p p1 L G S F F0 FP :=
 ⟨h.know.ext E (fun b hb e=>q1 (e▸hb)),h.pool.ext E (fun b hb e=>q2 (e▸hb)),E.cell h.cap (fun e=>q3 e.symm),h.ext.trans' E (fun i hi e=>by subst e;omega),h.own,h.h1,h.h2,h.h3,h.d1,h.d2⟩
theorem SeesAt.step (h:SeesAt w0 H w k p p1 L G S F F0 FP) (hH:∀b,H b→b<w.heap.size) (hK:zN w' k p G S' F') (E:Ext F w w') (hF:∀b,F' b→F b∨w.heap.size≤b):SeesAt w0 H w' k p p1 L G S' F' F0 FP:=by
 have hb:=h.ext.size;refine ⟨hK,h.pool.ext E (fun b hb hf=>h.d2 b hf hb),E.cell h.cap h.d1,h.ext.trans' E (fun i hi hf=>(h.own i hf).elim id (fun hh=>by omega)),fun b hb=>?_,fun b hb hh=>?_,h.h2,h.h3,fun hh=>?_,fun b hb hh=>?_⟩
 ·rcases hF b hb with h1 | h1
  ·exact h.own b h1
  ·right;omega
 ·rcases hF b hb with h1 | h1
  ·exact h.h1 b h1 hh
  ·have:=hH b hh;omega
 ·rcases hF _ hh with h1 | h1
  ·exact h.d1 h1
  ·have:=World.block_lt_of_cell? w p1 h.cap;omega
 ·rcases hF b hb with h1 | h1
  ·exact h.d2 b h1 hh
  ·have:=h.pool.lt hh;omega
end
theorem jDE (k p:Addr) (t rule frm:Int) (w0:World) {L:Sp.Pool} {G:List Int} {S:List Sp.Way} {F FP:NP} (h:zN w0 k p G S F) (hP:jL w0 p L FP) (hW:Sp.Wf L) (hd:∀b,F b→¬ FP b)
  (hwo:Sp.WaysOk L G S) (hcl:∀u∈Sp.jU S,Sp.xC L S u) (ht:Sp.inP L t=true) (hv:Sp.xN L G S ⟨t,rule,frm⟩) :
  Calls prog 36 #[.pointer (some k),.int .i64 t,.agg #[.int .i64 rule,.int .i64 frm]] w0 (fun e w'=>e=.returned (.tuple #[])∧∃S' F',zN w' k p G S' F'∧(Sp.WaysOk L G S'∧(∀u∈Sp.jU S',Sp.xC L S' u)∧t∈Sp.jU S'∧∀u∈Sp.jU S,u∈Sp.jU S')∧Ext F w0 w'∧∀b,F' b→F b∨w0.heap.size≤b):=by
 suffices key:∀K:WP,(∀S' F' w',zN w' k p G S' F'→(Sp.WaysOk L G S'∧(∀u∈Sp.jU S',Sp.xC L S' u)∧t∈Sp.jU S'∧∀u∈Sp.jU S,u∈Sp.jU S')→Ext F w0 w'→(∀b,F' b→F b∨w0.heap.size≤b)→K w')→m_O (some k) t rule frm w0 K from
  w_O _ _ _ _ w0 _ (key _ (fun S' F' w' a b c d=>⟨S',F',a,b,c,d⟩))
 intro K hK
 unfold m_O
 intro p1 w1 h1 H1 w2 hs2
 have hp1:=h1.at_size
 have E1:Pure w0 w1:=Ext.new h1
 have nF:∀{b},F b→b<w0.heap.size:=fun hb=>h.lt hb
 have nP:∀{b},FP b→b<w0.heap.size:=fun hb=>hP.lt hb
 have A1:SeesAt w0 None w1 k p p1 L G S F F FP:=⟨h.pure E1,hP.pure E1,(Box.of_new h1).cell0,E1.pure,fun b hb=>.inl hb,fun b _ h=>h,fun b _ h=>h,fun h=>h,fun hb=>by have:=nF hb;omega,hd⟩
 have A2:=A1.hst hs2
 obtain ⟨sg,m,sl,k2,hF2⟩:=A2.know
 obtain ⟨r,f,hl,_⟩:=k2.look t
 refine ⟨_,A2.cap,k,rfl,_,k2.box.cell rfl,r,f,_,hl,fun hc=>?_,fun hc=>?_⟩
 ·intro H2 w4 hs4
  have A4:=A2.hst hs4
  exact hK S F w4 A4.know ⟨hwo,hcl,by simpa using hc,fun _ h=>h⟩ A4.ext (fun b hb=>.inl hb)
 have hnt:t ∉ Sp.jU S:=by simpa using hc
 intro H2 w4 hs4
 have A4:=A2.hst hs4
 have k4:KnowS w4 k p G S (Sp.jU S) sg m sl:=k2.ext hs4.ext (fun b hb=>A4.h1 b ((hF2 b).2 hb))
 have D:∀w:World,Pure w w.drew:=fun w=>Ext.drew w
 refine ⟨fun w'=>w'.cell? p1=some (.pointer (some k))∧Box w' k [.pointer (some p),sg.v,.map (some m),sl.v] 88,⟨(A4.pure (D w4)).cap,(k4.pure (D w4)).box⟩,?_⟩
 rintro _ rfl
 have A5:=A4.pure (D w4)
 have k5:=k4.pure (D w4)
 have hs5:Hst w0 H2 w4.drew H2 w4.drew:=hs4.here.again (D w4).keptP
 refine ⟨_,fun w' h=>h.1,k,rfl,_,fun w' h=>h.2.cell rfl,?_⟩
 obtain ⟨w6,hr6,k6,E6⟩:=k5.put (v:=⟨t,rule,frm⟩) hnt
 have hm:¬ H2 m:=A5.h1 m ((hF2 m).2 (.inr (.inr (.inl rfl))))
 refine ⟨w6,hr6,E6.kept (fun b hb e=>hm (e▸hb)),?_⟩
 have c16:w6.cell? p1=some (.pointer (some k)):=E6.cell A5.cap (fun e=>A5.d1 ((hF2 _).2 (.inr (.inr (.inl e)))))
 refine ⟨_,c16,k,rfl,sl,k6.box.cell rfl,?_⟩
 have k7:=k6.pure (D w6)
 have c17:w6.drew.cell? p1=some (.pointer (some k)):=(D w6).cell c16 (fun h=>h)
 refine ⟨fun w'=>w'.cell? p1=some (.pointer (some k))∧Box w' k [.pointer (some p),sg.v,.map (some m),sl.v] 88,⟨c17,k7.box⟩,?_⟩
 rintro _ rfl
 refine ⟨_,fun w' h=>h.1,_,fun w' h=>h.1,k,rfl,sl,fun w' h=>h.2.cell rfl,?_⟩
 intro q w8 h8
 have E8:Pure w6.drew w8:=Ext.new h8
 refine ⟨⟨E8.cell c17 (fun h=>h),k7.box.pure E8⟩,?_⟩
 have hSn:S.length≤65536:=by have:=hwo.few;have:=hW.ok.few;omega
 obtain ⟨s1,w9,hr9,X9,b9,k9,E9,f9⟩:=k7.app h8 (by rw [Sp.kZ];omega)
 have c19:w9.cell? p1=some (.pointer (some k)):=X9.cell (E8.cell c17 (fun h=>h)) (fun hb=>A5.d1 ((hF2 _).2 (.inr (.inr (.inr hb)))))
 have hH8:∀b,H2 b→b<w4.drew.heap.size:=hs5.lt
 refine ⟨s1,w9,hr9,⟨c19,b9⟩,X9.kept (fun b hb hx=>A5.h1 b ((hF2 b).2 (.inr (.inr (.inr hx)))) hb),k,rfl,b9.canW (by simp),by rw [jK];exact A5.h1 _ ((hF2 _).2 (.inl rfl)),?_⟩
 rintro _ rfl
 rw [← show Sp.jU (S++[⟨t,rule,frm⟩])=Sp.jU S++[t] from Sp.kU S ⟨t,rule,frm⟩] at k9
 have E59:Ext F w4.drew (w9.setCell (k.add 3) s1.v):=(E6.mono (fun b _ e=>(hF2 b).2 (.inr (.inr (.inl e))))).trans (((D w6).pure (F:=F)).trans (E9.mono (fun b _ hb=>(hF2 b).2 hb)))
 have z6:w4.drew.heap.size≤w6.drew.heap.size:=Nat.le_trans E6.size (D w6).size
 have A10:SeesAt w0 H2 (w9.setCell (k.add 3) s1.v) k p p1 L G (S++[⟨t,rule,frm⟩]) (KF k sg m s1) F FP:=A5.step hH8 ⟨sg,m,s1,k9,fun b=>Iff.rfl⟩ E59 (fun b hb=>(f9 b hb).imp (hF2 b).2 (fun h=>by omega))
 have hw1:Sp.WaysOk L G (S++[⟨t,rule,frm⟩]):=hwo.snoc hnt ht hv
 have hl2:sl.len=S.length:=by rw [k2.list.len,zO,Sp.kZ]
 refine ⟨fun i H w'=>∃(j:Nat) (Sj:List Sp.Way) (Fj:NP),i=j∧j≤Sj.length∧SeesAt w0 H w' k p p1 L G Sj Fj F FP∧Sp.WaysOk L G Sj∧(∀u∈Sp.jU (Sj.take j),Sp.xC L Sj u)∧t∈Sp.jU Sj∧∀u∈Sp.jU S,u∈Sp.jU Sj,fun i _=>((L.length:Int) - i).toNat,
  ⟨S.length,_,_,by rw [hl2],by simp,A10,hw1,fun u hu=>by rw [List.take_left] at hu;exact (hcl u hu).snoc,by rw [Sp.kU];simp,fun u hu=>by rw [Sp.kU];exact List.mem_append_left _ hu⟩,?_⟩
 rintro _ Hl wl hl ⟨j,Sj,Fj,rfl,hj,A,hwj,hcj,htj,hSj⟩
 unfold m_O_l1
 obtain ⟨tg,mj,tl,kj,hFj⟩:=A.know
 have hlj:tl.len=Sj.length:=by rw [kj.list.len,zO,Sp.kZ]
 refine ⟨_,A.cap,k,rfl,tl,kj.box.cell rfl,fun hc=>?_,fun hc=>?_⟩
 ·have hlt:=zR hlj hc
  obtain ⟨a8,at8,_,c8⟩:=jDS kj.list.lst (j:=j) (by rw [Sp.kZ];exact hlt)
  have hu:(Sp.jU Sj)[j]'(by rw [Sp.kZ];exact hlt)=Sj[j].t:=by simp [Sp.jU]
  rw [hu] at c8
  have hum:Sj[j].t∈Sp.jU Sj:=List.mem_map.2 ⟨_,List.getElem_mem hlt,rfl⟩
  have hui:=hwj.inp _ hum
  have hLn:Sj.length≤L.length:=hwj.few
  have hL6:=hW.ok.few
  have htk:Sp.jU (Sj.take (j+1))=Sp.jU (Sj.take j)++[Sj[j].t]:=by rw [List.take_succ_eq_append_getElem hlt,Sp.kU]
  generalize Sj[j].t=u at *
  refine ⟨_,A.cap,k,rfl,tl,kj.box.cell rfl,a8,at8,u,c8,?_⟩
  intro p5 w11 h11
  have hp5:=h11.at_size
  have E11:Pure wl w11:=Ext.new h11
  have b5:=Box.of_new h11
  have hnh5:¬ Hl p5.block:=fun hh=>by have:=hl.lt _ hh;omega
  refine ⟨b5.canW0 (by simp),hnh5,?_⟩
  rintro _ rfl
  have b12:=b5.set0 (v:=.int .i64 u)
  have E12:=Ext.setCell (w:=w11) p5 (.int .i64 u)
  have wl0:=A.ext.size
  have n5:¬ Fj p5.block:=fun hh=>by have:=A.know.lt hh;omega
  have n5p:¬ FP p5.block:=fun hh=>by have:=A.pool.lt hh;omega
  have n51:p5.block≠p1.block:=fun hh=>by have:=World.block_lt_of_cell? wl p1 A.cap;omega
  have A12:SeesAt w0 Hl (w11.setCell p5 (.int .i64 u)) k p p1 L G Sj Fj F FP:=(A.pure E11).fresh E12 n5 n5p n51 (by omega)
  have k12:KnowS (w11.setCell p5 (.int .i64 u)) k p G Sj (Sp.jU Sj) tg mj tl:=(kj.pure E11).ext E12 (fun b hb e=>n5 (e▸(hFj b).2 hb))
  have hl12:Hst w0 Hl (w11.setCell p5 (.int .i64 u)) Hl (w11.setCell p5 (.int .i64 u)):=(hl.again E11.keptP).again (E12.kept (fun b hb e=>hnh5 (e▸hb)))
  generalize w11.setCell p5 (.int .i64 u)=w12 at *
  clear E11 E12 h11
  refine ⟨fun w'=>w'.cell? p1=some (.pointer (some k))∧Box w' k [.pointer (some p),tg.v,.map (some mj),tl.v] 88∧Box w' p5 [.int .i64 u] 32,⟨(A12.pure (D w12)).cap,(k12.pure (D w12)).box,b12.pure (D w12)⟩,?_⟩
  rintro _ rfl
  have A17:=A12.pure (D w12)
  have b17:=b12.pure (D w12)
  have k17:=k12.pure (D w12)
  have hs17:Hst w0 Hl w12.drew Hl w12.drew:=hl12.again (D w12).keptP
  generalize hn:Sp.jD L u=n at *
  have J2 : ∀ (a9 : Addr) (w : World), Hst w0 Hl w Hl w → SeesAt w0 Hl w k p p1 L G Sj Fj F FP → w.cell? p5 = some (.int .i64 u) → Row w a9 (yV n) → ¬ Fj a9.block → ¬ Hl a9.block →
    m_O_j2 p1 j p5 a9 w0 Hl w (fun y'0 H' w'=>(∃(j:Nat) (Sj:List Sp.Way) (Fj:NP),y'0=j∧j≤Sj.length∧SeesAt w0 H' w' k p p1 L G Sj Fj F FP∧Sp.WaysOk L G Sj∧(∀u∈Sp.jU (Sj.take j),Sp.xC L Sj u)∧t∈Sp.jU Sj∧∀u∈Sp.jU S,u∈Sp.jU Sj)∧((L.length:Int) - y'0).toNat<((L.length:Int) - (j:Int)).toNat) K:=by
   intro a9 w hs Aw c5 r9 n9 nh9
   have fin : ∀ (H' : NP) (w' : World) (S' : List Sp.Way) (F' : NP), SeesAt w0 H' w' k p p1 L G S' F' F FP → Sp.WaysOk L G S' → (∃ M, S' = Sj ++ M) → Sp.xC L S' u →
     ((∃(j':Nat) (Sj:List Sp.Way) (Fj:NP),IntKind.i64.wrap ((j:Int)+1)=j'∧j'≤Sj.length∧SeesAt w0 H' w' k p p1 L G Sj Fj F FP∧Sp.WaysOk L G Sj∧(∀u∈Sp.jU (Sj.take j'),Sp.xC L Sj u)∧t∈Sp.jU Sj∧∀u∈Sp.jU S,u∈Sp.jU Sj)∧((L.length:Int) - IntKind.i64.wrap ((j:Int)+1)).toNat<((L.length:Int) - (j:Int)).toNat):=by
    rintro H' w' S' F' A' hw' ⟨M,rfl⟩ hsh
    have hsub:∀x∈Sp.jU Sj,x∈Sp.jU (Sj++M):=fun x hx=>by unfold Sp.jU at hx ⊢;rw [List.map_append];exact List.mem_append_left _ hx
    rw [zE (n:=L.length) (by omega) (by omega)]
    refine ⟨⟨j+1,_,F',rfl,by rw [List.length_append];omega,A',hw',fun x hx=>?_,hsub t htj,fun x hx=>hsub x (hSj x hx)⟩,kN (by omega)⟩
    rw [List.take_append_of_le_length (by omega),htk,List.mem_append,List.mem_singleton] at hx
    rcases hx with hx | rfl
    ·exact fun r y ha=>hsub y (hcj x hx r y ha)
    ·exact hsh
   unfold m_O_j2
   have ck:w.cell? a9=some (.int .i64 n.kind):=by simpa [Addr.add,yV] using r9 0 (by simp [yV])
   have ca:w.cell? (a9.add 5)=some (.int .i64 n.a):=r9 5 (by simp [yV])
   have cb:w.cell? (a9.add 6)=some (.int .i64 n.b):=r9 6 (by simp [yV])
   refine ⟨_,ck,fun hk=>?_,fun hk=>?_⟩
   ·have hk4:n.kind=4:=by simpa using hk
    have hkids:=Sp.jHR hW hui (by rw [hn];exact hk4)
    rw [hn] at hkids
    refine ⟨_,ca,?_⟩
    refine (yH k p n.a 1 u p1 p5 w Aw.know Aw.cap c5 Aw.d1 (fun hh=>n5 hh) (by omega)).mono ?_
    rintro _ w13 ⟨rfl,F1,K1,X1,f1⟩
    have A1:=Aw.step hs.lt K1 X1 f1
    have hs13:=hs.again (X1.kept (fun b hb hf=>Aw.h1 b hf hb))
    refine ⟨rfl,X1.kept (fun b hb hf=>Aw.h1 b hf hb),n.b,X1.cell cb (by rw [jK];exact n9),?_⟩
    have a1:Sp.vF L 1 u n.a:=.inl ⟨rfl,by rw [hn];exact hk4,by rw [hn]⟩
    have a2:Sp.vF L 2 u n.b:=.inr (.inl ⟨rfl,by rw [hn];exact hk4,by rw [hn]⟩)
    have hw1:=hwj.add (v:=⟨n.a,1,u⟩) hkids.1.1 (.inr ⟨by simp,a1,hum⟩)
    have u1:=(Sp.vE Sj ⟨n.a,1,u⟩).2 u hum
    have hw2:=hw1.add (v:=⟨n.b,2,u⟩) hkids.2.1 (.inr ⟨by simp,a2,u1⟩)
    have p5lt:=World.block_lt_of_cell? w p5 c5
    have m5:¬ F1 p5.block:=fun hh=>(f1 _ hh).elim n5 (fun hx=>by omega)
    refine (yH k p n.b 2 u p1 p5 w13 A1.know A1.cap (X1.cell c5 n5) A1.d1 m5 (by have:=hw1.few;omega)).mono ?_
    rintro _ w14 ⟨rfl,F2,K2,X2,f2⟩
    have A2:=A1.step hs13.lt K2 X2 f2
    refine ⟨rfl,X2.kept (fun b hb hf=>A1.h1 b hf hb),?_⟩
    refine fin Hl w14 _ F2 A2 hw2 ?_ ?_
    ·obtain ⟨M1,e1⟩:=Sp.yJ Sj ⟨n.a,1,u⟩
     obtain ⟨M2,e2⟩:=Sp.yJ (Sp.qA Sj ⟨n.a,1,u⟩) ⟨n.b,2,u⟩
     exact ⟨M1++M2,by rw [e2,e1,List.append_assoc]⟩
    ·rintro r y (⟨_,_,h3⟩ | ⟨_,_,h3⟩ | ⟨_,h2,_⟩)
     ·rw [hn] at h3;subst h3
      exact (Sp.vE _ ⟨n.b,2,u⟩).2 _ (Sp.vE Sj ⟨n.a,1,u⟩).1
     ·rw [hn] at h3;subst h3
      exact (Sp.vE _ ⟨n.b,2,u⟩).1
     ·rw [hn,hk4] at h2;cases h2
   ·have hk4:n.kind≠4:=by simpa using hk
    rintro y1 rfl
    have hy:(cond ((n.kind:Int) == 7) ((n.kind:Int) == 7) (cond ((n.kind:Int) == 8) ((n.kind:Int) == 8) ((n.kind:Int) == 9)))=Sp.kL n.kind:=by
     unfold Sp.kL;cases h7:(n.kind == 7) <;> cases h8:(n.kind == 8) <;> simp
    rw [hy]
    refine ⟨fun hs7=>?_,fun hs7=>?_⟩
    ·intro H3 w15 hs15
     have A15:=Aw.hst hs15
     have hkids:=Sp.kids7 hW hui (by rw [hn];exact hs7)
     rw [hn] at hkids
     have r15:=jHM r9 nh9 hs15
     have ca15:w15.cell? (a9.add 5)=some (.int .i64 n.a):=r15 5 (by simp)
     have c515:=jGI c5 hnh5 hs15
     refine ⟨n.a,ca15,?_⟩
     refine (yH k p n.a 3 u p1 p5 w15 A15.know A15.cap c515 A15.d1 n5 (by omega)).mono ?_
     rintro _ w16 ⟨rfl,F1,K1,X1,f1⟩
     have A1:=A15.step hs15.lt K1 X1 f1
     refine ⟨rfl,X1.kept (fun b hb hf=>A15.h1 b hf hb),?_⟩
     have a3:Sp.vF L 3 u n.a:=.inr (.inr ⟨rfl,by rw [hn];exact hs7,by rw [hn]⟩)
     refine fin H3 w16 _ F1 A1 (hwj.add (v:=⟨n.a,3,u⟩) hkids.1 (.inr ⟨by simp,a3,hum⟩)) (Sp.yJ Sj ⟨n.a,3,u⟩) ?_
     rintro r y (⟨_,h2,_⟩ | ⟨_,h2,_⟩ | ⟨_,_,h3⟩)
     ·rw [hn] at h2;exact absurd h2 hk4
     ·rw [hn] at h2;exact absurd h2 hk4
     ·rw [hn] at h3;subst h3
      exact (Sp.vE Sj ⟨n.a,3,u⟩).1
    ·intro H3 w15 hs15
     refine fin H3 w15 Sj Fj (Aw.hst hs15) hwj ⟨[],by simp⟩ ?_
     rintro r y (⟨_,h2,_⟩ | ⟨_,h2,_⟩ | ⟨_,h2,_⟩)
     ·rw [hn] at h2;exact absurd h2 hk4
     ·rw [hn] at h2;exact absurd h2 hk4
     ·rw [hn,hs7] at h2;cases h2
  refine ⟨_,fun w' h=>h.1,k,rfl,_,fun w' h=>h.2.1.cell0,_,fun w' h=>h.2.2.cell0,?_,?_⟩
  ·refine (jAL p u w12.drew A17.pool hW.ok).mono ?_
   rintro _ w18 ⟨nk,nf,nt,nu,nx,na,nb,ok,rfl,⟨hnn,_⟩,E18⟩
   rw [hn] at hnn
   refine ⟨_,_,_,_,_,_,_,_,rfl,⟨(A17.pure E18).cap,k17.box.pure E18,b17.pure E18⟩,E18.keptP,?_⟩
   intro p6 w19 h19
   have hp6:=h19.at_size
   have E19:=E18.trans (Ext.new h19)
   have b6:=Box.of_new h19
   have z18:=E18.size
   have z12:wl.heap.size≤w12.drew.heap.size:=by have:=(b17.lt);omega
   have nh6:¬ Hl p6.block:=fun hh=>by have:=hl.lt _ hh;omega
   refine ⟨⟨(A17.pure E19).cap,k17.box.pure E19,b17.pure E19⟩,b6.canWs (n:=7) (by simp),nh6,?_⟩
   rintro _ rfl
   have E20:=Ext.storeRow w19 p6 [(.int .i64 nk),(.int .i64 nf),(.int .i64 nt),(.int .u64 nu),(.string nx),(.int .i64 na),(.int .i64 nb)]
   have b20:=b6.store (vs:=[(.int .i64 nk),(.int .i64 nf),(.int .i64 nt),(.int .u64 nu),(.string nx),(.int .i64 na),(.int .i64 nb)]) rfl
   have A19:=A17.pure E19
   have n6:¬ Fj p6.block:=fun hh=>by have:=A17.know.lt hh;omega
   have A20:=A19.fresh E20 n6 (fun hh=>by have:=A17.pool.lt hh;omega) (fun hh=>by have:=World.block_lt_of_cell? _ p1 A17.cap;omega) (by have:=A17.ext.size;omega)
   have k20:=(k17.box.pure E19).ext E20 (fun e=>by have:=k17.box.lt;omega)
   have b520:=(b17.pure E19).ext E20 (fun e=>by have:=b17.lt;omega)
   have hs20:Hst w0 Hl _ Hl _:=(hs17.again E19.keptP).again (E20.kept (fun b hb e=>nh6 (e▸hb)))
   exact ⟨⟨A20.cap,k20,b520⟩,J2 p6 _ hs20 A20 b520.cell0 (by rw [← hnn];exact b20.row) n6 nh6⟩
  ·intro p7 w21 h21
   have hp6:=h21.at_size
   have E21:Pure w12.drew w21:=Ext.new h21
   have b7:=Box.of_new h21
   refine ⟨⟨(A17.pure E21).cap,k17.box.pure E21,b17.pure E21⟩,?_⟩
   refine (jAL p u w21 (A17.pure E21).pool hW.ok).mono ?_
   rintro _ w22 ⟨nk,nf,nt,nu,nx,na,nb,ok,rfl,⟨hnn,_⟩,E22⟩
   rw [hn] at hnn
   have E19:=E21.trans E22
   have z12:wl.heap.size≤w12.drew.heap.size:=by have:=(b17.lt);omega
   have nh6:¬ Hl p7.block:=fun hh=>by have:=hl.lt _ hh;omega
   have b6:=b7.pure E22
   refine ⟨_,_,_,_,_,_,_,_,rfl,⟨(A17.pure E19).cap,k17.box.pure E19,b17.pure E19⟩,E22.keptP,b6.canWs (n:=7) (by simp),nh6,?_⟩
   rintro _ rfl
   have E20:=Ext.storeRow w22 p7 [(.int .i64 nk),(.int .i64 nf),(.int .i64 nt),(.int .u64 nu),(.string nx),(.int .i64 na),(.int .i64 nb)]
   have b20:=b6.store (vs:=[(.int .i64 nk),(.int .i64 nf),(.int .i64 nt),(.int .u64 nu),(.string nx),(.int .i64 na),(.int .i64 nb)]) rfl
   have A19:=A17.pure E19
   have n6:¬ Fj p7.block:=fun hh=>by have:=A17.know.lt hh;omega
   have A20:=A19.fresh E20 n6 (fun hh=>by have:=A17.pool.lt hh;omega) (fun hh=>by have:=World.block_lt_of_cell? _ p1 A17.cap;omega) (by have:=A17.ext.size;omega)
   have k20:=(k17.box.pure E19).ext E20 (fun e=>by have:=k17.box.lt;omega)
   have b520:=(b17.pure E19).ext E20 (fun e=>by have:=b17.lt;omega)
   have hs20:Hst w0 Hl _ Hl _:=(hs17.again E19.keptP).again (E20.kept (fun b hb e=>nh6 (e▸hb)))
   exact ⟨⟨A20.cap,k20,b520⟩,J2 p7 _ hs20 A20 b520.cell0 (by rw [← hnn];exact b20.row) n6 nh6⟩
 ·have hge:=zY hlj hj hc
  subst hge
  rw [List.take_length] at hcj
  exact hK Sj Fj wl A.know ⟨hwj,hcj,htj,hSj⟩ A.ext A.own
end Go.Proofs
end
section
open Go Go.SE
namespace Go.Sp
def jAM (G:List Int) (t:Int):List Int:=if t∈G then G else G++[t]
def xH (L:Pool) (G:List Int) (t:Int):List Int:=if inP L t=true then jAM G t else G
theorem oN {G:List Int} {t x:Int}:x∈jAM G t↔x∈G∨x=t:=by
 unfold jAM;split
 ·rename_i h;exact ⟨.inl,fun h'=>h'.elim id (fun e=>e▸h)⟩
 ·simp
theorem jIM {G:List Int} {t:Int} (h:G.Nodup):(jAM G t).Nodup:=by
 unfold jAM;split
 ·exact h
 ·rename_i hn;rw [List.nodup_append];exact ⟨h,by simp,fun x hx y hy e=>by simp at hy;subst hy;exact hn (e▸hx)⟩
def jHQ (L:Pool) (S:List Way) (t:Int):Int×Int×Bool×Bool :=
 if inP L t=false then (0,0,false,false)
 else if jBE (jD L t).kind=true then (0,0,true,true)
 else if (jD L t).kind=4 then ((jD L t).a,(jD L t).b,false,true)
 else if (jD L t).kind=5 then ((jD L t).a,0,false,true)
 else if (jD L t).kind=6 then (0,0,false,false)
 else ((jD L t).a,(jBA L (jAP (jD L t))).1,false,(jBA L (jAP (jD L t))).2 && decide ((jBA L (jAP (jD L t))).1∈jU S))
end Go.Sp
namespace Go.Proofs
open Try
attribute [local irreducible] Calls
abbrev MakePost (p:Addr) (L:Sp.Pool) (F:NP) (w:World) (n:Sp.Node) (e:Ending) (w':World):Prop :=
 ∃r1:Int,∃r2:Int,e=.returned (.tuple #[.int .i64 r1,.int .i64 r2])∧((r1,r2)=((Sp.make L n).1,(Sp.make L n).2.1)∧∃F',jL w' p (Sp.make L n).2.2 F'∧Ext F w w'∧∀b,F' b→F b∨w.heap.size≤b)
section
variable (p:Addr) (w0:World) {L:Sp.Pool} {F:NP} (hP:jL w0 p L F) (hok:Sp.Ok L)
include hP hok
theorem c_Num (n:Int):Calls prog 54 #[.pointer (some p),.int .u64 n] w0 (MakePost p L F w0 ⟨2,0,0,n,⟨#[]⟩,0,0⟩):=by
 refine w_U1 _ _ w0 (fun r1 r2 w'=>(r1,r2)=((Sp.make L ⟨2,0,0,n,⟨#[]⟩,0,0⟩).1,(Sp.make L ⟨2,0,0,n,⟨#[]⟩,0,0⟩).2.1)∧∃F',jL w' p (Sp.make L ⟨2,0,0,n,⟨#[]⟩,0,0⟩).2.2 F'∧Ext F w0 w'∧∀b,F' b→F b∨w0.heap.size≤b) ?_;unfold m_U1;refine (yT p _ _ _ _ _ _ _ w0 hP hok).mono ?_;rintro _ w1 ⟨r1,r2,rfl,h⟩;exact ⟨r1,r2,rfl,h⟩
theorem c_Name (n:Int):Calls prog 52 #[.pointer (some p),.int .i64 n] w0 (MakePost p L F w0 ⟨1,n,0,0,⟨#[]⟩,0,0⟩):=by
 refine w_T1 _ _ w0 (fun r1 r2 w'=>(r1,r2)=((Sp.make L ⟨1,n,0,0,⟨#[]⟩,0,0⟩).1,(Sp.make L ⟨1,n,0,0,⟨#[]⟩,0,0⟩).2.1)∧∃F',jL w' p (Sp.make L ⟨1,n,0,0,⟨#[]⟩,0,0⟩).2.2 F'∧Ext F w0 w'∧∀b,F' b→F b∨w0.heap.size≤b) ?_;unfold m_T1;refine (yT p _ _ _ _ _ _ _ w0 hP hok).mono ?_;rintro _ w1 ⟨r1,r2,rfl,h⟩;exact ⟨r1,r2,rfl,h⟩
theorem c_Pair (a b:Int):Calls prog 59 #[.pointer (some p),.int .i64 a,.int .i64 b] w0 (MakePost p L F w0 ⟨4,0,0,0,⟨#[]⟩,a,b⟩):=by
 refine w_W1 _ _ _ w0 (fun r1 r2 w'=>(r1,r2)=((Sp.make L ⟨4,0,0,0,⟨#[]⟩,a,b⟩).1,(Sp.make L ⟨4,0,0,0,⟨#[]⟩,a,b⟩).2.1)∧∃F',jL w' p (Sp.make L ⟨4,0,0,0,⟨#[]⟩,a,b⟩).2.2 F'∧Ext F w0 w'∧∀b,F' b→F b∨w0.heap.size≤b) ?_;unfold m_W1;refine (yT p _ _ _ _ _ _ _ w0 hP hok).mono ?_;rintro _ w1 ⟨r1,r2,rfl,h⟩;exact ⟨r1,r2,rfl,h⟩
theorem c_Sign (n a:Int):Calls prog 68 #[.pointer (some p),.int .i64 n,.int .i64 a] w0 (MakePost p L F w0 ⟨7,n,0,0,⟨#[]⟩,a,0⟩):=by
 refine w_Y1 _ _ _ w0 (fun r1 r2 w'=>(r1,r2)=((Sp.make L ⟨7,n,0,0,⟨#[]⟩,a,0⟩).1,(Sp.make L ⟨7,n,0,0,⟨#[]⟩,a,0⟩).2.1)∧∃F',jL w' p (Sp.make L ⟨7,n,0,0,⟨#[]⟩,a,0⟩).2.2 F'∧Ext F w0 w'∧∀b,F' b→F b∨w0.heap.size≤b) ?_;unfold m_Y1;refine (yT p _ _ _ _ _ _ _ w0 hP hok).mono ?_;rintro _ w1 ⟨r1,r2,rfl,h⟩;exact ⟨r1,r2,rfl,h⟩
theorem c_Hash (a:Int):Calls prog 61 #[.pointer (some p),.int .i64 a] w0 (MakePost p L F w0 ⟨5,0,0,0,⟨#[]⟩,a,0⟩):=by
 refine w_X1 _ _ w0 (fun r1 r2 w'=>(r1,r2)=((Sp.make L ⟨5,0,0,0,⟨#[]⟩,a,0⟩).1,(Sp.make L ⟨5,0,0,0,⟨#[]⟩,a,0⟩).2.1)∧∃F',jL w' p (Sp.make L ⟨5,0,0,0,⟨#[]⟩,a,0⟩).2.2 F'∧Ext F w0 w'∧∀b,F' b→F b∨w0.heap.size≤b) ?_;unfold m_X1;refine (yT p _ _ _ _ _ _ _ w0 hP hok).mono ?_;rintro _ w1 ⟨r1,r2,rfl,h⟩;exact ⟨r1,r2,rfl,h⟩
end
theorem KnowS.appG {w:World} {k p:Addr} {G:List Int} {S:List Sp.Way} {ks:List Int} {sg sl:Sl} {m:Nat} (h:KnowS w k p G S ks sg m sl) {t:Int} {q:Addr} {w1:World} (hq:New w (.cells #[.int .i64 t] 32) q w1) (hn:G.length≤1000000):∃s1 w2,(Builtin.append_ #[39,39] 39 #[sg.v,(Sl.mk (some q) 1 1).v]).run prog w1=.ok s1.v w2∧Ext sg.blk w1 w2∧zS w2 (k.add 1) ∧
  KnowS (w2.setCell (k.add 1) s1.v) k p (G++[t]) S ks s1 m sl∧Ext (KF k sg m sl) w (w2.setCell (k.add 1) s1.v)∧∀b,KF k s1 m sl b→KF k sg m sl b∨w.heap.size≤b:=by
 have E1:Pure w w1:=Ext.new hq
 have h1:=h.pure E1
 obtain ⟨s1,w2,hr,hR,hE,hb⟩:=h1.giv.append (P:=prog) (ty:=39) (c:=1) tI (r:=[.int .i64 t]) (Box.of_new hq).row rfl rfl (by rw [zO];omega) (by rw [zO];simp [maxLen];omega)
 have hbx:=h1.box.ext hE h1.n2
 have hs1:∀b,s1.blk b→sg.blk b∨w.heap.size≤b:=fun b h=>(hb b h).imp_right (fun h=>by have:=E1.size;omega)
 have nk:¬ s1.blk k.block:=fun hh=>(hs1 _ hh).elim h.n2 (fun hh=>by have:=h.box.lt;omega)
 have nm:¬ s1.blk m:=fun hh=>(hs1 _ hh).elim h.n4 (fun hh=>by have:=h.seen.lt;omega)
 have E3:=Ext.setCell (w:=w2) (k.add 1) s1.v
 rw [jK] at E3
 refine ⟨s1,w2,hr,hE,hbx.canW (by simp),⟨hbx.set 1 s1.v,by rw [show tmr (G++[t])=tmr G++[[.int .i64 t]] by simp [tmr]];exact hR.ext E3 (fun b hb e=>nk (e▸hb)),((h1.seen.ext hE h.n4).ext E3 h.n1),((h1.list.ext hE (fun b h2 h1=>h.n6 b h1 h2)).ext E3 (fun b hb e=>h.n3 (e▸hb))),h.n1,nk,h.n3,nm,h.n5,fun b h1 h2=>(hs1 b h1).elim (fun h1=>h.n6 b h1 h2) (fun hh=>by have:=h.list.lt h2;omega)⟩,?_,?_⟩
 ·exact ((E1.pure (F:=KF k sg m sl)).trans (hE.mono (fun b _ hb=>.inr (.inl hb)))).trans (E3.mono (fun b _ hb=>.inl hb))
 ·rintro b (hb | hb | hb | hb)
  ·exact .inl (.inl hb)
  ·exact (hs1 b hb).imp_left (fun h=>.inr (.inl h))
  ·exact .inl (.inr (.inr (.inl hb)))
  ·exact .inl (.inr (.inr (.inr hb)))
theorem jFA (k p:Addr) (t:Int) (w0:World) {L:Sp.Pool} {G:List Int} {S:List Sp.Way} {F FP:NP} (h:zN w0 k p G S F) (hP:jL w0 p L FP) (hW:Sp.Wf L) (hd:∀b,F b→¬ FP b) (hk:Sp.KnowOk L G S) :
  Calls prog 21 #[.pointer (some k),.int .i64 t] w0 (fun e w'=>∃r:Int,e=.returned (.int .i64 r)∧(r=(if Sp.inP L t=true then 0 else 51)∧∃S' F',zN w' k p (Sp.xH L G t) S' F'∧Sp.KnowOk L (Sp.xH L G t) S'∧Ext F w0 w'∧∀b,F' b→F b∨w0.heap.size≤b)):=by
 suffices key:∀K:Int→WP,(∀S' F' w',zN w' k p (Sp.xH L G t) S' F'→Sp.KnowOk L (Sp.xH L G t) S'→Ext F w0 w'→(∀b,F' b→F b∨w0.heap.size≤b)→K (if Sp.inP L t=true then 0 else 51) w')→m_L1 (some k) t w0 K from
  w_L1 _ _ w0 _ (key _ (fun S' F' w' a b c d=>⟨rfl,S',F',a,b,c,d⟩))
 intro K hK
 unfold m_L1
 obtain ⟨sg,m,sl,k0,hF⟩:=h
 refine Br.f rfl ⟨k,rfl,_,k0.box.cell0,?_⟩
 refine (jAL p t w0 hP hW.ok).mono ?_
 rintro _ w1 ⟨nk,nf,nt,nu,nx,na,nb,ok,rfl,⟨_,rfl⟩,E1⟩
 refine ⟨_,_,_,_,_,_,_,_,rfl,E1.keptP,fun hc=>?_,fun hc=>?_⟩
 ·have hin:Sp.inP L t=false:=by simpa using hc
  intro H1 w3 hs3
  have E3:Pure w0 w3:=E1.hst hs3
  have hg:Sp.xH L G t=G:=by unfold Sp.xH;rw [if_neg (by simp [hin])]
  have:=hK S F w3 (by rw [hg];exact ⟨sg,m,sl,k0.pure E3,hF⟩) (by rw [hg];exact hk) E3.pure (fun b hb=>.inl hb)
  simpa [hin] using this
 have hin:Sp.inP L t=true:=by simpa using hc
 have hg:Sp.xH L G t=Sp.jAM G t:=by unfold Sp.xH;rw [if_pos hin]
 rw [hg] at hK
 simp only [hin,if_true] at hK
 refine ⟨k,rfl,?_⟩
 intro H1 w3 hs3
 have E3:Pure w0 w3:=E1.hst hs3
 have k3:=k0.pure E3
 have nh:∀b,b<w0.heap.size→¬ H1 b:=fun b hb hh=>by have:=hs3.old b hh;omega
 have hGn:G.length≤65536:=by have:=Sp.oI hk.gnd (fun t ht=>hk.inp t (hk.giv t ht));have:=hW.ok.few;omega
 have fin:∀(w:World) (F':NP),zN w k p (Sp.jAM G t) S F'→Ext F w0 w→(∀b,F' b→F b∨w0.heap.size≤b)→Hst w0 H1 w H1 w→(∀b,F' b→¬ H1 b)→Calls prog 36 #[.pointer (some k),.int .i64 t,.agg #[.int .i64 0,.int .i64 0]] w (fun e w8=>e=.returned (.tuple #[])∧Kept H1 w w8∧K 0 w8):=by
  intro w F' hw hE hf hs hh;have hGs:∀x∈G,x∈Sp.jAM G t:=fun x hx=>Sp.oN.2 (.inl hx);have hPw:jL w p L FP:=hP.ext hE (fun b hb hfb=>hd b hfb hb);refine (jDE k p t 0 0 w hw hPw hW (fun b hb hp=>?_) (hk.toWaysOk.mono hGs) hk.closed hin (.inl ⟨rfl,rfl,Sp.oN.2 (.inr rfl)⟩)).mono ?_
  ·rcases hf b hb with h1 | h1
   ·exact hd b h1 hp
   ·have:=hP.lt hp;omega
  ·rintro _ w8 ⟨rfl,S',F2,K2,⟨q1,q2,q3,q4⟩,X2,f2⟩;have z:=hE.size;refine ⟨rfl,X2.kept (fun b hb hx=>hh b hx hb),hK S' F2 w8 K2 ⟨q1,q2,fun x hx=>?_,Sp.jIM hk.gnd⟩ (hE.trans' X2 (fun i hi hx=>(hf i hx).elim id (fun h=>by omega))) (fun b hb=>?_)⟩
   ·rcases Sp.oN.1 hx with hx | rfl
    ·exact q4 x (hk.giv x hx)
    ·exact q3
   ·rcases f2 b hb with h1 | h1
    ·exact hf b h1
    ·right;omega
 refine ⟨_,k3.box.cell rfl,?_⟩
 refine (jAE sg G t w3 k3.giv.lst (by omega)).mono ?_
 rintro _ w3 ⟨r,rfl,rfl,rfl⟩
 refine ⟨_,rfl,Kept.refl _,fun hc2=>?_,fun hc2=>?_⟩
 ·have hnG:t ∉ G:=by simpa using hc2
  have hadd:Sp.jAM G t=G++[t]:=if_neg hnG
  refine ⟨k,rfl,_,k3.box.cell rfl,?_⟩
  intro q w5 h5
  obtain ⟨s1,w6,hr6,X6,cw6,k6,E6,f6⟩:=k3.appG h5 (by omega)
  have hs5:Hst w0 H1 w5 H1 w5:=hs3.here.again (Ext.new h5:Pure w3 w5).keptP
  have sgn:∀b,sg.blk b→¬ H1 b:=fun b hb=>nh b (k0.lt (.inr (.inl hb)))
  have kk:Kept H1 w5 w6:=X6.kept (fun b hb hx=>sgn b hx hb)
  refine ⟨s1,w6,hr6,kk,k,rfl,cw6,by rw [jK];exact nh _ k0.box.lt,?_⟩
  rintro _ rfl
  have z3:=E3.size
  have z5:w3.heap.size≤w5.heap.size:=(Ext.new h5:Pure w3 w5).size
  refine fin _ (KF k s1 m sl) (by rw [hadd];exact ⟨s1,m,sl,k6,fun b=>Iff.rfl⟩) ((E3.pure (F:=F)).trans (E6.mono (fun b _ hb=>(hF b).2 hb))) (fun b hb=>(f6 b hb).imp (hF b).2 (fun h=>by omega)) ((hs5.again kk).again (Kept.setCell (by rw [jK];exact nh _ k0.box.lt))) (fun b hb hh=>?_)
  rcases f6 b hb with h1 | h1
  ·exact nh b (k0.lt h1) hh
  ·have:=hs3.lt b hh;omega
 ·have hG:t∈G:=by simpa using hc2
  have hadd:Sp.jAM G t=G:=if_pos hG
  exact fin w3 F (by rw [hadd];exact ⟨sg,m,sl,k3,hF⟩) E3.pure (fun b hb=>.inl hb) hs3.here (fun b hb=>nh b (k0.lt ((hF b).1 hb)))
end Go.Proofs
end
section
namespace Go.Sp
theorem lO {L M:Pool} {r u t:Int} (hu:inP L u=true):vF (L++M) r u t↔vF L r u t:=by
 unfold vF;rw [kI hu]
theorem xN.app {L M:Pool} {G:List Int} {pre:List Way} {v:Way} (h:xN L G pre v) (hp:∀t∈jU pre,inP L t=true):xN (L++M) G pre v:=by
 rcases h with h | ⟨a,b,c⟩
 ·exact .inl h
 ·exact .inr ⟨a,(lO (hp _ c)).2 b,c⟩
theorem jCL {S:List Way} {i:Nat} {t:Int} (h:t∈jU (S.take i)):t∈jU S:=by
 unfold jU at h ⊢;obtain ⟨v,hv,e⟩:=List.mem_map.1 h;exact List.mem_map.2 ⟨v,List.mem_of_mem_take hv,e⟩
theorem KnowOk.app {L M:Pool} {G:List Int} {S:List Way} (h:KnowOk L G S):KnowOk (L++M) G S :=
 ⟨⟨h.nodup,fun t ht=>oU (h.inp t ht),fun i hi=>(h.way i hi).app (fun t ht=>h.inp t (jCL ht))⟩,fun u hu r t ha=>h.closed u hu r t ((lO (h.inp u hu)).1 ha),h.giv,h.gnd⟩
theorem jFZ {L:Pool} {G:List Int} {t:Int} (h:inP L t=true):xH L G t=jAM G t:=by unfold xH;rw [if_pos h]
def kS (q:Pool×List Int) (t:Tree):Pool×List Int:=((of q.1 t).2.2,if (of q.1 t).2.1≠0 then q.2 else jAM q.2 (of q.1 t).1)
def jQ (ts:List Tree):Pool×List Int:=ts.foldl kS ([],[])
theorem jGO (G:List Int) (t:Int):(jAM G t).length≤G.length+1:=by unfold jAM;split <;> simp
theorem tJ (ts:List Tree) (t:Tree):jQ (ts++[t])=kS (jQ ts) t:=by unfold jQ;rw [List.foldl_append];rfl
theorem gE (ts:List Tree):(jQ ts).2.length≤ts.length:=by
 have:∀(ts:List Tree) q,(ts.foldl kS q).2.length≤q.2.length+ts.length:=by
  intro ts;induction ts with
  | nil=>intro q;simp
  | cons t ts ih =>
   intro q
   rw [List.foldl_cons]
   have h1:=ih (kS q t)
   have h2:(kS q t).2.length≤q.2.length+1:=by
    unfold kS;simp only;split
    ·omega
    ·exact jGO _ _
   rw [List.length_cons];omega
 have:=this ts ([],[]);simpa [jQ] using this
theorem yY (ts:List Tree):Wf (jQ ts).1:=by
 have:∀(ts:List Tree) q,Wf q.1→Wf (ts.foldl kS q).1:=by
  intro ts;induction ts with
  | nil=>intro q h;exact h
  | cons t ts ih=>intro q h;exact ih _ (of_wf h t)
 exact this ts ([],[]) Wf.nil
theorem vD {L:Pool} {t:Int} (h:(jD L t).kind≠0):inP L t=true:=by
 cases hi:inP L t with
 | true=>rfl
 | false=>rw [lB hi] at h;exact absurd rfl h
theorem jGB {L M:Pool} {n:Node} {i:Nat} (h:find L n=some i):find (L++M) n=some i:=by
 unfold find at h ⊢;rw [List.findIdx?_append,h];rfl
theorem jGA {k:Int} (h:jBE k=true):k≠0:=by
 rintro rfl;cases h
theorem Drv.app {L M:Pool} {K:Int→Prop} {t:Int} (h:Drv L K t):Drv (L++M) K t:=by
 induction h with
 | seen h=>exact .seen h
 | free h=>exact .free (by rw [kI (vD (jGA h))];exact h)
 | @pair t h _ _ ih1 ih2 =>
  have e:jD (L++M) t=jD L t:=kI (vD (by omega))
  exact .pair (by rw [e];exact h) (by rw [e];exact ih1) (by rw [e];exact ih2)
 | @hash t h _ ih =>
  have e:jD (L++M) t=jD L t:=kI (vD (by omega))
  exact .hash (by rw [e];exact h) (by rw [e];exact ih)
 | @sign t i h _ hf hK ih =>
  have e:jD (L++M) t=jD L t:=kI (vD (fun h0=>by rw [h0] at h;cases h))
  exact .sign (by rw [e];exact h) (by rw [e];exact ih) (by rw [e];exact jGB hf) hK
section
variable {L:Pool} {G M:List Int} {S:List Way}
end
end Go.Sp
end
section
open Go Go.SE
namespace Go.Sp
def xE (c:Int):Bool:=decide (4≤c) && decide (c≤11)
def xD (c:Int):Bool:=(c == 4) || (decide (9≤c) && decide (c≤11))
def bit (p:List Bool) (i:Nat):Bool:=(p[i]?).getD false
def xZ (p:List Bool) (i:Nat) (on:Bool) (a:Int):List Bool:=if on=true∧0≤a∧a<i then p.set a.toNat true else p
def oO (o:Op) (i:Nat) (p:List Bool):List Bool:=xZ (xZ p i (bit p i && xE o.code) o.a) i (bit p i && xD o.code) o.b
def kC (l:List Op):Nat→List Bool→List Bool
 | 0,p=>p
 | i+1,p=>match l[i]? with | none=>kC l i p | some o=>kC l i (oO o i p)
def jAX (n:Nat):List Bool:=(List.replicate n false).set (n - 1) true
def zV (l:List Op):List Bool:=kC l l.length (jAX l.length)
def num (p:List Bool) (i:Nat):Nat:=(p.take i).count true
def ren (p:List Bool) (i:Nat) (on:Bool) (a:Int):Int:=if on=true∧0≤a∧a<i then (num p a.toNat:Int) else a
def oF (p:List Bool) (i:Nat) (o:Op):Op:=⟨o.code,ren p i (xE o.code) o.a,ren p i (xD o.code) o.b,o.num,o.text⟩
def qS (l:List Op) (p:List Bool):Nat→List Op
 | 0=>[]
 | i+1=>qS l p i++(if bit p i=true then (l[i]?).toList.map (oF p i) else [])
def vB (l:List Op):List Op:=qS l (zV l) l.length
theorem oH (p:List Bool) (i:Nat) (on:Bool) (a:Int):(xZ p i on a).length=p.length:=by unfold xZ;split <;> simp
theorem jBX (o:Op) (i:Nat) (p:List Bool):(oO o i p).length=p.length:=by unfold oO;rw [oH,oH]
theorem gP (l:List Op):∀(i:Nat) (p:List Bool),(kC l i p).length=p.length
 | 0,_=>rfl
 | i+1,p=>by
  unfold kC;split
  ·exact gP l i p
  ·rw [gP l i,jBX]
theorem tP (n:Nat):(jAX n).length=n:=by simp [jAX]
theorem jBW (l:List Op):(zV l).length=l.length:=by unfold zV;rw [gP,tP]
theorem jIK {p:List Bool} {a k:Nat} (h:bit p k=true):bit (p.set a true) k=true:=by
 unfold bit at *;rw [List.getElem?_set];split
 ·subst_vars;split
  ·rfl
  ·rename_i hh;rw [List.getElem?_eq_none (by omega)] at h;cases h
 ·exact h
theorem jDF {p:List Bool} {a k:Nat} (h:a≠k):bit (p.set a true) k=bit p k:=by
 unfold bit;rw [List.getElem?_set,if_neg h]
theorem lN {p:List Bool} {a:Nat} (h:a<p.length):bit (p.set a true) a=true:=by
 unfold bit;rw [List.getElem?_set,if_pos rfl,if_pos h];rfl
theorem bit_lt {p:List Bool} {k:Nat} (h:k<p.length):bit p k=p[k]:=by unfold bit;rw [List.getElem?_eq_getElem h];rfl
theorem gJ {p:List Bool} {i k:Nat} {on:Bool} {a:Int} (h:bit p k=true):bit (xZ p i on a) k=true:=by
 unfold xZ;split
 ·exact jIK h
 ·exact h
theorem uC {p:List Bool} {i k:Nat} {on:Bool} {a:Int} (h:i≤k):bit (xZ p i on a) k=bit p k:=by
 unfold xZ;split
 ·exact jDF (by omega)
 ·rfl
theorem jBV {p:List Bool} {i:Nat} {on:Bool} {a:Int} (hn:on=true) (h0:0≤a) (h1:a<i) (hl:i≤p.length):bit (xZ p i on a) a.toNat=true:=by
 unfold xZ;rw [if_pos ⟨hn,h0,h1⟩];exact lN (by omega)
theorem jEI {o:Op} {p:List Bool} {i k:Nat} (h:bit p k=true):bit (oO o i p) k=true:=gJ (gJ h)
theorem lD {o:Op} {p:List Bool} {i k:Nat} (h:i≤k):bit (oO o i p) k=bit p k:=by unfold oO;rw [uC h,uC h]
theorem vP {l:List Op} {k:Nat}:∀{i:Nat} {p:List Bool},bit p k=true→bit (kC l i p) k=true
 | 0,_,h=>h
 | i+1,p,h=>by
  unfold kC;split
  ·exact vP h
  ·exact vP (jEI h)
theorem yC {l:List Op} {k:Nat}:∀{i:Nat} {p:List Bool},i≤k→bit (kC l i p) k=bit p k
 | 0,_,_=>rfl
 | i+1,p,h=>by
  unfold kC;split
  ·exact yC (by omega)
  ·rw [yC (by omega),lD (by omega)]
theorem tU {l:List Op}:∀(i:Nat) (p:List Bool),p.length=l.length→i≤l.length→∀k (hk:k<l.length),k<i→bit (kC l i p) k=true →
  (xE l[k].code=true→0≤l[k].a→l[k].a<k→bit (kC l i p) l[k].a.toNat=true)∧(xD l[k].code=true→0≤l[k].b→l[k].b<k→bit (kC l i p) l[k].b.toNat=true):=by
 intro i
 induction i with
 | zero=>intro p _ _ k _ h;omega
 | succ i ih =>
  intro p hp hi k hk hki hb
  have hil:i<l.length:=by omega
  rw [kC,List.getElem?_eq_getElem hil] at hb ⊢
  simp only at hb ⊢
  by_cases e:k=i
  ·subst e
   rw [yC (Nat.le_refl _),lD (Nat.le_refl _)] at hb
   refine ⟨fun h1 h2 h3=>vP (gJ (jBV (by rw [hb,h1];rfl) h2 h3 (by omega))),fun h1 h2 h3=>vP (jBV (by rw [hb,h1];rfl) h2 h3 (by rw [oH];omega))⟩
  ·exact ih (oO l[i] i p) (by rw [jBX];exact hp) (by omega) k hk (by omega) hb
theorem vW (l:List Op) {k:Nat} (hk:k<l.length) (h:bit (zV l) k=true) :
  (xE l[k].code=true→0≤l[k].a→l[k].a<k→bit (zV l) l[k].a.toNat=true)∧(xD l[k].code=true→0≤l[k].b→l[k].b<k→bit (zV l) l[k].b.toNat=true) :=
 tU l.length (jAX l.length) (tP _) (Nat.le_refl _) k hk hk h
theorem jEE (l:List Op) (h:l.length≠0):bit (zV l) (l.length - 1)=true :=
 vP (lN (by simp;omega))
theorem uT {p:List Bool} {i:Nat}:num p (i+1)=num p i+(if bit p i=true then 1 else 0):=by
 unfold num bit;rw [List.take_add_one];cases h:p[i]? with
 | none=>simp
 | some b=>cases b <;> simp
theorem jGX (p:List Bool):∀i,num p i≤i
 | 0=>by simp [num]
 | i+1=>by rw [uT];have:=jGX p i;split <;> omega
theorem qF {l:List Op} {p:List Bool}:∀{j:Nat},j≤l.length→(qS l p j).length=num p j
 | 0,_=>by simp [qS,num]
 | j+1,h=>by
  rw [qS,uT,List.length_append,qF (by omega),List.getElem?_eq_getElem (show j<l.length by omega)];split <;> simp
theorem oJ (l:List Op) (p:List Bool) {j:Nat} (h:j≤l.length):(qS l p j).length≤j:=by rw [qF h];exact jGX p j
theorem jDQ (l:List Op):(vB l).length≤l.length:=oJ l _ (Nat.le_refl _)
theorem uE {l:List Op} {p:List Bool} {j:Nat} (h:bit p j=false):qS l p (j+1)=qS l p j:=by rw [qS,if_neg (by simp [h]),List.append_nil]
theorem uD {l:List Op} {p:List Bool} {j:Nat} (hj:j<l.length) (h:bit p j=true):qS l p (j+1)=qS l p j++[oF p j l[j]]:=by rw [qS,if_pos h,List.getElem?_eq_getElem hj];rfl
def sel (M:List Int) (p:List Bool):Nat→List Int
 | 0=>[]
 | i+1=>sel M p i++(if bit p i=true then (M[i]?).toList else [])
theorem oC {M:List Int} {p:List Bool}:∀{j:Nat},j≤M.length→(sel M p j).length=num p j
 | 0,_=>by simp [sel,num]
 | j+1,h=>by
  rw [sel,uT,List.length_append,oC (by omega),List.getElem?_eq_getElem (show j<M.length by omega)];split <;> simp
theorem jDY {M:List Int} {p:List Bool} {a:Nat} (hb:bit p a=true):∀{j:Nat},a<j→j≤M.length→(sel M p j)[num p a]?=M[a]?
 | 0,h,_=>by omega
 | j+1,h,hj=>by
  rw [sel];by_cases e:a=j
  ·subst e;rw [List.getElem?_append_right (by rw [oC (by omega)];exact Nat.le_refl _),oC (by omega),if_pos hb,List.getElem?_eq_getElem (show a<M.length by omega)];simp
  ·have ih:=jDY (M:=M) hb (show a<j by omega) (by omega);rw [List.getElem?_append_left,ih];have:(sel M p j)[num p a]?≠none:=by rw [ih,List.getElem?_eq_getElem (show a<M.length by omega)];simp
   exact Nat.lt_of_not_le (fun hh=>this (List.getElem?_eq_none hh))
theorem kV {L L1 X:Pool} {n:Node} {t:Int} (h0:(make L n).2.1=0) (ht:(make L n).1=t) (hX:L1=(make L n).2.2++X) (hW:Wf L1):make L1 n=(t,0,L1):=by
 obtain ⟨h1,h2,_⟩:=tV h0;have h3:inP L1 t=true:=by rw [hX,← ht];exact oU h1
 have h4:jD L1 t=n:=by rw [hX,← ht,kI h1,h2]
 rw [← h4];exact jFV hW h3
theorem qG {L L1 X:Pool} {M M':List Int} {i i':Int} (hX:L1=L++X) (he:atM M' i'=atM M i) (hk:(zT L M i).kind≠0):zT L1 M' i'=zT L M i:=by
 unfold zT at *;rw [he];cases h:atM M i with
 | none=>rfl
 | some t =>
  rw [h] at hk
  simp only at hk ⊢
  rw [hX];exact kI (vD hk)
theorem jDB {L L1 X:Pool} {G M M':List Int} {o o':Op} (h0:(zZ L G M o).2.1=0) (hX:L1=(zZ L G M o).2.2++X) (hW:Wf L1) (hc:o'.code=o.code) (hu:o'.num=o.num) (hx:o'.text=o.text)
  (ha:xE o.code=true→atM M' o'.a=atM M o.a) (hna:xE o.code=false→o'.a=o.a) (hb:xD o.code=true→atM M' o'.b=atM M o.b):zZ L1 G M' o'=((zZ L G M o).1,0,L1):=by
 by_cases hr:0≤o.code∧o.code≤11
 case neg=>rw [jGC (by omega)] at h0;simp [uS] at h0
 have one:4≤o.code→xE o.code=true:=fun h=>by unfold xE;rw [decide_eq_true h,decide_eq_true hr.2];rfl
 have none1:o.code<4→xE o.code=false:=fun h=>by unfold xE;rw [decide_eq_false (by omega)];rfl
 have two:o.code=4∨9≤o.code→xD o.code=true:=fun h=>by
  unfold xD;rcases h with h | h
  ·rw [h];rfl
  ·rw [decide_eq_true h,decide_eq_true hr.2];simp
 have hno:(uS L).2.1=0→False:=fun h=>by simp [uS] at h
 obtain ⟨Y,hY⟩:=oZ L G M o
 have hX2:L1=L++(Y++X):=by rw [hX,hY,List.append_assoc]
 have key:∀mk:Int→Int→Node,9≤o.code→zZ L G M o=zG L M o mk→zG L1 M' o' mk=((zZ L G M o).1,0,L1):=fun mk h9 e=>by
  rw [e] at h0 hX ⊢;unfold zG at h0 hX ⊢;rw [ha (one (by omega))];cases h:atM M o.a with
  | none=>rw [h] at h0;exact (hno h0).elim
  | some a =>
   rw [h] at h0 hX
   simp only at h0 hX ⊢
   by_cases hk:(zT L M o.b).kind=6
   ·rw [if_pos hk] at h0 hX ⊢
    have en:zT L1 M' o'.b=zT L M o.b:=qG hX2 (hb (two (.inr h9))) (by omega)
    rw [en,if_pos hk]
    exact kV h0 rfl hX hW
   ·rw [if_neg hk] at h0;exact (hno h0).elim
 have pt:∀s,4≤o.code→zZ L G M o=kH L M o s→kH L1 M' o' s=((zZ L G M o).1,0,L1):=fun s h4 e=>by
  rw [e] at h0 ⊢;unfold kH at h0 ⊢;by_cases hk:(zT L M o.a).kind=4
  ·rw [qG hX2 (ha (one h4)) (by omega),if_pos hk,if_pos hk]
  ·rw [if_neg hk] at h0;exact (hno h0).elim
 rcases (show o.code=0∨o.code=1∨o.code=2∨o.code=3∨o.code=4∨o.code=5∨o.code=6∨o.code=7∨o.code=8∨o.code=9∨o.code=10∨o.code=11 by omega) with e | e | e | e | e | e | e | e | e | e | e | e
 ·have e1:=doOp0 (L:=L) (G:=G) (M:=M) e
  rw [doOp0 (hc.trans e)]
  rw [e1] at h0 ⊢
  unfold kO at h0 ⊢
  rw [hna (none1 (by omega))]
  cases h:atM G o.a with
  | none=>rw [h] at h0;exact (hno h0).elim
  | some a=>rfl
 ·have e1:=doOp1 (L:=L) (G:=G) (M:=M) e
  rw [doOp1 (hc.trans e),hna (none1 (by omega))]
  rw [e1] at h0 hX ⊢
  exact kV h0 rfl hX hW
 ·have e1:=doOp2 (L:=L) (G:=G) (M:=M) e
  rw [doOp2 (hc.trans e),hu]
  rw [e1] at h0 hX ⊢
  exact kV h0 rfl hX hW
 ·have e1:=doOp3 (L:=L) (G:=G) (M:=M) e
  rw [doOp3 (hc.trans e),hx]
  rw [e1] at h0 hX ⊢
  exact kV h0 rfl hX hW
 ·have e1:=jGF (L:=L) (G:=G) (M:=M) e
  rw [jGF (hc.trans e)]
  rw [e1] at h0 hX ⊢
  unfold qV at h0 hX ⊢
  rw [ha (one (by omega)),hb (two (.inl e))]
  cases h:atM M o.a with
  | none=>rw [h] at h0;exact (hno h0).elim
  | some a =>
   rw [h] at h0 hX
   cases h':atM M o.b with
   | none=>rw [h'] at h0;exact (hno h0).elim
   | some b =>
    rw [h'] at h0 hX
    exact kV h0 rfl hX hW
 ·have e1:=jHW (L:=L) (G:=G) (M:=M) e
  rw [jHW (hc.trans e)]
  rw [e1] at h0 hX ⊢
  unfold yQ at h0 hX ⊢
  rw [ha (one (by omega))]
  cases h:atM M o.a with
  | none=>rw [h] at h0;exact (hno h0).elim
  | some a =>
   rw [h] at h0 hX
   exact kV h0 rfl hX hW
 ·rw [jHV (hc.trans e)];exact pt _ (by omega) (jHV e)
 ·rw [jHU (hc.trans e)];exact pt _ (by omega) (jHU e)
 ·have e1:=jHT (L:=L) (G:=G) (M:=M) e
  rw [jHT (hc.trans e)]
  rw [e1] at h0 ⊢
  unfold vC at h0 ⊢
  by_cases hk:kL (zT L M o.a).kind=true
  ·rw [qG hX2 (ha (one (by omega))) (fun h=>by rw [h] at hk;cases hk),if_pos hk,if_pos hk]
  ·rw [if_neg hk] at h0;exact (hno h0).elim
 ·rw [jGE (hc.trans e)];exact key _ (by omega) (jGE e)
 ·rw [jCD (hc.trans e),hu];exact key _ (by omega) (jCD e)
 ·rw [jCC (hc.trans e),hu];exact key _ (by omega) (jCC e)
theorem uK {G:List Int}:∀(l:List Op) (L:Pool) (M:List Int),(jO L G M l).2.1=0→∃Ms:List Int,(jO L G M l).1=M++Ms∧∃hl:Ms.length=l.length,∀i (hi:i<l.length),∃Li X,(zZ Li G (M++Ms.take i) l[i]).2.1=0∧(zZ Li G (M++Ms.take i) l[i]).1=Ms[i]∧(jO L G M l).2.2=(zZ Li G (M++Ms.take i) l[i]).2.2++X
 | [],L,M,_=>⟨[],by simp [jO],rfl,fun i hi=>by simp at hi⟩
 | o :: os,L,M,h=>by
  unfold jO at h ⊢;by_cases hd:(zZ L G M o).2.1≠0
  ·rw [if_pos hd] at h;exact absurd h hd
  rw [if_neg hd] at h ⊢;obtain ⟨Ms,h1,h2,h3⟩:=uK os _ _ h;refine ⟨(zZ L G M o).1 :: Ms,by rw [h1];simp,by simp [h2],?_⟩;intro i hi;cases i with
  | zero =>
   obtain ⟨X,hX⟩:=xY G os (zZ L G M o).2.2 (M++[(zZ L G M o).1])
   exact ⟨L,X,by simpa using hd,by simp,by simpa using hX⟩
  | succ i =>
   obtain ⟨Li,X,g1,g2,g3⟩:=h3 i (by simpa using hi)
   refine ⟨Li,X,?_⟩
   simp only [List.take_succ_cons,List.getElem_cons_succ,List.append_assoc,List.cons_append,List.nil_append] at *
   exact ⟨g1,g2,g3⟩
theorem gG {G:List Int}:∀(l:List Op) (L:Pool) (M:List Int) (o:Op),(jO L G M l).2.1=0→(zZ (jO L G M l).2.2 G (jO L G M l).1 o).2.1=0→jO L G M (l++[o])=((jO L G M l).1++[(zZ (jO L G M l).2.2 G (jO L G M l).1 o).1],0,(zZ (jO L G M l).2.2 G (jO L G M l).1 o).2.2)
 | [],L,M,o,_,h=>by
  simp only [jO] at h;simp only [List.nil_append,jO];rw [if_neg (by simpa using h)]
 | x :: xs,L,M,o,h,h'=>by
  rw [jO] at h h' ⊢;rw [List.cons_append,jO];by_cases hd:(zZ L G M x).2.1≠0
  ·rw [if_pos hd] at h;exact absurd h hd
  rw [if_neg hd] at h h' ⊢;rw [if_neg hd];exact gG xs _ _ o h h'
theorem jDP {L:Pool} {G:List Int} {l:List Op} (hW:Wf L) (h:(jO L G [] l).2.1=0):∀j,j≤l.length→jO (jO L G [] l).2.2 G [] (qS l (zV l) j)=(sel (jO L G [] l).1 (zV l) j,0,(jO L G [] l).2.2):=by
 obtain ⟨Ms,h1,hl,h3⟩:=uK l L [] h;have hW1:=yL G l L [] hW;rw [List.nil_append] at h1;rw [h1];generalize (jO L G [] l).2.2=L1 at *;intro j;induction j with
 | zero=>intro _;rfl
 | succ j ih =>
  intro hj
  have ih:=ih (by omega)
  have hlt:j<l.length:=by omega
  cases hb:bit (zV l) j with
  | false=>rw [uE hb,ih,sel,if_neg (by simp [hb]),List.append_nil]
  | true =>
   obtain ⟨Li,X,g1,g2,g3⟩:=h3 j hlt
   rw [List.nil_append] at g1 g2 g3
   have hcl:=vW l hlt hb
   have in_:∀a:Int,(0≤a→a<j→bit (zV l) a.toNat=true)→(atM (Ms.take j) a≠none)→atM (sel Ms (zV l) j) (num (zV l) a.toNat)=atM (Ms.take j) a∧0≤a∧a<j:=fun a hc hn=>by
    have hh:0≤a∧a<j:=by
     refine Classical.byContradiction fun hh=>hn (xA ?_);rw [List.length_take];omega
    refine ⟨?_,hh⟩;have hs:=jDY (M:=Ms) (hc hh.1 hh.2) (show a.toNat<j by omega) (by omega);unfold atM;rw [if_neg (by omega),if_neg (by omega)];rw [show ((num (zV l) a.toNat:Nat):Int).toNat=num (zV l) a.toNat by omega,hs,List.getElem?_take,if_pos (by omega)]
   have ha0:xE l[j].code=true→atM (Ms.take j) l[j].a≠none:=fun hone hn=>by
    unfold xE at hone;rw [Bool.and_eq_true,decide_eq_true_eq,decide_eq_true_eq] at hone;rw [doOp_a hone.1 hone.2 hn] at g1;simp [uS] at g1
   have hb0:xD l[j].code=true→atM (Ms.take j) l[j].b≠none:=fun htwo hn=>by
    unfold xD at htwo;rw [Bool.or_eq_true,Bool.and_eq_true,decide_eq_true_eq,decide_eq_true_eq,beq_iff_eq] at htwo;rw [doOp_b hn htwo] at g1;simp [uS] at g1
   have hd:=jDB (M':=sel Ms (zV l) j) (o':=oF (zV l) j l[j]) g1 g3 hW1 rfl rfl rfl (fun h1=>by
    obtain ⟨q1,q2,q3⟩:=in_ _ (hcl.1 h1) (ha0 h1);unfold oF ren;simp only;rw [if_pos ⟨h1,q2,q3⟩];exact q1) (fun h1=>by
    unfold oF ren;simp only;rw [if_neg (by simp [h1])]) (fun h1=>by
    obtain ⟨q1,q2,q3⟩:=in_ _ (hcl.2 h1) (hb0 h1);unfold oF ren;simp only;rw [if_pos ⟨h1,q2,q3⟩];exact q1)
   have hs:=gG (qS l (zV l) j) L1 [] (oF (zV l) j l[j]) (by rw [ih]) (by rw [ih,hd])
   rw [uD hlt hb,hs,ih,hd,sel,if_pos hb,List.getElem?_eq_getElem (show j<Ms.length by omega),g2];rfl
theorem jCM {L:Pool} {G:List Int} {l:List Op} (hW:Wf L) (h:(zX L G l).2.1=0):zX (zX L G l).2.2.2 G (vB l)=((zX L G l).1,0,0,(zX L G l).2.2.2):=by
 unfold zX at h;by_cases h1:l.length>256
 ·rw [if_pos h1] at h;cases h
 rw [if_neg h1] at h;by_cases h2:l.length=0
 ·rw [if_pos h2] at h;cases h
 rw [if_neg h2] at h;have h3:(jO L G [] l).2.1=0:=by
  refine Classical.byContradiction fun hn=>?_;rw [if_pos hn] at h;exact hn h
 have e1:zX L G l=(((jO L G [] l).1.getLast?).getD 0,0,0,(jO L G [] l).2.2):=by
  unfold zX;rw [if_neg h1,if_neg h2,if_neg (by simpa using h3)]
 have hr:=jDP hW h3 l.length (Nat.le_refl _);have hlen:=(uA G l L []).2 h3;rw [List.length_nil,Nat.zero_add] at hlen;rw [e1];have hlast:=jEE l h2;have hn:num (zV l) l.length=num (zV l) (l.length - 1)+1:=by
  have:=uT (p:=zV l) (i:=l.length - 1);rw [if_pos hlast,show l.length - 1+1=l.length by omega] at this;exact this
 have ht:(vB l).length=num (zV l) l.length:=qF (Nat.le_refl _);have hle:=jDQ l;unfold zX;rw [if_neg (by omega),if_neg (by omega)];rw [show jO (jO L G [] l).2.2 G [] (vB l)=_ from hr];simp only;rw [if_neg (by simp)];have hs:(sel (jO L G [] l).1 (zV l) l.length).getLast?=(jO L G [] l).1.getLast?:=by
  rw [List.getLast?_eq_getElem?,oC (by omega),hn,Nat.add_sub_cancel,jDY hlast (show l.length - 1<l.length by omega) (by omega),List.getLast?_eq_getElem?,hlen]
 rw [hs]
end Go.Sp
end
