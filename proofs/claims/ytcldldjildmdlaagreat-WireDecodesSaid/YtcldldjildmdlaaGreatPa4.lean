import Derived.Test.YtcldldjildmdlaaGreatProg
import Derived.KernelRfl
import Derived.Test.YtcldldjildmdlaaGreatPa0
import Derived.Test.YtcldldjildmdlaaGreatPa3
import Derived.IntWalk
import Derived.Test.YtcldldjildmdlaaGreatPa1
section
open Go Go.SE
open Go.IntKind renaming i64 → q6
namespace Go.Proofs
set_option maxRecDepth 100000
set_option maxHeartbeats 4000000
attribute [local irreducible] wpL wpX opE wpE Calls
def m_M3 (p1:Option Addr) (w:World) (K:Int→WP):Prop :=
 Br (Option.isNone p1)
  (K 0 w)
  (∃a1:Addr,p1=some a1 ∧
  ∃v1:Sl,w.cell? a1=some v1.v ∧
  K (v1.len:Int) w)
theorem w_M3 (p1 : Option Addr) (w : World) (K : Int → WP) (h : m_M3 p1 w K) :
  Calls Tryz.prog 13 #[(vp p1)] w (fun e w'=>∃r1:Int,e=.returned (vi r1)∧K r1 w'):=by
 unfold m_M3 at h
 refine cw (args:=[(vp p1)]) Tryz.func13 Tryz.ntmps13 (wpE_seq (rg (q0 (vi 0) (wpL_nil (th_n (wpE_seq (wpE_seq (rg (q0 (vp p1) (q2 (vb (Option.isNone p1)) (x_ptreq (by kernel_rfl) rfl Tryz.underlying26) (wpL_nil ?_)))))))))))
 refine th_n ?_
 refine wpE_cond (t:=(Option.isNone p1)) (by kernel_rfl) (fun hc1=>?_) (fun hc1=>?_)
 ·have h:=h.1 hc1
  refine wpE_seq (rg (q0 (vi 0) (wpL_nil (th_n (wpE_ret (th_r (rs1 Tryz.results13 (v:=(vi 0)) ?_)))))))
  exact ⟨0,rfl,h⟩
 ·have h:=h.2 hc1
  refine wpE_skip (th_n (wpE_seq (rg (q0 (vp p1) ?_))))
  obtain ⟨a1,hp1,h⟩:=h
  refine q2 (vp (some a1)) (x_nilCheck (p:=p1) (by kernel_rfl) hp1) (q0 (vp (some a1)) ?_)
  obtain ⟨v1,hv1,h⟩:=h
  refine q2 v1.v (xl (Tryz.isAgg91 _) hv1) (q0 (vi (v1.len:Int)) (q0 (vi (v1.len:Int)) (wpL_nil (th_n (wpE_ret (rs1 Tryz.results13 (v:=(vi (v1.len:Int))) ?_))))))
  exact ⟨(v1.len:Int),rfl,h⟩
def m_G1_l1 (p1:Option Addr) (p2 p4:Addr) (r2:Sl) (x1:Int) (wl1:World) (Kc1:Int→WP) (K:Int→Int→Int→Int→ByteArray→Sl→WP):Prop :=
 Br (decide (x1<(r2.len:Int)))
  (∃a1:Addr,At r2 x1 1 a1 ∧
  ∃v6:Int,wl1.cell? a1=some (vi v6) ∧
  ∃C1:WP,C1 wl1.drew∧∀w9,w9=wl1.drew →
  ∃v7:Sl,(∀w',C1 w'→w'.cell? (p4.add 5)=some v7.v) ∧
  Calls Tryz.prog 15 #[(vp p1),(vi v6)] w9 (fun e w10=>∃cM cN:Int,∃cO cP:Int,∃cQ:ByteArray,∃cR:Sl,e=.returned (.agg #[(vi cM),(vi cN),(vi cO),(vu cP),(vs cQ),cR.v])∧C1 w10∧
   ∀(p5:Addr) (w11:World),New w10 (.cells #[(vi cM),(vi cN),(vi cO),(vu cP),(vs cQ),cR.v] 49) p5 w11→C1 w11 ∧
   ∃s1:Sl,∃w12:World,(Builtin.append_ #[22,22] 22 #[v7.v,(Sl.mk (some p5) 1 1).v]).run Tryz.prog w11=.ok s1.v w12∧C1 w12 ∧
   CanW w12 (p4.add 5)∧∀w13:World,w13=w12.setCell (p4.add 5) s1.v →
   Kc1 (q6.wrap (x1+1)) w13))
  (∃aA aB:Int,∃aC aD:Int,∃aE:ByteArray,∃bG:Sl,Row wl1 p4 [(vi aA),(vi aB),(vi aC),(vu aD),(vs aE),bG.v] ∧
  (∀j,j<6→CanW wl1 (p2.add j))∧∀w14:World,w14=storeRow wl1 p2 [(vi aA),(vi aB),(vi aC),(vu aD),(vs aE),bG.v] →
  ∃bZ cA:Int,∃cB cC:Int,∃cD:ByteArray,∃cI:Sl,Row w14 p2 [(vi bZ),(vi cA),(vi cB),(vu cC),(vs cD),cI.v] ∧
  K bZ cA cB cC cD cI w14)
def m_G1 (p1:Option Addr) (t1:Int) (w:World) (K:Int→Int→Int→Int→ByteArray→Sl→WP):Prop :=
 ∀(p2:Addr) (w1:World),New w (.cells #[(vi 0),(vi 0),(vi 0),(vu 0),(vs ⟨#[]⟩),Sl.nil.v] 49) p2 w1 →
 Calls Tryz.prog 43 #[(vp p1),(vi t1)] w1 (fun e w2=>∃aT aU:Int,∃aV aW:Int,∃aX:ByteArray,∃aY aZ:Int,∃r1:Bool,e=.returned (.tuple #[(.agg #[(vi aT),(vi aU),(vi aV),(vu aW),(vs aX),(vi aY),(vi aZ)]),(vb r1)])∧
  ∀(p3:Addr) (w3:World),New w2 (.cells #[(vi 0),(vi 0),(vi 0),(vu 0),(vs ⟨#[]⟩),(vi 0),(vi 0)] 86) p3 w3 →
  (∀j,j<7→CanW w3 (p3.add j))∧∀w4:World,w4=storeRow w3 p3 [(vi aT),(vi aU),(vi aV),(vu aW),(vs aX),(vi aY),(vi aZ)] →
  Br (!r1)
   ((∀j,j<6→CanW w4 (p2.add j))∧∀w5:World,w5=storeRow w4 p2 [(vi 0),(vi 0),(vi 0),(vu 0),(vs ⟨#[]⟩),Sl.nil.v] →
   ∃bH bI:Int,∃bJ bK:Int,∃bL:ByteArray,∃cJ:Sl,Row w5 p2 [(vi bH),(vi bI),(vi bJ),(vu bK),(vs bL),cJ.v] ∧
   K bH bI bJ bK bL cJ w5)
   (∃v1:Int,w4.cell? p3=some (vi v1) ∧
   ∃v2:Int,w4.cell? (p3.add 1)=some (vi v2) ∧
   ∃v3:Int,w4.cell? (p3.add 2)=some (vi v3) ∧
   ∃v4:Int,w4.cell? (p3.add 3)=some (vu v4) ∧
   ∃v5:ByteArray,w4.cell? (p3.add 4)=some (vs v5) ∧
   ∀(p4:Addr) (w6:World),New w4 (.cells #[(vi 0),(vi 0),(vi 0),(vu 0),(vs ⟨#[]⟩),Sl.nil.v] 49) p4 w6 →
   (∀j,j<6→CanW w6 (p4.add j))∧∀w7:World,w7=storeRow w6 p4 [(vi v1),(vi v2),(vi v3),(vu v4),(vs v5),Sl.nil.v] →
   Calls Tryz.prog 44 #[(vp p1),(vi t1)] w7 (fun e w8=>∃r2:Sl,e=.returned r2.v∧
    ∃(I1:Int→WP) (mu1:Int→World→Nat),I1 0 w8 ∧
     ∀(x1:Int) (wl1:World),I1 x1 wl1→m_G1_l1 p1 p2 p4 r2 x1 wl1 (fun y'0 w'=>I1 y'0 w'∧mu1 y'0 w'<mu1 x1 wl1) K)))
theorem w_G1 (p1 : Option Addr) (t1 : Int) (w : World) (K : Int → Int → Int → Int → ByteArray → Sl → WP) (h : m_G1 p1 t1 w K) :
  Calls Tryz.prog 15 #[(vp p1),(vi t1)] w (fun e w'=>∃cV cW:Int,∃cX cY:Int,∃cZ:ByteArray,∃dA:Sl,e=.returned (.agg #[(vi cV),(vi cW),(vi cX),(vu cY),(vs cZ),dA.v])∧K cV cW cX cY cZ dA w'):=by
 unfold m_G1 at h
 refine cw (args:=[(vp p1),(vi t1)]) Tryz.func15 Tryz.ntmps15 (wpE_seq (rg (sn (O:=(.cells #[(vi 0),(vi 0),(vi 0),(vu 0),(vs ⟨#[]⟩),Sl.nil.v] 49)) (x_alloc (Tryz.zeroValue49 _) rfl) ?_)))
 intro p2 w1 hn9
 have h:=h p2 w1 hn9
 refine wpL_nil (th_n (wpE_seq (rg (q0 (vp p1) (q0 (vi t1) ?_)))))
 refine sc Tryz.call43 (h.mono ?_)
 rintro e w2 ⟨aT,aU,aV,aW,aX,aY,aZ,r1,rfl,h⟩
 refine ⟨_,rfl,?_⟩
 refine q0 (.tuple #[(.agg #[(vi aT),(vi aU),(vi aV),(vu aW),(vs aX),(vi aY),(vi aZ)]),(vb r1)]) (q0 (.agg #[(vi aT),(vi aU),(vi aV),(vu aW),(vs aX),(vi aY),(vi aZ)]) (q0 (vb r1) (sn (O:=(.cells #[(vi 0),(vi 0),(vi 0),(vu 0),(vs ⟨#[]⟩),(vi 0),(vi 0)] 86)) (x_alloc (Tryz.zeroValue86 _) rfl) ?_)))
 intro p3 w3 hn8
 have h:=h p3 w3 hn8
 obtain ⟨hp1,h⟩:=h
 refine st_set (want0 rfl) (x_storeA (a:=p3) (vs:=[(vi aT),(vi aU),(vi aV),(vu aW),(vs aX),(vi aY),(vi aZ)]) (by kernel_rfl) (by kernel_rfl) rfl (Tryz.sizeOf86 _) rfl hp1) ?_
 intro w4 hn1
 have h:=h w4 hn1
 refine q0 (vb r1) (wpL_nil (th_n (wpE_seq (wpE_seq (rg (q0 (vb r1) (q0 (vb (!r1)) (wpL_nil (th_n ?_)))))))))
 refine wpE_cond (t:=(!r1)) (by kernel_rfl) (fun hc1=>?_) (fun hc1=>?_)
 ·have h:=h.1 hc1
  refine wpE_seq (rg (q0 (.agg #[(vi 0),(vi 0),(vi 0),(vu 0),(vs ⟨#[]⟩),Sl.nil.v]) ?_))
  obtain ⟨hp2,h⟩:=h
  refine st_set (want0 rfl) (x_storeA (a:=p2) (vs:=[(vi 0),(vi 0),(vi 0),(vu 0),(vs ⟨#[]⟩),Sl.nil.v]) (by kernel_rfl) (by kernel_rfl) rfl (Tryz.sizeOf49 _) rfl hp2) ?_
  intro w5 hn2
  have h:=h w5 hn2
  refine wpL_nil (th_n (wpE_ret (th_r ?_)))
  obtain ⟨bH,bI,bJ,bK,bL,cJ,hv1,h⟩:=h
  refine resG (.inl rfl) (vs:=[(.agg #[(vi bH),(vi bI),(vi bJ),(vu bK),(vs bL),cJ.v])]) (v:=(.agg #[(vi bH),(vi bI),(vi bJ),(vu bK),(vs bL),cJ.v])) Tryz.results15 ⟨(RV.cellA (by kernel_rfl) (Tryz.isAgg49 _) (Tryz.sizeOf49 _) rfl hv1),trivial⟩ (by kernel_rfl) ?_
  exact ⟨bH,bI,bJ,bK,bL,cJ,rfl,h⟩
 ·have h:=h.2 hc1
  refine wpE_skip (th_n (wpE_seq (rg (q0 (vp (some p3)) ?_))))
  obtain ⟨v1,hv12,h⟩:=h
  refine q2 (vi v1) (xl (Tryz.isAgg3 _) hv12) (q0 (vp (some (p3.add 1))) ?_)
  obtain ⟨v2,hv11,h⟩:=h
  refine q2 (vi v2) (xl (Tryz.isAgg3 _) hv11) (q0 (vp (some (p3.add 2))) ?_)
  obtain ⟨v3,hv10,h⟩:=h
  refine q2 (vi v3) (xl (Tryz.isAgg3 _) hv10) (q0 (vp (some (p3.add 3))) ?_)
  obtain ⟨v4,hv9,h⟩:=h
  refine q2 (vu v4) (xl (Tryz.isAgg47 _) hv9) (q0 (vp (some (p3.add 4))) ?_)
  obtain ⟨v5,hv8,h⟩:=h
  refine q2 (vs v5) (xl (Tryz.isAgg9 _) hv8) (q0 (.agg #[(vi v1),(vi v2),(vi v3),(vu v4),(vs v5),Sl.nil.v]) (sn (O:=(.cells #[(vi 0),(vi 0),(vi 0),(vu 0),(vs ⟨#[]⟩),Sl.nil.v] 49)) (x_alloc (Tryz.zeroValue49 _) rfl) ?_))
  intro p4 w6 hn7
  have h:=h p4 w6 hn7
  obtain ⟨hp3,h⟩:=h
  refine st_set (want0 rfl) (x_storeA (a:=p4) (vs:=[(vi v1),(vi v2),(vi v3),(vu v4),(vs v5),Sl.nil.v]) (by kernel_rfl) (by kernel_rfl) rfl (Tryz.sizeOf49 _) rfl hp3) ?_
  intro w7 hn3
  have h:=h w7 hn3
  refine wpL_nil (th_n (wpE_seq (wpE_seq (rg (q0 (vp p1) (q0 (vi t1) ?_))))))
  refine sc Tryz.call44 (h.mono ?_)
  rintro e w8 ⟨r2,rfl,h⟩
  refine ⟨_,rfl,?_⟩
  refine q0 (vi (r2.len:Int)) (q0 (vi 0) (wpL_nil (th_n (wpE_block ?_))))
  obtain ⟨I1,mu1,h0,hr⟩:=h
  refine wpE_loop (σ:=Int×World) (fun s ρ w=>w=s.2∧Has ρ [(0,(vp p1)),(4,(vp (some p2))),(7,(vp (some p4))),(32,r2.v),(33,(vi (r2.len:Int))),(34,(vi s.1))]∧I1 s.1 s.2) (fun s=>mu1 s.1 s.2) (0,w8) ⟨rfl,hm,h0⟩ ?_
  rintro ⟨x1,wl1⟩ ρ w ⟨hw,hH,hI⟩
  obtain rfl:wl1=w:=(show w=wl1 from hw).symm
  have hH:Has ρ [(0,(vp p1)),(4,(vp (some p2))),(7,(vp (some p4))),(32,r2.v),(33,(vi (r2.len:Int))),(34,(vi x1))]:=hH
  have h:=hr x1 wl1 hI
  unfold m_G1_l1 at h
  refine wpE_has hH ?_
  refine wpE_seq (rg (q0 (vb (decide (x1<(r2.len:Int)))) (wpL_nil (th_n (wpE_seq ?_)))))
  refine wpE_cond (t:=(decide (x1<(r2.len:Int)))) (by kernel_rfl) (fun hc2=>?_) (fun hc2=>?_)
  ·have h:=h.1 hc2
   refine wpE_skip (th_n (wpE_seq (wpE_block (wpE_seq (rg ?_)))))
   obtain ⟨a1,hv5,h⟩:=h
   refine q2 (vp (some a1)) (xi (Tryz.runUnderlying52 _) (Tryz.sizeOf30 _) hv5) ?_
   obtain ⟨v6,hv4,h⟩:=h
   refine q2 (vi v6) (xl (Tryz.isAgg30 _) hv4) (q0 (vi v6) (wpL_nil (th_n ?_)))
   obtain ⟨C1,hC,h⟩:=h
   refine wpE_drawnC C1 [4,5,6,8] [8] (by kernel_rfl) (by kernel_rfl) (by kernel_rfl) (by kernel_rfl) hC ?_
   intro w9 hw9
   have h:=h w9 hw9
   refine qx 0 (vp (some (p4.add 5))) Kp0 (qg 1 ?_)
   obtain ⟨v7,hv3,h⟩:=h
   refine sy (v:=v7.v) Kp1 (fun w' hw'=>(xl (Tryz.isAgg22 _) (hv3 w' hw'))) (qx 2 (vp p1) Kp2 (qx 3 (vi v6) Kp3 (lg 4 ?_)))
   refine sl_call Kp4 (want0 rfl) (by kernel_rfl) (xc Tryz.call15) (h.mono ?_)
   rintro e w10 ⟨cM,cN,cO,cP,cQ,cR,rfl,hC,h⟩
   refine ⟨_,rfl,.inr hC,?_⟩
   refine lg 5 (sl_new (O:=(.cells #[(vi cM),(vi cN),(vi cO),(vu cP),(vs cQ),cR.v] 49)) (fun p=>(Sl.mk (some p) 1 1).v) Kp5 (want0 rfl) (by kernel_rfl) (x_buildSlice (vs:=#[(0,(.agg #[(vi cM),(vi cN),(vi cO),(vu cP),(vs cQ),cR.v]))]) (by kernel_rfl) (by kernel_rfl)) ?_)
   intro p5 w11 hn5
   have h:=h p5 w11 hn5
   refine ⟨.inr h.1,?_⟩
   have h:=h.2
   refine lg 6 ?_
   obtain ⟨s1,w12,hv2,hC,h⟩:=h
   refine sl (v:=s1.v) Kp6 (want0 rfl) (by kernel_rfl) (x_builtin (args:=#[v7.v,(Sl.mk (some p5) 1 1).v]) (by kernel_rfl) (fun _=>rfl) hv2) (.inr hC) ?_
   refine qx 7 (vp (some (p4.add 5))) Kp7 (lg 8 ?_)
   obtain ⟨hp4,h⟩:=h
   refine sl_t Kp8 (xs (v:=s1.v) (Tryz.sizeOf22 _) hp4) ?_
   intro w13 hn4
   have h:=h w13 hn4
   refine ⟨.inl (by kernel_rfl),?_⟩
   refine wn (bl_n (th_n (rg (q0 (vi (q6.wrap (x1+1))) (q0 (vi (q6.wrap (x1+1))) (wpL_nil (th_n ?_)))))))
   exact ⟨((q6.wrap (x1+1)),w13),⟨rfl,hm,h.1⟩,h.2⟩
  ·have h:=h.2 hc2
   refine wpE_exit (th_x (th_x (bl_eq (th_n (wpE_seq (rg ?_))))))
   obtain ⟨aA,aB,aC,aD,aE,bG,hv7,h⟩:=h
   refine q2 (.agg #[(vi aA),(vi aB),(vi aC),(vu aD),(vs aE),bG.v]) (x_loadA (a:=p4) (vs:=[(vi aA),(vi aB),(vi aC),(vu aD),(vs aE),bG.v]) (by kernel_rfl) (Tryz.isAgg49 _) (Tryz.sizeOf49 _) rfl hv7) ?_
   obtain ⟨hp5,h⟩:=h
   refine st_set (want0 rfl) (x_storeA (a:=p2) (vs:=[(vi aA),(vi aB),(vi aC),(vu aD),(vs aE),bG.v]) (by kernel_rfl) (by kernel_rfl) rfl (Tryz.sizeOf49 _) rfl hp5) ?_
   intro w14 hn6
   have h:=h w14 hn6
   refine wpL_nil (th_n (wpE_ret ?_))
   obtain ⟨bZ,cA,cB,cC,cD,cI,hv6,h⟩:=h
   refine resG (.inl rfl) (vs:=[(.agg #[(vi bZ),(vi cA),(vi cB),(vu cC),(vs cD),cI.v])]) (v:=(.agg #[(vi bZ),(vi cA),(vi cB),(vu cC),(vs cD),cI.v])) Tryz.results15 ⟨(RV.cellA (by kernel_rfl) (Tryz.isAgg49 _) (Tryz.sizeOf49 _) rfl hv6),trivial⟩ (by kernel_rfl) ?_
   exact ⟨bZ,cA,cB,cC,cD,cI,rfl,h⟩
def m_N3  (w:World) (K:(Option Addr)→WP):Prop :=
 ∀(p1:Addr) (w1:World),New w (.map #[] 0) p1 w1 →
 ∀(p2:Addr) (w2:World),New w1 (.cells #[Sl.nil.v,(.map (some p1.block))] 94) p2 w2 →
 K (some p2) w2
theorem w_N3  (w : World) (K : (Option Addr) → WP) (h : m_N3  w K) :
  Calls Tryz.prog 27 #[] w (fun e w'=>∃r1:Option Addr,e=.returned (vp r1)∧K r1 w'):=by
 unfold m_N3 at h
 refine cw (args:=[]) Tryz.func27 Tryz.ntmps27 (wpE_seq (rg (q0 (vp none) (wpL_nil (th_n (wpE_seq (rg (st_new (O:=(.map #[] 0)) (fun p=>.map (some p.block)) (want0 rfl) (by kernel_rfl) ?_))))))))
 intro p1 w1 hn2
 have h:=h p1 w1 hn2
 refine q0 (.agg #[Sl.nil.v,(.map (some p1.block))]) (sn (O:=(.cells #[Sl.nil.v,(.map (some p1.block))] 94)) xb ?_)
 intro p2 w2 hn1
 have h:=h p2 w2 hn1
 refine q0 (vp (some p2)) (wpL_nil (th_n (wpE_ret (rs1 Tryz.results27 (v:=(vp (some p2))) ?_))))
 exact ⟨(some p2),rfl,h⟩
def m_O3 (p1:Option Addr) (n1:Int) (w:World) (K:Int→Int→WP):Prop :=
 Calls Tryz.prog 66 #[(vp p1),(.agg #[(vi 1),(vi n1),(vi 0),(vu 0),(vs ⟨#[]⟩),(vi 0),(vi 0)])] w (fun e w1=>∃r1 r2:Int,e=.returned (.tuple #[(vi r1),(vi r2)])∧
  K r1 r2 w1)
theorem w_O3 (p1 : Option Addr) (n1 : Int) (w : World) (K : Int → Int → WP) (h : m_O3 p1 n1 w K) :
  Calls Tryz.prog 28 #[(vp p1),(vi n1)] w (fun e w'=>∃r3 r4:Int,e=.returned (.tuple #[(vi r3),(vi r4)])∧K r3 r4 w'):=by
 unfold m_O3 at h
 refine cw (args:=[(vp p1),(vi n1)]) Tryz.func28 Tryz.ntmps28 (wpE_seq (rg (q0 (vi 0) (q0 (vi 0) (wpL_nil (th_n (wpE_seq (rg (q0 (vp p1) (q0 (vi n1) (q0 (.agg #[(vi 1),(vi n1),(vi 0),(vu 0),(vs ⟨#[]⟩),(vi 0),(vi 0)]) ?_)))))))))))
 refine sc Tryz.call66 (h.mono ?_)
 rintro e w1 ⟨r1,r2,rfl,h⟩
 refine ⟨_,rfl,?_⟩
 refine q0 (vi r1) (q0 (vi r2) (q0 (vi r1) (q0 (vi r2) (wpL_nil (th_n (wpE_ret (res2 (.inl rfl) Tryz.results28 (v:=(vi r1)) (by kernel_rfl) (v':=(vi r2)) (by kernel_rfl) ?_)))))))
 exact ⟨r1,r2,rfl,h⟩
def m_P3 (p1:Option Addr) (a1 b1:Int) (w:World) (K:Int→Int→WP):Prop :=
 Calls Tryz.prog 66 #[(vp p1),(.agg #[(vi 4),(vi 0),(vi 0),(vu 0),(vs ⟨#[]⟩),(vi a1),(vi b1)])] w (fun e w1=>∃r1 r2:Int,e=.returned (.tuple #[(vi r1),(vi r2)])∧
  K r1 r2 w1)
theorem w_P3 (p1 : Option Addr) (a1 b1 : Int) (w : World) (K : Int → Int → WP) (h : m_P3 p1 a1 b1 w K) :
  Calls Tryz.prog 29 #[(vp p1),(vi a1),(vi b1)] w (fun e w'=>∃r3 r4:Int,e=.returned (.tuple #[(vi r3),(vi r4)])∧K r3 r4 w'):=by
 unfold m_P3 at h
 refine cw (args:=[(vp p1),(vi a1),(vi b1)]) Tryz.func29 Tryz.ntmps29 (wpE_seq (rg (q0 (vi 0) (q0 (vi 0) (wpL_nil (th_n (wpE_seq (rg (q0 (vp p1) (q0 (vi a1) (q0 (vi b1) ?_)))))))))))
 refine q0 (.agg #[(vi 4),(vi 0),(vi 0),(vu 0),(vs ⟨#[]⟩),(vi a1),(vi b1)]) ?_
 refine sc Tryz.call66 (h.mono ?_)
 rintro e w1 ⟨r1,r2,rfl,h⟩
 refine ⟨_,rfl,?_⟩
 refine q0 (vi r1) (q0 (vi r2) (q0 (vi r1) (q0 (vi r2) (wpL_nil (th_n (wpE_ret (res2 (.inl rfl) Tryz.results29 (v:=(vi r1)) (by kernel_rfl) (v':=(vi r2)) (by kernel_rfl) ?_)))))))
 exact ⟨r1,r2,rfl,h⟩
def m_V1 (p1:Option Addr) (bA bB:Int) (bC bD:Int) (bE:ByteArray) (bF:Sl) (w:World) (K:Int→Int→WP):Prop :=
 ∀(p2:Addr) (w1:World),New w (.cells #[(vi bA),(vi bB),(vi bC),(vu bD),(vs bE),bF.v] 49) p2 w1 →
 Br (Option.isNone p1)
  (K 0 0 w1)
  (∀(p3:Addr) (w2:World),New w1 (.cells #[(vi 0)] 3) p3 w2 →
  CanW w2 p3∧∀w3:World,w3=w2.setCell p3 (vi 0) →
  ∃aA aB:Int,∃aC aD:Int,∃aE:ByteArray,∃bG:Sl,Row w3 p2 [(vi aA),(vi aB),(vi aC),(vu aD),(vs aE),bG.v] ∧
  Calls Tryz.prog 68 #[(.agg #[(vi aA),(vi aB),(vi aC),(vu aD),(vs aE),bG.v]),(vi 0),(vp (some p3))] w3 (fun e w4=>∃r1:Int,e=.returned (vi r1)∧
   Br (r1 != 0)
    (K 0 r1 w4)
    (∃a1:Addr,p1=some a1 ∧
    ∃v1:Sl,w4.cell? a1=some v1.v ∧
    ∃aO aP:Int,∃aQ aR:Int,∃aS:ByteArray,∃bR:Sl,Row w4 p2 [(vi aO),(vi aP),(vi aQ),(vu aR),(vs aS),bR.v] ∧
    Calls Tryz.prog 69 #[(vp p1),(.agg #[(vi aO),(vi aP),(vi aQ),(vu aR),(vs aS),bR.v])] w4 (fun e w5=>∃r2 r3:Int,e=.returned (.tuple #[(vi r2),(vi r3)])∧
     Br (r3 != 0)
      (Calls Tryz.prog 70 #[(vp p1),(vi (v1.len:Int))] w5 (fun e w6=>e=.returned (.tuple #[])∧
       K 0 r3 w6))
      (K r2 0 w5)))))
theorem w_V1 (p1 : Option Addr) (bA bB : Int) (bC bD : Int) (bE : ByteArray) (bF : Sl) (w : World) (K : Int → Int → WP) (h : m_V1 p1 bA bB bC bD bE bF w K) :
  Calls Tryz.prog 32 #[(vp p1),(.agg #[(vi bA),(vi bB),(vi bC),(vu bD),(vs bE),bF.v])] w (fun e w'=>∃r4 r5:Int,e=.returned (.tuple #[(vi r4),(vi r5)])∧K r4 r5 w'):=by
 unfold m_V1 at h
 refine cw (args:=[(vp p1),(.agg #[(vi bA),(vi bB),(vi bC),(vu bD),(vs bE),bF.v])]) Tryz.func32 Tryz.ntmps32 (wpE_seq (rg (sn (O:=(.cells #[(vi bA),(vi bB),(vi bC),(vu bD),(vs bE),bF.v] 49)) xb ?_)))
 intro p2 w1 hn3
 have h:=h p2 w1 hn3
 refine q0 (vi 0) (q0 (vi 0) (wpL_nil (th_n (wpE_seq (wpE_seq (rg (q0 (vp p1) (q2 (vb (Option.isNone p1)) (x_ptreq (by kernel_rfl) rfl Tryz.underlying26) (wpL_nil (th_n ?_))))))))))
 refine wpE_cond (t:=(Option.isNone p1)) (by kernel_rfl) (fun hc1=>?_) (fun hc1=>?_)
 ·have h:=h.1 hc1
  refine wpE_seq (rg (q0 (vi 0) (q0 (vi 0) (wpL_nil (th_n (wpE_ret (th_r (res2 (.inl rfl) Tryz.results32 (v:=(vi 0)) (by kernel_rfl) (v':=(vi 0)) (by kernel_rfl) ?_))))))))
  exact ⟨0,0,rfl,h⟩
 ·have h:=h.2 hc1
  refine wpE_skip (th_n (wpE_seq (rg (sn (O:=(.cells #[(vi 0)] 3)) (x_alloc (Tryz.zeroValue3 _) rfl) ?_))))
  intro p3 w2 hn2
  have h:=h p3 w2 hn2
  obtain ⟨hp1,h⟩:=h
  refine st_set (want0 rfl) (x_store (a:=p3) (v:=(vi 0)) (by kernel_rfl) (by kernel_rfl) rfl (Tryz.sizeOf3 _) hp1) ?_
  intro w3 hn1
  have h:=h w3 hn1
  refine wpL_nil (th_n (wpE_seq (wpE_seq (rg ?_))))
  obtain ⟨aA,aB,aC,aD,aE,bG,hv3,h⟩:=h
  refine q2 (.agg #[(vi aA),(vi aB),(vi aC),(vu aD),(vs aE),bG.v]) (x_loadA (a:=p2) (vs:=[(vi aA),(vi aB),(vi aC),(vu aD),(vs aE),bG.v]) (by kernel_rfl) (Tryz.isAgg49 _) (Tryz.sizeOf49 _) rfl hv3) ?_
  refine sc Tryz.call68 (h.mono ?_)
  rintro e w4 ⟨r1,rfl,h⟩
  refine ⟨_,rfl,?_⟩
  refine q0 (vi r1) (wpL_nil (th_n (wpE_seq (rg (q0 (vi r1) (q0 (vb (r1 != 0)) (wpL_nil (th_n ?_))))))))
  refine wpE_cond (t:=(r1 != 0)) (by kernel_rfl) (fun hc2=>?_) (fun hc2=>?_)
  ·have h:=h.1 hc2
   refine wpE_seq (rg (q0 (vi r1) (q0 (vi 0) (q0 (vi r1) (wpL_nil (th_n (wpE_ret (th_r (res2 (.inl rfl) Tryz.results32 (v:=(vi 0)) (by kernel_rfl) (v':=(vi r1)) (by kernel_rfl) ?_)))))))))
   exact ⟨0,r1,rfl,h⟩
  ·have h:=h.2 hc2
   refine wpE_skip (th_n (wpE_seq (rg (q0 (vp p1) ?_))))
   obtain ⟨a1,hp2,h⟩:=h
   refine q2 (vp (some a1)) (x_nilCheck (p:=p1) (by kernel_rfl) hp2) (q0 (vp (some a1)) ?_)
   obtain ⟨v1,hv2,h⟩:=h
   refine q2 v1.v (xl (Tryz.isAgg91 _) hv2) (q0 (vi (v1.len:Int)) (q0 (vi (v1.len:Int)) (wpL_nil (th_n (wpE_seq (rg (q0 (vp p1) ?_)))))))
   obtain ⟨aO,aP,aQ,aR,aS,bR,hv1,h⟩:=h
   refine q2 (.agg #[(vi aO),(vi aP),(vi aQ),(vu aR),(vs aS),bR.v]) (x_loadA (a:=p2) (vs:=[(vi aO),(vi aP),(vi aQ),(vu aR),(vs aS),bR.v]) (by kernel_rfl) (Tryz.isAgg49 _) (Tryz.sizeOf49 _) rfl hv1) ?_
   refine sc Tryz.call69 (h.mono ?_)
   rintro e w5 ⟨r2,r3,rfl,h⟩
   refine ⟨_,rfl,?_⟩
   refine q0 (.tuple #[(vi r2),(vi r3)]) (q0 (vi r2) (q0 (vi r3) (q0 (vi r2) (q0 (vi r3) (wpL_nil (th_n (wpE_seq (wpE_seq (rg (q0 (vi r3) (q0 (vb (r3 != 0)) ?_)))))))))))
   refine wpL_nil (th_n ?_)
   refine wpE_cond (t:=(r3 != 0)) (by kernel_rfl) (fun hc3=>?_) (fun hc3=>?_)
   ·have h:=h.1 hc3
    refine wpE_seq (rg (q0 (vp p1) (q0 (vi (v1.len:Int)) ?_)))
    refine sc Tryz.call70 (h.mono ?_)
    rintro e w6 ⟨rfl,h⟩
    refine ⟨_,rfl,?_⟩
    refine wpL_nil (th_n (wpE_seq (rg (q0 (vi r3) (q0 (vi 0) (q0 (vi r3) (wpL_nil (th_n (wpE_ret (th_r (res2 (.inl rfl) Tryz.results32 (v:=(vi 0)) (by kernel_rfl) (v':=(vi r3)) (by kernel_rfl) ?_)))))))))))
    exact ⟨0,r3,rfl,h⟩
   ·have h:=h.2 hc3
    refine wpE_skip (th_n (wpE_seq (rg (q0 (vi r2) (q0 (vi r2) (q0 (vi 0) (wpL_nil (th_n (wpE_ret (res2 (.inl rfl) Tryz.results32 (v:=(vi r2)) (by kernel_rfl) (v':=(vi 0)) (by kernel_rfl) ?_))))))))))
    exact ⟨r2,0,rfl,h⟩
def m_Q3 (p1:Option Addr) (t1:Int) (w:World) (K:Int→Int→Int→Int→ByteArray→Int→Int→Bool→WP):Prop :=
 ∀(p2:Addr) (w1:World),New w (.cells #[(vi 0),(vi 0),(vi 0),(vu 0),(vs ⟨#[]⟩),(vi 0),(vi 0)] 86) p2 w1 →
 Calls Tryz.prog 80 #[(vp p1),(vi t1)] w1 (fun e w2=>∃r1:Bool,e=.returned (vb r1)∧
  Br (!r1)
   ((∀j,j<7→CanW w2 (p2.add j))∧∀w3:World,w3=storeRow w2 p2 [(vi 0),(vi 0),(vi 0),(vu 0),(vs ⟨#[]⟩),(vi 0),(vi 0)] →
   ∃bH bI:Int,∃bJ bK:Int,∃bL:ByteArray,∃cE cF:Int,Row w3 p2 [(vi bH),(vi bI),(vi bJ),(vu bK),(vs bL),(vi cE),(vi cF)] ∧
   K bH bI bJ bK bL cE cF false w3)
   (∃a1:Addr,p1=some a1 ∧
   ∃v1:Sl,w2.cell? a1=some v1.v ∧
   ∃a2:Addr,At v1 (q6.wrap (t1 - 1)) 9 a2 ∧
   ∃aA aB:Int,∃aC aD:Int,∃aE:ByteArray,∃aF aG:Int,Row w2 a2 [(vi aA),(vi aB),(vi aC),(vu aD),(vs aE),(vi aF),(vi aG)] ∧
   (∀j,j<7→CanW w2 (p2.add j))∧∀w4:World,w4=storeRow w2 p2 [(vi aA),(vi aB),(vi aC),(vu aD),(vs aE),(vi aF),(vi aG)] →
   ∃bZ cA:Int,∃cB cC:Int,∃cD:ByteArray,∃cK cL:Int,Row w4 p2 [(vi bZ),(vi cA),(vi cB),(vu cC),(vs cD),(vi cK),(vi cL)] ∧
   K bZ cA cB cC cD cK cL true w4))
theorem w_Q3 (p1 : Option Addr) (t1 : Int) (w : World) (K : Int → Int → Int → Int → ByteArray → Int → Int → Bool → WP) (h : m_Q3 p1 t1 w K) :
  Calls Tryz.prog 43 #[(vp p1),(vi t1)] w (fun e w'=>∃aT aU:Int,∃aV aW:Int,∃aX:ByteArray,∃aY aZ:Int,∃r2:Bool,e=.returned (.tuple #[(.agg #[(vi aT),(vi aU),(vi aV),(vu aW),(vs aX),(vi aY),(vi aZ)]),(vb r2)])∧K aT aU aV aW aX aY aZ r2 w'):=by
 unfold m_Q3 at h
 refine cw (args:=[(vp p1),(vi t1)]) Tryz.func43 Tryz.ntmps43 (wpE_seq (rg (sn (O:=(.cells #[(vi 0),(vi 0),(vi 0),(vu 0),(vs ⟨#[]⟩),(vi 0),(vi 0)] 86)) (x_alloc (Tryz.zeroValue86 _) rfl) ?_)))
 intro p2 w1 hn3
 have h:=h p2 w1 hn3
 refine q0 (vb false) (wpL_nil (th_n (wpE_seq (wpE_seq (rg (q0 (vp p1) (q0 (vi t1) ?_)))))))
 refine sc Tryz.call80 (h.mono ?_)
 rintro e w2 ⟨r1,rfl,h⟩
 refine ⟨_,rfl,?_⟩
 refine q0 (vb (!r1)) (wpL_nil (th_n ?_))
 refine wpE_cond (t:=(!r1)) (by kernel_rfl) (fun hc1=>?_) (fun hc1=>?_)
 ·have h:=h.1 hc1
  refine wpE_seq (rg (q0 (.agg #[(vi 0),(vi 0),(vi 0),(vu 0),(vs ⟨#[]⟩),(vi 0),(vi 0)]) ?_))
  obtain ⟨hp1,h⟩:=h
  refine st_set (want0 rfl) (x_storeA (a:=p2) (vs:=[(vi 0),(vi 0),(vi 0),(vu 0),(vs ⟨#[]⟩),(vi 0),(vi 0)]) (by kernel_rfl) (by kernel_rfl) rfl (Tryz.sizeOf86 _) rfl hp1) ?_
  intro w3 hn1
  have h:=h w3 hn1
  refine q0 (vb false) (wpL_nil (th_n (wpE_ret (th_r ?_))))
  obtain ⟨bH,bI,bJ,bK,bL,cE,cF,hv1,h⟩:=h
  refine resG (.inl rfl) (vs:=[(.agg #[(vi bH),(vi bI),(vi bJ),(vu bK),(vs bL),(vi cE),(vi cF)]),(vb false)]) (v:=(.tuple #[(.agg #[(vi bH),(vi bI),(vi bJ),(vu bK),(vs bL),(vi cE),(vi cF)]),(vb false)])) Tryz.results43 ⟨(RV.cellA (by kernel_rfl) (Tryz.isAgg86 _) (Tryz.sizeOf86 _) rfl hv1),(rvT (by kernel_rfl)),trivial⟩ (by kernel_rfl) ?_
  exact ⟨bH,bI,bJ,bK,bL,cE,cF,false,rfl,h⟩
 ·have h:=h.2 hc1
  refine wpE_skip (th_n (wpE_seq (rg (q0 (vp p1) ?_))))
  obtain ⟨a1,hp2,h⟩:=h
  refine q2 (vp (some a1)) (x_nilCheck (p:=p1) (by kernel_rfl) hp2) (q0 (vp (some a1)) ?_)
  obtain ⟨v1,hv5,h⟩:=h
  refine q2 v1.v (xl (Tryz.isAgg91 _) hv5) (q0 (vi t1) (q0 (vi (q6.wrap (t1 - 1))) ?_))
  obtain ⟨a2,hv4,h⟩:=h
  refine q2 (vp (some a2)) (xi (Tryz.runUnderlying91 _) (Tryz.sizeOf147 _) hv4) (q0 (vp (some a2)) ?_)
  obtain ⟨aA,aB,aC,aD,aE,aF,aG,hv3,h⟩:=h
  refine q2 (.agg #[(vi aA),(vi aB),(vi aC),(vu aD),(vs aE),(vi aF),(vi aG)]) (x_loadA (a:=a2) (vs:=[(vi aA),(vi aB),(vi aC),(vu aD),(vs aE),(vi aF),(vi aG)]) (by kernel_rfl) (Tryz.isAgg86 _) (Tryz.sizeOf86 _) rfl hv3) ?_
  obtain ⟨hp3,h⟩:=h
  refine st_set (want0 rfl) (x_storeA (a:=p2) (vs:=[(vi aA),(vi aB),(vi aC),(vu aD),(vs aE),(vi aF),(vi aG)]) (by kernel_rfl) (by kernel_rfl) rfl (Tryz.sizeOf86 _) rfl hp3) ?_
  intro w4 hn2
  have h:=h w4 hn2
  refine q0 (vb true) (wpL_nil (th_n (wpE_ret ?_)))
  obtain ⟨bZ,cA,cB,cC,cD,cK,cL,hv2,h⟩:=h
  refine resG (.inl rfl) (vs:=[(.agg #[(vi bZ),(vi cA),(vi cB),(vu cC),(vs cD),(vi cK),(vi cL)]),(vb true)]) (v:=(.tuple #[(.agg #[(vi bZ),(vi cA),(vi cB),(vu cC),(vs cD),(vi cK),(vi cL)]),(vb true)])) Tryz.results43 ⟨(RV.cellA (by kernel_rfl) (Tryz.isAgg86 _) (Tryz.sizeOf86 _) rfl hv2),(rvT (by kernel_rfl)),trivial⟩ (by kernel_rfl) ?_
  exact ⟨bZ,cA,cB,cC,cD,cK,cL,true,rfl,h⟩
def m_R3 (p1:Option Addr) (t1:Int) (w:World) (K:Sl→WP):Prop :=
 Calls Tryz.prog 43 #[(vp p1),(vi t1)] w (fun e w1=>∃aT aU:Int,∃aV aW:Int,∃aX:ByteArray,∃aY aZ:Int,∃r1:Bool,e=.returned (.tuple #[(.agg #[(vi aT),(vi aU),(vi aV),(vu aW),(vs aX),(vi aY),(vi aZ)]),(vb r1)])∧
  ∀(p2:Addr) (w2:World),New w1 (.cells #[(vi 0),(vi 0),(vi 0),(vu 0),(vs ⟨#[]⟩),(vi 0),(vi 0)] 86) p2 w2 →
  (∀j,j<7→CanW w2 (p2.add j))∧∀w3:World,w3=storeRow w2 p2 [(vi aT),(vi aU),(vi aV),(vu aW),(vs aX),(vi aY),(vi aZ)] →
  ∃v1:Int,w3.cell? p2=some (vi v1) ∧
  Calls Tryz.prog 91 #[(vi v1)] w3 (fun e w4=>∃rfrom1 rto1:Bool,∃rnum1 rtext1:Bool,∃rkids1:Int,∃r2:Bool,e=.returned (.tuple #[(.agg #[(vb rfrom1),(vb rto1),(vb rnum1),(vb rtext1),(vi rkids1)]),(vb r2)])∧
   ∀(p3:Addr) (w5:World),New w4 (.cells #[(vb false),(vb false),(vb false),(vb false),(vi 0)] 149) p3 w5 →
   (∀j,j<5→CanW w5 (p3.add j))∧∀w6:World,w6=storeRow w5 p3 [(vb rfrom1),(vb rto1),(vb rnum1),(vb rtext1),(vi rkids1)] →
   ∃v2:Int,w6.cell? (p2.add 5)=some (vi v2) ∧
   ∃v3:Int,w6.cell? (p2.add 6)=some (vi v3) ∧
   ∀(p4:Addr) (w7:World),New w6 (.cells #[(vi v2),(vi v3)] 30) p4 w7 →
   ∃v4:Int,w7.cell? (p3.add 4)=some (vi v4) ∧
   ∃s1:Sl,(Instr.sliceAt 52 (Sl.mk (some p4) 2 2).v none (some (vi v4)) none).run Tryz.prog w7=.ok s1.v w7 ∧
   K s1 w7))
theorem w_R3 (p1 : Option Addr) (t1 : Int) (w : World) (K : Sl → WP) (h : m_R3 p1 t1 w K) :
  Calls Tryz.prog 44 #[(vp p1),(vi t1)] w (fun e w'=>∃r3:Sl,e=.returned r3.v∧K r3 w'):=by
 unfold m_R3 at h
 refine cw (args:=[(vp p1),(vi t1)]) Tryz.func44 Tryz.ntmps44 (wpE_seq (rg (q0 Sl.nil.v (wpL_nil (th_n (wpE_seq (rg (q0 (vp p1) (q0 (vi t1) ?_)))))))))
 refine sc Tryz.call43 (h.mono ?_)
 rintro e w1 ⟨aT,aU,aV,aW,aX,aY,aZ,r1,rfl,h⟩
 refine ⟨_,rfl,?_⟩
 refine q0 (.tuple #[(.agg #[(vi aT),(vi aU),(vi aV),(vu aW),(vs aX),(vi aY),(vi aZ)]),(vb r1)]) (q0 (.agg #[(vi aT),(vi aU),(vi aV),(vu aW),(vs aX),(vi aY),(vi aZ)]) (q0 (vb r1) (sn (O:=(.cells #[(vi 0),(vi 0),(vi 0),(vu 0),(vs ⟨#[]⟩),(vi 0),(vi 0)] 86)) (x_alloc (Tryz.zeroValue86 _) rfl) ?_)))
 intro p2 w2 hn5
 have h:=h p2 w2 hn5
 obtain ⟨hp1,h⟩:=h
 refine st_set (want0 rfl) (x_storeA (a:=p2) (vs:=[(vi aT),(vi aU),(vi aV),(vu aW),(vs aX),(vi aY),(vi aZ)]) (by kernel_rfl) (by kernel_rfl) rfl (Tryz.sizeOf86 _) rfl hp1) ?_
 intro w3 hn1
 have h:=h w3 hn1
 refine q0 (vb r1) (wpL_nil (th_n (wpE_seq (rg (q0 (vp (some p2)) ?_)))))
 obtain ⟨v1,hv5,h⟩:=h
 refine q2 (vi v1) (xl (Tryz.isAgg3 _) hv5) ?_
 refine sc Tryz.call91 (h.mono ?_)
 rintro e w4 ⟨rfrom1,rto1,rnum1,rtext1,rkids1,r2,rfl,h⟩
 refine ⟨_,rfl,?_⟩
 refine q0 (.tuple #[(.agg #[(vb rfrom1),(vb rto1),(vb rnum1),(vb rtext1),(vi rkids1)]),(vb r2)]) (q0 (.agg #[(vb rfrom1),(vb rto1),(vb rnum1),(vb rtext1),(vi rkids1)]) (q0 (vb r2) (sn (O:=(.cells #[(vb false),(vb false),(vb false),(vb false),(vi 0)] 149)) (x_alloc (Tryz.zeroValue149 _) rfl) ?_)))
 intro p3 w5 hn4
 have h:=h p3 w5 hn4
 obtain ⟨hp2,h⟩:=h
 refine st_set (want0 rfl) (x_storeA (a:=p3) (vs:=[(vb rfrom1),(vb rto1),(vb rnum1),(vb rtext1),(vi rkids1)]) (by kernel_rfl) (by kernel_rfl) rfl (Tryz.sizeOf149 _) rfl hp2) ?_
 intro w6 hn2
 have h:=h w6 hn2
 refine q0 (vb r2) (wpL_nil (th_n (wpE_seq (rg (q0 (vp (some (p2.add 5))) ?_)))))
 obtain ⟨v2,hv4,h⟩:=h
 refine q2 (vi v2) (xl (Tryz.isAgg30 _) hv4) (q0 (vp (some (p2.add 6))) ?_)
 obtain ⟨v3,hv3,h⟩:=h
 refine q2 (vi v3) (xl (Tryz.isAgg30 _) hv3) (st_new (O:=(.cells #[(vi v2),(vi v3)] 30)) (fun p=>(Sl.mk (some p) 2 2).v) (want0 rfl) (x_buildSlice (vs:=#[(0,(vi v2)),(1,(vi v3))]) (by kernel_rfl) (by kernel_rfl)) ?_)
 intro p4 w7 hn3
 have h:=h p4 w7 hn3
 refine q0 (vp (some (p3.add 4))) ?_
 obtain ⟨v4,hv2,h⟩:=h
 refine q2 (vi v4) (xl (Tryz.isAgg3 _) hv2) ?_
 obtain ⟨s1,hv1,h⟩:=h
 refine q2 s1.v (x_slice (by kernel_rfl) (by kernel_rfl) (by kernel_rfl) (by kernel_rfl) hv1) (q0 s1.v (wpL_nil (th_n (wpE_ret (rs1 Tryz.results44 (v:=s1.v) ?_)))))
 exact ⟨s1,rfl,h⟩
def m_W1 (p1:Option Addr) (aH aI:Int) (aJ aK:Int) (aL:ByteArray) (aM aN:Int) (w:World) (K:Int→Int→WP):Prop :=
 ∀(p2:Addr) (w1:World),New w (.cells #[(vi aH),(vi aI),(vi aJ),(vu aK),(vs aL),(vi aM),(vi aN)] 86) p2 w1 →
 Br (Option.isNone p1)
  (K 0 0 w1)
  (∃aA aB:Int,∃aC aD:Int,∃aE:ByteArray,∃aF aG:Int,Row w1 p2 [(vi aA),(vi aB),(vi aC),(vu aD),(vs aE),(vi aF),(vi aG)] ∧
  Calls Tryz.prog 102 #[(vp p1),(.agg #[(vi aA),(vi aB),(vi aC),(vu aD),(vs aE),(vi aF),(vi aG)])] w1 (fun e w2=>∃r1 r2 r3:Int,e=.returned (.tuple #[(vi r1),(vi r2),(vi r3)])∧
   Br (r3 != 0)
    (K 0 r3 w2)
    (∀w3,w3=w2.drew →
    ∃a1:Addr,p1=some a1 ∧
    ∃v1:Option Nat,w3.cell? (a1.add 1)=some (.map v1) ∧
    ∃aO aP:Int,∃aQ aR:Int,∃aS:ByteArray,∃bS bT:Int,Row w3 p2 [(vi aO),(vi aP),(vi aQ),(vu aR),(vs aS),(vi bS),(vi bT)] ∧
    ∃v2:Int,∃ok1:Bool,(Instr.lookup 92 (.map v1) (.agg #[(vi aO),(vi aP),(vi aQ),(vu aR),(vs aS),(vi bS),(vi bT)]) true).run Tryz.prog w3=.ok (.tuple #[(vi v2),(vb ok1)]) w3 ∧
    Br ok1
     (K v2 0 w3)
     (∃a2:Addr,p1=some a2 ∧
     ∃v3:Sl,w3.cell? a2=some v3.v ∧
     Br (decide ((v3.len:Int)≥65536))
      (K 0 6 w3)
      (∃C1:WP,C1 w3.drew∧∀w4,w4=w3.drew →
      ∃a3:Addr,p1=some a3 ∧
      ∃v4:Sl,(∀w',C1 w'→w'.cell? a3=some v4.v) ∧
      ∃bM bN:Int,∃bO bP:Int,∃bQ:ByteArray,∃cG cH:Int,(∀w',C1 w'→Row w' p2 [(vi bM),(vi bN),(vi bO),(vu bP),(vs bQ),(vi cG),(vi cH)]) ∧
      ∀(p3:Addr) (w5:World),New w4 (.cells #[(vi bM),(vi bN),(vi bO),(vu bP),(vs bQ),(vi cG),(vi cH),(vi r1),(vi r2)] 147) p3 w5→C1 w5 ∧
      ∃s1:Sl,∃w6:World,(Builtin.append_ #[91,91] 91 #[v4.v,(Sl.mk (some p3) 1 1).v]).run Tryz.prog w5=.ok s1.v w6∧C1 w6 ∧
      ∃a4:Addr,p1=some a4 ∧
      CanW w6 a4∧∀w7:World,w7=w6.setCell a4 s1.v →
      ∃a5:Addr,p1=some a5 ∧
      ∃v5:Sl,w7.cell? a5=some v5.v ∧
      ∃C2:WP,C2 w7.drew∧∀w8,w8=w7.drew →
      ∃a6:Addr,p1=some a6 ∧
      ∃v6:Option Nat,(∀w',C2 w'→w'.cell? (a6.add 1)=some (.map v6)) ∧
      ∃bU bV:Int,∃bW bX:Int,∃bY:ByteArray,∃cS cT:Int,(∀w',C2 w'→Row w' p2 [(vi bU),(vi bV),(vi bW),(vu bX),(vs bY),(vi cS),(vi cT)]) ∧
      ∃w9:World,(Instr.mapUpdate 92 (.map v6) (.agg #[(vi bU),(vi bV),(vi bW),(vu bX),(vs bY),(vi cS),(vi cT)]) (vi (v5.len:Int))).run Tryz.prog w8=.ok () w9 ∧
      K (v5.len:Int) 0 w9)))))
theorem w_W1 (p1 : Option Addr) (aH aI : Int) (aJ aK : Int) (aL : ByteArray) (aM aN : Int) (w : World) (K : Int → Int → WP) (h : m_W1 p1 aH aI aJ aK aL aM aN w K) :
  Calls Tryz.prog 66 #[(vp p1),(.agg #[(vi aH),(vi aI),(vi aJ),(vu aK),(vs aL),(vi aM),(vi aN)])] w (fun e w'=>∃r4 r5:Int,e=.returned (.tuple #[(vi r4),(vi r5)])∧K r4 r5 w'):=by
 unfold m_W1 at h
 refine cw (args:=[(vp p1),(.agg #[(vi aH),(vi aI),(vi aJ),(vu aK),(vs aL),(vi aM),(vi aN)])]) Tryz.func66 Tryz.ntmps66 (wpE_seq (rg (sn (O:=(.cells #[(vi aH),(vi aI),(vi aJ),(vu aK),(vs aL),(vi aM),(vi aN)] 86)) xb ?_)))
 intro p2 w1 hn3
 have h:=h p2 w1 hn3
 refine q0 (vi 0) (q0 (vi 0) (wpL_nil (th_n (wpE_seq (wpE_seq (rg (q0 (vp p1) (q2 (vb (Option.isNone p1)) (x_ptreq (by kernel_rfl) rfl Tryz.underlying26) (wpL_nil (th_n ?_))))))))))
 refine wpE_cond (t:=(Option.isNone p1)) (by kernel_rfl) (fun hc1=>?_) (fun hc1=>?_)
 ·have h:=h.1 hc1
  refine wpE_seq (rg (q0 (vi 0) (q0 (vi 0) (wpL_nil (th_n (wpE_ret (th_r (res2 (.inl rfl) Tryz.results66 (v:=(vi 0)) (by kernel_rfl) (v':=(vi 0)) (by kernel_rfl) ?_))))))))
  exact ⟨0,0,rfl,h⟩
 ·have h:=h.2 hc1
  refine wpE_skip (th_n (wpE_seq (rg (q0 (vp p1) ?_))))
  obtain ⟨aA,aB,aC,aD,aE,aF,aG,hv12,h⟩:=h
  refine q2 (.agg #[(vi aA),(vi aB),(vi aC),(vu aD),(vs aE),(vi aF),(vi aG)]) (x_loadA (a:=p2) (vs:=[(vi aA),(vi aB),(vi aC),(vu aD),(vs aE),(vi aF),(vi aG)]) (by kernel_rfl) (Tryz.isAgg86 _) (Tryz.sizeOf86 _) rfl hv12) ?_
  refine sc Tryz.call102 (h.mono ?_)
  rintro e w2 ⟨r1,r2,r3,rfl,h⟩
  refine ⟨_,rfl,?_⟩
  refine q0 (.tuple #[(vi r1),(vi r2),(vi r3)]) (q0 (vi r1) (q0 (vi r2) (q0 (vi r3) (q0 (vi r1) (q0 (vi r2) (q0 (vi r3) (wpL_nil (th_n (wpE_seq (wpE_seq (rg ?_)))))))))))
  refine q0 (vi r3) (q0 (vb (r3 != 0)) (wpL_nil (th_n ?_)))
  refine wpE_cond (t:=(r3 != 0)) (by kernel_rfl) (fun hc2=>?_) (fun hc2=>?_)
  ·have h:=h.1 hc2
   refine wpE_seq (rg (q0 (vi r3) (q0 (vi 0) (q0 (vi r3) (wpL_nil (th_n (wpE_ret (th_r (res2 (.inl rfl) Tryz.results66 (v:=(vi 0)) (by kernel_rfl) (v':=(vi r3)) (by kernel_rfl) ?_)))))))))
   exact ⟨0,r3,rfl,h⟩
  ·have h:=h.2 hc2
   refine wpE_skip (th_n (wpE_seq (wpE_seq (wpE_drawnQ (by kernel_rfl) (by kernel_rfl) (by kernel_rfl) (by kernel_rfl) ?_))))
   intro w3 hw3
   have h:=h w3 hw3
   refine qq 0 (vp p1) Kp0 (qg 1 ?_)
   obtain ⟨a1,hp1,h⟩:=h
   refine sxQ (v:=(vp (some a1))) Kp1 (want0 rfl) rfl (x_nilCheck (p:=p1) (by kernel_rfl) hp1) (qq 2 (vp (some (a1.add 1))) Kp2 (qg 3 ?_))
   obtain ⟨v1,hv11,h⟩:=h
   refine sxQ (v:=(.map v1)) Kp3 (want0 rfl) rfl (xl (Tryz.isAgg92 _) hv11) (qg 4 ?_)
   obtain ⟨aO,aP,aQ,aR,aS,bS,bT,hv10,h⟩:=h
   refine sxQ (v:=(.agg #[(vi aO),(vi aP),(vi aQ),(vu aR),(vs aS),(vi bS),(vi bT)])) Kp4 (want0 rfl) rfl (x_loadA (a:=p2) (vs:=[(vi aO),(vi aP),(vi aQ),(vu aR),(vs aS),(vi bS),(vi bT)]) (by kernel_rfl) (Tryz.isAgg86 _) (Tryz.sizeOf86 _) rfl hv10) (qg 5 ?_)
   obtain ⟨v2,ok1,hv9,h⟩:=h
   refine sxQ (v:=(.tuple #[(vi v2),(vb ok1)])) Kp5 (want0 rfl) rfl (x_lookup (by kernel_rfl) (by kernel_rfl) hv9) (qq 6 (.tuple #[(vi v2),(vb ok1)]) Kp6 (qq 7 (vi v2) Kp7 (qq 8 (vb ok1) Kp8 (qq 9 (vi v2) Kp9 (qq 10 (vb ok1) (pickA (S8 (pickS (pickS pickZ)))) (wn (th_n (wpE_seq (rg (q0 (vb ok1) (wpL_nil ?_)))))))))))
   refine th_n ?_
   refine wpE_cond (t:=ok1) (by kernel_rfl) (fun hc3=>?_) (fun hc3=>?_)
   ·have h:=h.1 hc3
    refine wpE_seq (rg (q0 (vi v2) (q0 (vi v2) (q0 (vi 0) (wpL_nil (th_n (wpE_ret (th_r (res2 (.inl rfl) Tryz.results66 (v:=(vi v2)) (by kernel_rfl) (v':=(vi 0)) (by kernel_rfl) ?_)))))))))
    exact ⟨v2,0,rfl,h⟩
   ·have h:=h.2 hc3
    refine wpE_skip (th_n (wpE_seq (wpE_seq (rg (q0 (vp p1) ?_)))))
    obtain ⟨a2,hp2,h⟩:=h
    refine q2 (vp (some a2)) (x_nilCheck (p:=p1) (by kernel_rfl) hp2) (q0 (vp (some a2)) ?_)
    obtain ⟨v3,hv8,h⟩:=h
    refine q2 v3.v (xl (Tryz.isAgg91 _) hv8) (q0 (vi (v3.len:Int)) (q0 (vb (decide ((v3.len:Int)≥65536))) (wpL_nil (th_n ?_))))
    refine wpE_cond (t:=(decide ((v3.len:Int)≥65536))) (by kernel_rfl) (fun hc4=>?_) (fun hc4=>?_)
    ·have h:=h.1 hc4
     refine wpE_seq (rg (q0 (vi 0) (q0 (vi 6) (wpL_nil (th_n (wpE_ret (th_r (res2 (.inl rfl) Tryz.results66 (v:=(vi 0)) (by kernel_rfl) (v':=(vi 6)) (by kernel_rfl) ?_))))))))
     exact ⟨0,6,rfl,h⟩
    ·have h:=h.2 hc4
     refine wpE_skip (th_n (wpE_seq ?_))
     obtain ⟨C1,hC,h⟩:=h
     refine wpE_drawnC C1 [9,10,13] [13] (by kernel_rfl) (by kernel_rfl) (by kernel_rfl) (by kernel_rfl) hC ?_
     intro w4 hw4
     have h:=h w4 hw4
     refine qx 0 (vp p1) Kp0 (qx 1 (vp p1) Kp1 (qg 2 ?_))
     obtain ⟨a3,hp3,h⟩:=h
     refine sy (v:=(vp (some a3))) Kp2 (fun _ _=>(x_nilCheck (p:=p1) (by kernel_rfl) hp3)) (qx 3 (vp (some a3)) Kp3 (qg 4 ?_))
     obtain ⟨v4,hv7,h⟩:=h
     refine sy (v:=v4.v) Kp4 (fun w' hw'=>(xl (Tryz.isAgg91 _) (hv7 w' hw'))) (qg 5 ?_)
     obtain ⟨bM,bN,bO,bP,bQ,cG,cH,hv6,h⟩:=h
     refine sy (v:=(.agg #[(vi bM),(vi bN),(vi bO),(vu bP),(vs bQ),(vi cG),(vi cH)])) Kp5 (fun w' hw'=>(x_loadA (a:=p2) (vs:=[(vi bM),(vi bN),(vi bO),(vu bP),(vs bQ),(vi cG),(vi cH)]) (by kernel_rfl) (Tryz.isAgg86 _) (Tryz.sizeOf86 _) rfl (hv6 w' hw'))) (qx 6 (vi r1) Kp6 (qx 7 (vi r2) Kp7 (qx 8 (.agg #[(vi bM),(vi bN),(vi bO),(vu bP),(vs bQ),(vi cG),(vi cH),(vi r1),(vi r2)]) Kp8 (lg 9 (sl_new (O:=(.cells #[(vi bM),(vi bN),(vi bO),(vu bP),(vs bQ),(vi cG),(vi cH),(vi r1),(vi r2)] 147)) (fun p=>(Sl.mk (some p) 1 1).v) Kp9 (want0 rfl) (by kernel_rfl) (x_buildSlice (vs:=#[(0,(.agg #[(vi bM),(vi bN),(vi bO),(vu bP),(vs bQ),(vi cG),(vi cH),(vi r1),(vi r2)]))]) (by kernel_rfl) (by kernel_rfl)) ?_)))))
     intro p3 w5 hn2
     have h:=h p3 w5 hn2
     refine ⟨.inr h.1,?_⟩
     have h:=h.2
     refine lg 10 ?_
     obtain ⟨s1,w6,hv5,hC,h⟩:=h
     refine sl (v:=s1.v) (pickA (S8 (pickS (pickS pickZ)))) (want0 rfl) (by kernel_rfl) (x_builtin (args:=#[v4.v,(Sl.mk (some p3) 1 1).v]) (by kernel_rfl) (fun _=>rfl) hv5) (.inr hC) ?_
     refine qg 11 ?_
     obtain ⟨a4,hp4,h⟩:=h
     refine sy (v:=(vp (some a4))) (pickA (S8 (pickS (pickS (pickS pickZ))))) (fun _ _=>(x_nilCheck (p:=p1) (by kernel_rfl) hp4)) (qx 12 (vp (some a4)) (pickA (S8 (S4 pickZ))) (lg 13 ?_))
     obtain ⟨hp5,h⟩:=h
     refine sl_t (pickA (S8 (S4 (pickS pickZ)))) (xs (v:=s1.v) (Tryz.sizeOf91 _) hp5) ?_
     intro w7 hn1
     have h:=h w7 hn1
     refine ⟨.inl (by kernel_rfl),?_⟩
     refine wn (th_n (wpE_seq (rg (q0 (vp p1) ?_))))
     obtain ⟨a5,hp6,h⟩:=h
     refine q2 (vp (some a5)) (x_nilCheck (p:=p1) (by kernel_rfl) hp6) (q0 (vp (some a5)) ?_)
     obtain ⟨v5,hv4,h⟩:=h
     refine q2 v5.v (xl (Tryz.isAgg91 _) hv4) (q0 (vi (v5.len:Int)) (q0 (vi (v5.len:Int)) (wpL_nil (th_n (wpE_seq ?_)))))
     obtain ⟨C2,hC,h⟩:=h
     refine wpE_drawnC C2 [6] [6] (by kernel_rfl) (by kernel_rfl) (by kernel_rfl) (by kernel_rfl) hC ?_
     intro w8 hw8
     have h:=h w8 hw8
     refine qx 0 (vp p1) Kp0 (qg 1 ?_)
     obtain ⟨a6,hp7,h⟩:=h
     refine sy (v:=(vp (some a6))) Kp1 (fun _ _=>(x_nilCheck (p:=p1) (by kernel_rfl) hp7)) (qx 2 (vp (some (a6.add 1))) Kp2 (qg 3 ?_))
     obtain ⟨v6,hv3,h⟩:=h
     refine sy (v:=(.map v6)) Kp3 (fun w' hw'=>(xl (Tryz.isAgg92 _) (hv3 w' hw'))) (qg 4 ?_)
     obtain ⟨bU,bV,bW,bX,bY,cS,cT,hv2,h⟩:=h
     refine sy (v:=(.agg #[(vi bU),(vi bV),(vi bW),(vu bX),(vs bY),(vi cS),(vi cT)])) Kp4 (fun w' hw'=>(x_loadA (a:=p2) (vs:=[(vi bU),(vi bV),(vi bW),(vu bX),(vs bY),(vi cS),(vi cT)]) (by kernel_rfl) (Tryz.isAgg86 _) (Tryz.sizeOf86 _) rfl (hv2 w' hw'))) (qx 5 (vi (v5.len:Int)) Kp5 (lg 6 ?_))
     obtain ⟨w9,hv1,h⟩:=h
     refine sl_skip Kp6 (want0 rfl) (by kernel_rfl) (x_mapUpdate (by kernel_rfl) (by kernel_rfl) (by kernel_rfl) hv1) (.inl (by kernel_rfl)) (wn (th_n (wpE_seq (rg (q0 (vi (v5.len:Int)) (q0 (vi (v5.len:Int)) (q0 (vi 0) (wpL_nil (th_n (wpE_ret (res2 (.inl rfl) Tryz.results66 (v:=(vi (v5.len:Int))) (by kernel_rfl) (v':=(vi 0)) (by kernel_rfl) ?_)))))))))))
     exact ⟨(v5.len:Int),0,rfl,h⟩
def m_I_l4 (inside1:Int) (seen1:Option Addr) (p1:Addr) (e3 i1:Int) (wl1:World) (Kc4:Int→Int→WP) (K:Int→WP):Prop :=
 ∃v2:Sl,wl1.cell? (p1.add 5)=some v2.v ∧
 Br (decide (i1<(v2.len:Int)))
  (Br (e3 == 0)
   (∃v3:Sl,wl1.cell? (p1.add 5)=some v3.v ∧
   ∃a3:Addr,At v3 i1 6 a3 ∧
   ∃bM bN:Int,∃bO bP:Int,∃bQ:ByteArray,∃bR:Sl,Row wl1 a3 [(vi bM),(vi bN),(vi bO),(vu bP),(vs bQ),bR.v] ∧
   Calls Tryz.prog 68 #[(.agg #[(vi bM),(vi bN),(vi bO),(vu bP),(vs bQ),bR.v]),(vi (q6.wrap (inside1+1))),(vp seen1)] wl1 (fun e w9=>∃r2:Int,e=.returned (vi r2)∧
    Kc4 r2 (q6.wrap (i1+1)) w9))
   (K e3 wl1))
  (K e3 wl1)
def m_I_j3 (inside1:Int) (seen1:Option Addr) (p1:Addr) (e2:Int) (w:World) (K:Int→WP):Prop :=
 ∃(I1:Int→Int→WP) (mu1:Int→Int→World→Nat),I1 e2 0 w ∧
  ∀(e3 i1:Int) (wl1:World),I1 e3 i1 wl1→m_I_l4 inside1 seen1 p1 e3 i1 wl1 (fun y'0 y'1 w'=>I1 y'0 y'1 w'∧mu1 y'0 y'1 w'<mu1 e3 i1 wl1) K
def m_I_j2 (inside1:Int) (seen1:Option Addr) (p1 p2 p3:Addr) (e1:Int) (w:World) (K:Int→WP):Prop :=
 Br (e1 == 0)
  (∃vfrom1 vto1:Bool,∃vnum1 vtext1:Bool,∃vkids1:Int,Row w p3 [(vb vfrom1),(vb vto1),(vb vnum1),(vb vtext1),(vi vkids1)] ∧
  ∃bU bV:Int,∃bW bX:Int,∃bY:ByteArray,∃bS bT:Int,Row w p2 [(vi bU),(vi bV),(vi bW),(vu bX),(vs bY),(vi bS),(vi bT)] ∧
  Calls Tryz.prog 105 #[(.agg #[(vb vfrom1),(vb vto1),(vb vnum1),(vb vtext1),(vi vkids1)]),(.agg #[(vi bU),(vi bV),(vi bW),(vu bX),(vs bY),(vi bS),(vi bT)])] w (fun e w10=>∃r3:Int,e=.returned (vi r3)∧
   m_I_j3 inside1 seen1 p1 r3 w10 K))
  (m_I_j3 inside1 seen1 p1 e1 w K)
def m_I_j1 (inside1:Int) (seen1:Option Addr) (p1:Addr) (w:World) (K:Int→WP):Prop :=
 ∃a1:Addr,seen1=some a1 ∧
 ∃v1:Int,w.cell? a1=some (vi v1) ∧
 ∃a2:Addr,seen1=some a2 ∧
 CanW w a2∧∀w2:World,w2=w.setCell a2 (vi (q6.wrap (v1+1))) →
 ∃aA aB:Int,∃aC aD:Int,∃aE:ByteArray,∃bG:Sl,Row w2 p1 [(vi aA),(vi aB),(vi aC),(vu aD),(vs aE),bG.v] ∧
 Calls Tryz.prog 103 #[(.agg #[(vi aA),(vi aB),(vi aC),(vu aD),(vs aE),bG.v])] w2 (fun e w3=>∃aT aU:Int,∃aV aW:Int,∃aX:ByteArray,∃aY aZ:Int,e=.returned (.agg #[(vi aT),(vi aU),(vi aV),(vu aW),(vs aX),(vi aY),(vi aZ)])∧
  ∀(p2:Addr) (w4:World),New w3 (.cells #[(vi 0),(vi 0),(vi 0),(vu 0),(vs ⟨#[]⟩),(vi 0),(vi 0)] 86) p2 w4 →
  (∀j,j<7→CanW w4 (p2.add j))∧∀w5:World,w5=storeRow w4 p2 [(vi aT),(vi aU),(vi aV),(vu aW),(vs aX),(vi aY),(vi aZ)] →
  ∃aO aP:Int,∃aQ aR:Int,∃aS:ByteArray,∃aF aG:Int,Row w5 p2 [(vi aO),(vi aP),(vi aQ),(vu aR),(vs aS),(vi aF),(vi aG)] ∧
  Calls Tryz.prog 104 #[(.agg #[(vi aO),(vi aP),(vi aQ),(vu aR),(vs aS),(vi aF),(vi aG)])] w5 (fun e w6=>∃rfrom1 rto1:Bool,∃rnum1 rtext1:Bool,∃rkids1 r1:Int,e=.returned (.tuple #[(.agg #[(vb rfrom1),(vb rto1),(vb rnum1),(vb rtext1),(vi rkids1)]),(vi r1)])∧
   ∀(p3:Addr) (w7:World),New w6 (.cells #[(vb false),(vb false),(vb false),(vb false),(vi 0)] 149) p3 w7 →
   (∀j,j<5→CanW w7 (p3.add j))∧∀w8:World,w8=storeRow w7 p3 [(vb rfrom1),(vb rto1),(vb rnum1),(vb rtext1),(vi rkids1)] →
   Br (r1 == 0)
    (∃v4:Sl,w8.cell? (p1.add 5)=some v4.v ∧
    ∃v5:Int,w8.cell? (p3.add 4)=some (vi v5) ∧
    Br (((v4.len:Int):Int) != v5)
     (m_I_j2 inside1 seen1 p1 p2 p3 53 w8 K)
     (m_I_j2 inside1 seen1 p1 p2 p3 r1 w8 K))
    (m_I_j2 inside1 seen1 p1 p2 p3 r1 w8 K)))
def m_I (bA bB:Int) (bC bD:Int) (bE:ByteArray) (bF:Sl) (inside1:Int) (seen1:Option Addr) (w:World) (K:Int→WP):Prop :=
 ∀(p1:Addr) (w1:World),New w (.cells #[(vi bA),(vi bB),(vi bC),(vu bD),(vs bE),bF.v] 49) p1 w1 →
 ∃a4:Addr,seen1=some a4 ∧
 ∃v6:Int,w1.cell? a4=some (vi v6) ∧
 Br (decide (v6≥4096))
  (K 52 w1)
  (Br (decide (inside1≥64))
   (K 52 w1)
   (m_I_j1 inside1 seen1 p1 w1 K))
theorem w_I (bA bB : Int) (bC bD : Int) (bE : ByteArray) (bF : Sl) (inside1 : Int) (seen1 : Option Addr) (w : World) (K : Int → WP) (h : m_I bA bB bC bD bE bF inside1 seen1 w K) :
  Calls Tryz.prog 68 #[(.agg #[(vi bA),(vi bB),(vi bC),(vu bD),(vs bE),bF.v]),(vi inside1),(vp seen1)] w (fun e w'=>∃r4:Int,e=.returned (vi r4)∧K r4 w'):=by
 unfold m_I at h
 refine cw (args:=[(.agg #[(vi bA),(vi bB),(vi bC),(vu bD),(vs bE),bF.v]),(vi inside1),(vp seen1)]) Tryz.func68 Tryz.ntmps68 (wpE_seq (rg (sn (O:=(.cells #[(vi bA),(vi bB),(vi bC),(vu bD),(vs bE),bF.v] 49)) xb ?_)))
 intro p1 w1 hn6
 have h:=h p1 w1 hn6
 refine q0 (vi 0) (wpL_nil (th_n ?_))
 refine wpE_join (fun ρ w=>Has ρ [(1,(vi inside1)),(2,(vp seen1)),(3,(vp (some p1)))]∧m_I_j1 inside1 seen1 p1 w K) ?_ ?_
 ·rintro ρ w ⟨hH,h⟩
  unfold m_I_j1 at h
  refine wpE_has hH ?_
  refine wpE_seq (rg (q0 (vp seen1) ?_))
  obtain ⟨a1,hp1,h⟩:=h
  refine q2 (vp (some a1)) (x_nilCheck (p:=seen1) (by kernel_rfl) hp1) ?_
  obtain ⟨v1,hv11,h⟩:=h
  refine q2 (vi v1) (xl (Tryz.isAgg3 _) hv11) (q0 (vi (q6.wrap (v1+1))) ?_)
  obtain ⟨a2,hp2,h⟩:=h
  refine q2 (vp (some a2)) (x_nilCheck (p:=seen1) (by kernel_rfl) hp2) ?_
  obtain ⟨hp3,h⟩:=h
  refine st_set (want0 rfl) (x_store (a:=a2) (v:=(vi (q6.wrap (v1+1)))) (by kernel_rfl) (by kernel_rfl) rfl (Tryz.sizeOf3 _) hp3) ?_
  intro w2 hn1
  have h:=h w2 hn1
  refine wpL_nil (th_n (wpE_seq (rg ?_)))
  obtain ⟨aA,aB,aC,aD,aE,bG,hv10,h⟩:=h
  refine q2 (.agg #[(vi aA),(vi aB),(vi aC),(vu aD),(vs aE),bG.v]) (x_loadA (a:=p1) (vs:=[(vi aA),(vi aB),(vi aC),(vu aD),(vs aE),bG.v]) (by kernel_rfl) (Tryz.isAgg49 _) (Tryz.sizeOf49 _) rfl hv10) ?_
  refine sc Tryz.call103 (h.mono ?_)
  rintro e w3 ⟨aT,aU,aV,aW,aX,aY,aZ,rfl,h⟩
  refine ⟨_,rfl,?_⟩
  refine sn (O:=(.cells #[(vi 0),(vi 0),(vi 0),(vu 0),(vs ⟨#[]⟩),(vi 0),(vi 0)] 86)) (x_alloc (Tryz.zeroValue86 _) rfl) ?_
  intro p2 w4 hn5
  have h:=h p2 w4 hn5
  obtain ⟨hp4,h⟩:=h
  refine st_set (want0 rfl) (x_storeA (a:=p2) (vs:=[(vi aT),(vi aU),(vi aV),(vu aW),(vs aX),(vi aY),(vi aZ)]) (by kernel_rfl) (by kernel_rfl) rfl (Tryz.sizeOf86 _) rfl hp4) ?_
  intro w5 hn2
  have h:=h w5 hn2
  refine wpL_nil (th_n (wpE_seq (rg ?_)))
  obtain ⟨aO,aP,aQ,aR,aS,aF,aG,hv9,h⟩:=h
  refine q2 (.agg #[(vi aO),(vi aP),(vi aQ),(vu aR),(vs aS),(vi aF),(vi aG)]) (x_loadA (a:=p2) (vs:=[(vi aO),(vi aP),(vi aQ),(vu aR),(vs aS),(vi aF),(vi aG)]) (by kernel_rfl) (Tryz.isAgg86 _) (Tryz.sizeOf86 _) rfl hv9) ?_
  refine sc Tryz.call104 (h.mono ?_)
  rintro e w6 ⟨rfrom1,rto1,rnum1,rtext1,rkids1,r1,rfl,h⟩
  refine ⟨_,rfl,?_⟩
  refine q0 (.tuple #[(.agg #[(vb rfrom1),(vb rto1),(vb rnum1),(vb rtext1),(vi rkids1)]),(vi r1)]) (q0 (.agg #[(vb rfrom1),(vb rto1),(vb rnum1),(vb rtext1),(vi rkids1)]) (q0 (vi r1) (sn (O:=(.cells #[(vb false),(vb false),(vb false),(vb false),(vi 0)] 149)) (x_alloc (Tryz.zeroValue149 _) rfl) ?_)))
  intro p3 w7 hn4
  have h:=h p3 w7 hn4
  obtain ⟨hp5,h⟩:=h
  refine st_set (want0 rfl) (x_storeA (a:=p3) (vs:=[(vb rfrom1),(vb rto1),(vb rnum1),(vb rtext1),(vi rkids1)]) (by kernel_rfl) (by kernel_rfl) rfl (Tryz.sizeOf149 _) rfl hp5) ?_
  intro w8 hn3
  have h:=h w8 hn3
  refine q0 (vi r1) (wpL_nil (th_n ?_))
  refine wpE_join (fun ρ w=>∃e1:Int,Has ρ [(1,(vi inside1)),(2,(vp seen1)),(3,(vp (some p1))),(7,(vp (some p2))),(8,(vp (some p3))),(9,(vi e1))]∧m_I_j2 inside1 seen1 p1 p2 p3 e1 w K) ?_ ?_
  ·rintro ρ w ⟨e1,hH,h⟩
   unfold m_I_j2 at h
   refine wpE_has hH ?_
   refine wpE_join (fun ρ w=>∃e2:Int,Has ρ [(1,(vi inside1)),(2,(vp seen1)),(3,(vp (some p1))),(9,(vi e2))]∧m_I_j3 inside1 seen1 p1 e2 w K) ?_ ?_
   ·rintro ρ w ⟨e2,hH,h⟩
    unfold m_I_j3 at h
    refine wpE_has hH ?_
    refine wpE_seq (wpE_seq (rg (q0 (vi 0) (wpL_nil (th_n (wpE_block ?_))))))
    obtain ⟨I1,mu1,h0,hr⟩:=h
    refine wpE_loop (σ:=Int×Int×World) (fun s ρ w=>w=s.2.2∧Has ρ [(1,(vi inside1)),(2,(vp seen1)),(3,(vp (some p1))),(9,(vi s.1)),(10,(vi s.2.1))]∧I1 s.1 s.2.1 s.2.2) (fun s=>mu1 s.1 s.2.1 s.2.2) (e2,0,w) ⟨rfl,hm,h0⟩ ?_
    rintro ⟨e3,i1,wl1⟩ ρ w ⟨hw,hH,hI⟩
    obtain rfl:wl1=w:=(show w=wl1 from hw).symm
    have hH:Has ρ [(1,(vi inside1)),(2,(vp seen1)),(3,(vp (some p1))),(9,(vi e3)),(10,(vi i1))]:=hH
    have h:=hr e3 i1 wl1 hI
    unfold m_I_l4 at h
    refine wpE_has hH ?_
    refine wpE_seq (wpE_seq (rg (q0 (vi i1) (q0 (vp (some (p1.add 5))) ?_))))
    obtain ⟨v2,hv4,h⟩:=h
    refine q2 v2.v (xl (Tryz.isAgg22 _) hv4) (q0 (vi (v2.len:Int)) (q0 (vb (decide (i1<(v2.len:Int)))) (q0 (vb (decide (i1<(v2.len:Int)))) ?_)))
    rcases Bool.eq_false_or_eq_true (decide (i1<(v2.len:Int))) with hg1 | hg1
    ·have h:=h.1 hg1
     refine q1 (vi e3) (want1 rfl (yD 51 hg1)) (q1 (vb (e3 == 0)) (want1 rfl (yD 51 hg1)) (q2 (vb (e3 == 0)) (xT hg1) (wpL_nil (th_n ?_))))
     refine wpE_cond (t:=(e3 == 0)) (by kernel_rfl) (fun hc1=>?_) (fun hc1=>?_)
     ·have h:=h.1 hc1
      refine wpE_skip (th_n (wpE_seq (wpE_block (rg (q0 (vp (some (p1.add 5))) ?_)))))
      obtain ⟨v3,hv3,h⟩:=h
      refine q2 v3.v (xl (Tryz.isAgg22 _) hv3) (q0 (vi i1) ?_)
      obtain ⟨a3,hv2,h⟩:=h
      refine q2 (vp (some a3)) (xi (Tryz.runUnderlying22 _) (Tryz.sizeOf49 _) hv2) ?_
      obtain ⟨bM,bN,bO,bP,bQ,bR,hv1,h⟩:=h
      refine q2 (.agg #[(vi bM),(vi bN),(vi bO),(vu bP),(vs bQ),bR.v]) (x_loadA (a:=a3) (vs:=[(vi bM),(vi bN),(vi bO),(vu bP),(vs bQ),bR.v]) (by kernel_rfl) (Tryz.isAgg49 _) (Tryz.sizeOf49 _) rfl hv1) (q0 (vi inside1) (q0 (vi (q6.wrap (inside1+1))) (q0 (vp seen1) ?_)))
      refine sc Tryz.call68 (h.mono ?_)
      rintro e w9 ⟨r2,rfl,h⟩
      refine ⟨_,rfl,?_⟩
      refine q0 (vi r2) (wpL_nil (bl_n (th_n (rg (q0 (vi i1) (q0 (vi (q6.wrap (i1+1))) (q0 (vi (q6.wrap (i1+1))) (wpL_nil (th_n ?_)))))))))
      exact ⟨(r2,(q6.wrap (i1+1)),w9),⟨rfl,hm,h.1⟩,h.2⟩
     ·have h:=h.2 hc1
      refine wpE_exit (th_x (th_x (bl_eq (th_n (wpE_seq (rg (q0 (vi e3) (q0 (vi e3) (wpL_nil (th_n (wpE_ret ?_)))))))))))
      refine rs1 Tryz.results68 (v:=(vi e3)) ?_
      exact ⟨e3,rfl,h⟩
    ·have h:=h.2 hg1
     refine sk (yD 51 hg1) (sk (yD 51 hg1) (q2 (vb false) (xF hg1) (wpL_nil (th_n (wpE_condF (by kernel_rfl) (wpE_exit (th_x (th_x (bl_eq (th_n (wpE_seq ?_)))))))))))
     refine rg (q0 (vi e3) (q0 (vi e3) (wpL_nil (th_n (wpE_ret (rs1 Tryz.results68 (v:=(vi e3)) ?_))))))
     exact ⟨e3,rfl,h⟩
   ·refine wpE_seq (rg (q0 (vi e1) (q0 (vb (e1 == 0)) (wpL_nil (th_n ?_)))))
    refine wpE_cond (t:=(e1 == 0)) (by kernel_rfl) (fun hc2=>?_) (fun hc2=>?_)
    ·have h:=h.1 hc2
     refine rg ?_
     obtain ⟨vfrom1,vto1,vnum1,vtext1,vkids1,hv6,h⟩:=h
     refine q2 (.agg #[(vb vfrom1),(vb vto1),(vb vnum1),(vb vtext1),(vi vkids1)]) (x_loadA (a:=p3) (vs:=[(vb vfrom1),(vb vto1),(vb vnum1),(vb vtext1),(vi vkids1)]) (by kernel_rfl) (Tryz.isAgg149 _) (Tryz.sizeOf149 _) rfl hv6) ?_
     obtain ⟨bU,bV,bW,bX,bY,bS,bT,hv5,h⟩:=h
     refine q2 (.agg #[(vi bU),(vi bV),(vi bW),(vu bX),(vs bY),(vi bS),(vi bT)]) (x_loadA (a:=p2) (vs:=[(vi bU),(vi bV),(vi bW),(vu bX),(vs bY),(vi bS),(vi bT)]) (by kernel_rfl) (Tryz.isAgg86 _) (Tryz.sizeOf86 _) rfl hv5) ?_
     refine sc Tryz.call105 (h.mono ?_)
     rintro e w10 ⟨r3,rfl,h⟩
     refine ⟨_,rfl,?_⟩
     refine q0 (vi r3) (wpL_nil (th_n ?_))
     exact ⟨r3,hm,h⟩
    ·have h:=h.2 hc2
     refine wpE_skip (th_n ?_)
     exact ⟨e1,hm,h⟩
  ·refine wpE_seq (rg (q0 (vi r1) (q0 (vb (r1 == 0)) (q0 (vb (r1 == 0)) ?_))))
   rcases Bool.eq_false_or_eq_true (r1 == 0) with hg2 | hg2
   ·have h:=h.1 hg2
    refine q1 (vp (some (p1.add 5))) (want1 rfl (yD 33 hg2)) ?_
    obtain ⟨v4,hv8,h⟩:=h
    refine stp (v:=v4.v) (want1 rfl (yD 33 hg2)) (xl (Tryz.isAgg22 _) hv8) (q1 (vi (v4.len:Int)) (want1 rfl (yD 33 hg2)) (q1 (vp (some (p3.add 4))) (want1 rfl (yD 33 hg2)) ?_))
    obtain ⟨v5,hv7,h⟩:=h
    refine stp (v:=(vi v5)) (want1 rfl (yD 33 hg2)) (xl (Tryz.isAgg3 _) hv7) (q1 (vb (((v4.len:Int):Int) != v5)) (want1 rfl (yD 33 hg2)) (q2 (vb (((v4.len:Int):Int) != v5)) (xT hg2) (wpL_nil (th_n ?_))))
    refine wpE_cond (t:=(((v4.len:Int):Int) != v5)) (by kernel_rfl) (fun hc3=>?_) (fun hc3=>?_)
    ·have h:=h.1 hc3
     refine rg (q0 (vi 53) (wpL_nil (th_n ?_)))
     exact ⟨53,hm,h⟩
    ·have h:=h.2 hc3
     refine wpE_skip (th_n ?_)
     exact ⟨r1,hm,h⟩
   ·have h:=h.2 hg2
    refine sk (yD 33 hg2) (sk (yD 33 hg2) (sk (yD 33 hg2) (sk (yD 33 hg2) (sk (yD 33 hg2) (sk (yD 33 hg2) (q2 (vb false) (xF hg2) (wpL_nil (th_n (wpE_condF (by kernel_rfl) (wpE_skip (th_n ?_)))))))))))
    exact ⟨r1,hm,h⟩
 ·refine wpE_seq (rg (q0 (vp seen1) ?_))
  obtain ⟨a4,hp6,h⟩:=h
  refine q2 (vp (some a4)) (x_nilCheck (p:=seen1) (by kernel_rfl) hp6) ?_
  obtain ⟨v6,hv12,h⟩:=h
  refine q2 (vi v6) (xl (Tryz.isAgg3 _) hv12) (q0 (vb (decide (v6≥4096))) (q0 (vb (decide (v6≥4096))) ?_))
  rcases Bool.eq_false_or_eq_true (decide (v6≥4096)) with hg3 | hg3
  ·have h:=h.1 hg3
   refine sk (yD 15 hg3) (sk (yD 15 hg3) (q2 (vb true) (xT hg3) (wpL_nil (th_n (wpE_condT (by kernel_rfl) (wpE_seq (rg (q0 (vi 52) (wpL_nil (th_n (wpE_ret ?_)))))))))))
   refine th_r (rs1 Tryz.results68 (v:=(vi 52)) ?_)
   exact ⟨52,rfl,h⟩
  ·have h:=h.2 hg3
   refine q1 (vi inside1) (want1 rfl (yD 15 hg3)) (q1 (vb (decide (inside1≥64))) (want1 rfl (yD 15 hg3)) (q2 (vb (decide (inside1≥64))) (xF hg3) (wpL_nil (th_n ?_))))
   refine wpE_cond (t:=(decide (inside1≥64))) (by kernel_rfl) (fun hc4=>?_) (fun hc4=>?_)
   ·have h:=h.1 hc4
    refine wpE_seq (rg (q0 (vi 52) (wpL_nil (th_n (wpE_ret (th_r (rs1 Tryz.results68 (v:=(vi 52)) ?_)))))))
    exact ⟨52,rfl,h⟩
   ·have h:=h.2 hc4
    refine wpE_skip (th_n ?_)
    exact ⟨hm,h⟩
def m_H1_l1 (p1:Option Addr) (p3 p4:Addr) (v1:Sl) (x1:Int) (wl1:World) (Kc1:Int→WP) (K:Int→Int→WP):Prop :=
 Br (decide (x1<(v1.len:Int)))
  (∃a1:Addr,At v1 x1 6 a1 ∧
  ∃aO aP:Int,∃aQ aR:Int,∃aS:ByteArray,∃bR:Sl,Row wl1 a1 [(vi aO),(vi aP),(vi aQ),(vu aR),(vs aS),bR.v] ∧
  ∀(p5:Addr) (w6:World),New wl1 (.cells #[(vi 0),(vi 0),(vi 0),(vu 0),(vs ⟨#[]⟩),Sl.nil.v] 49) p5 w6 →
  (∀j,j<6→CanW w6 (p5.add j))∧∀w7:World,w7=storeRow w6 p5 [(vi aO),(vi aP),(vi aQ),(vu aR),(vs aS),bR.v] →
  ∃bM bN:Int,∃bO bP:Int,∃bQ:ByteArray,∃cU:Sl,Row w7 p5 [(vi bM),(vi bN),(vi bO),(vu bP),(vs bQ),cU.v] ∧
  Calls Tryz.prog 69 #[(vp p1),(.agg #[(vi bM),(vi bN),(vi bO),(vu bP),(vs bQ),cU.v])] w7 (fun e w8=>∃r1 r2:Int,e=.returned (.tuple #[(vi r1),(vi r2)])∧
   Br (r2 != 0)
    (K 0 r2 w8)
    (∃a2:Addr,At (Sl.mk (some p4) 2 2) x1 1 a2 ∧
    ∃v2:Option Addr,w8.cell? a2=some (vp v2) ∧
    ∃a3:Addr,v2=some a3 ∧
    CanW w8 a3∧∀w9:World,w9=w8.setCell a3 (vi r1) →
    Kc1 (q6.wrap (x1+1)) w9)))
  (∃bU bV:Int,∃bW bX:Int,∃bY:ByteArray,∃aF aG:Int,Row wl1 p3 [(vi bU),(vi bV),(vi bW),(vu bX),(vs bY),(vi aF),(vi aG)] ∧
  Calls Tryz.prog 66 #[(vp p1),(.agg #[(vi bU),(vi bV),(vi bW),(vu bX),(vs bY),(vi aF),(vi aG)])] wl1 (fun e w10=>∃r3 r4:Int,e=.returned (.tuple #[(vi r3),(vi r4)])∧
   K r3 r4 w10))
def m_H1 (p1:Option Addr) (bA bB:Int) (bC bD:Int) (bE:ByteArray) (bF:Sl) (w:World) (K:Int→Int→WP):Prop :=
 ∀(p2:Addr) (w1:World),New w (.cells #[(vi bA),(vi bB),(vi bC),(vu bD),(vs bE),bF.v] 49) p2 w1 →
 ∃aA aB:Int,∃aC aD:Int,∃aE:ByteArray,∃bG:Sl,Row w1 p2 [(vi aA),(vi aB),(vi aC),(vu aD),(vs aE),bG.v] ∧
 Calls Tryz.prog 103 #[(.agg #[(vi aA),(vi aB),(vi aC),(vu aD),(vs aE),bG.v])] w1 (fun e w2=>∃aT aU:Int,∃aV aW:Int,∃aX:ByteArray,∃aY aZ:Int,e=.returned (.agg #[(vi aT),(vi aU),(vi aV),(vu aW),(vs aX),(vi aY),(vi aZ)])∧
  ∀(p3:Addr) (w3:World),New w2 (.cells #[(vi 0),(vi 0),(vi 0),(vu 0),(vs ⟨#[]⟩),(vi 0),(vi 0)] 86) p3 w3 →
  (∀j,j<7→CanW w3 (p3.add j))∧∀w4:World,w4=storeRow w3 p3 [(vi aT),(vi aU),(vi aV),(vu aW),(vs aX),(vi aY),(vi aZ)] →
  ∀(p4:Addr) (w5:World),New w4 (.cells #[(vp (some (p3.add 5))),(vp (some (p3.add 6)))] 179) p4 w5 →
  ∃v1:Sl,w5.cell? (p2.add 5)=some v1.v ∧
  ∃(I1:Int→WP) (mu1:Int→World→Nat),I1 0 w5 ∧
   ∀(x1:Int) (wl1:World),I1 x1 wl1→m_H1_l1 p1 p3 p4 v1 x1 wl1 (fun y'0 w'=>I1 y'0 w'∧mu1 y'0 w'<mu1 x1 wl1) K)
theorem w_H1 (p1 : Option Addr) (bA bB : Int) (bC bD : Int) (bE : ByteArray) (bF : Sl) (w : World) (K : Int → Int → WP) (h : m_H1 p1 bA bB bC bD bE bF w K) :
  Calls Tryz.prog 69 #[(vp p1),(.agg #[(vi bA),(vi bB),(vi bC),(vu bD),(vs bE),bF.v])] w (fun e w'=>∃r5 r6:Int,e=.returned (.tuple #[(vi r5),(vi r6)])∧K r5 r6 w'):=by
 unfold m_H1 at h
 refine cw (args:=[(vp p1),(.agg #[(vi bA),(vi bB),(vi bC),(vu bD),(vs bE),bF.v])]) Tryz.func69 Tryz.ntmps69 (wpE_seq (rg (sn (O:=(.cells #[(vi bA),(vi bB),(vi bC),(vu bD),(vs bE),bF.v] 49)) xb ?_)))
 intro p2 w1 hn7
 have h:=h p2 w1 hn7
 refine q0 (vi 0) (q0 (vi 0) (wpL_nil (th_n (wpE_seq (rg ?_)))))
 obtain ⟨aA,aB,aC,aD,aE,bG,hv8,h⟩:=h
 refine q2 (.agg #[(vi aA),(vi aB),(vi aC),(vu aD),(vs aE),bG.v]) (x_loadA (a:=p2) (vs:=[(vi aA),(vi aB),(vi aC),(vu aD),(vs aE),bG.v]) (by kernel_rfl) (Tryz.isAgg49 _) (Tryz.sizeOf49 _) rfl hv8) ?_
 refine sc Tryz.call103 (h.mono ?_)
 rintro e w2 ⟨aT,aU,aV,aW,aX,aY,aZ,rfl,h⟩
 refine ⟨_,rfl,?_⟩
 refine sn (O:=(.cells #[(vi 0),(vi 0),(vi 0),(vu 0),(vs ⟨#[]⟩),(vi 0),(vi 0)] 86)) (x_alloc (Tryz.zeroValue86 _) rfl) ?_
 intro p3 w3 hn6
 have h:=h p3 w3 hn6
 obtain ⟨hp1,h⟩:=h
 refine st_set (want0 rfl) (x_storeA (a:=p3) (vs:=[(vi aT),(vi aU),(vi aV),(vu aW),(vs aX),(vi aY),(vi aZ)]) (by kernel_rfl) (by kernel_rfl) rfl (Tryz.sizeOf86 _) rfl hp1) ?_
 intro w4 hn1
 have h:=h w4 hn1
 refine wpL_nil (th_n (wpE_seq (rg (q0 (vp (some (p3.add 5))) (q0 (vp (some (p3.add 6))) (st_new (O:=(.cells #[(vp (some (p3.add 5))),(vp (some (p3.add 6)))] 179)) (fun p=>(Sl.mk (some p) 2 2).v) (want0 rfl) (x_buildSlice (vs:=#[(0,(vp (some (p3.add 5)))),(1,(vp (some (p3.add 6))))]) (by kernel_rfl) (by kernel_rfl)) ?_))))))
 intro p4 w5 hn5
 have h:=h p4 w5 hn5
 refine q0 ((Sl.mk (some p4) 2 2).v) (wpL_nil (th_n (wpE_seq (wpE_seq (rg (q0 (vp (some (p2.add 5))) ?_))))))
 obtain ⟨v1,hv7,h⟩:=h
 refine q2 v1.v (xl (Tryz.isAgg22 _) hv7) (q0 (vi (v1.len:Int)) (q0 (vi 0) (wpL_nil (th_n (wpE_block ?_)))))
 obtain ⟨I1,mu1,h0,hr⟩:=h
 refine wpE_loop (σ:=Int×World) (fun s ρ w=>w=s.2∧Has ρ [(0,(vp p1)),(6,(vp (some p3))),(7,(Sl.mk (some p4) 2 2).v),(18,v1.v),(19,(vi (v1.len:Int))),(20,(vi s.1))]∧I1 s.1 s.2) (fun s=>mu1 s.1 s.2) (0,w5) ⟨rfl,hm,h0⟩ ?_
 rintro ⟨x1,wl1⟩ ρ w ⟨hw,hH,hI⟩
 obtain rfl:wl1=w:=(show w=wl1 from hw).symm
 have hH:Has ρ [(0,(vp p1)),(6,(vp (some p3))),(7,(Sl.mk (some p4) 2 2).v),(18,v1.v),(19,(vi (v1.len:Int))),(20,(vi x1))]:=hH
 have h:=hr x1 wl1 hI
 unfold m_H1_l1 at h
 refine wpE_has hH ?_
 refine wpE_seq (rg (q0 (vb (decide (x1<(v1.len:Int)))) (wpL_nil (th_n (wpE_seq ?_)))))
 refine wpE_cond (t:=(decide (x1<(v1.len:Int)))) (by kernel_rfl) (fun hc1=>?_) (fun hc1=>?_)
 ·have h:=h.1 hc1
  refine wpE_skip (th_n (wpE_seq (wpE_block (wpE_seq (rg (q0 (vi x1) ?_))))))
  obtain ⟨a1,hv5,h⟩:=h
  refine q2 (vp (some a1)) (xi (Tryz.runUnderlying22 _) (Tryz.sizeOf49 _) hv5) ?_
  obtain ⟨aO,aP,aQ,aR,aS,bR,hv4,h⟩:=h
  refine q2 (.agg #[(vi aO),(vi aP),(vi aQ),(vu aR),(vs aS),bR.v]) (x_loadA (a:=a1) (vs:=[(vi aO),(vi aP),(vi aQ),(vu aR),(vs aS),bR.v]) (by kernel_rfl) (Tryz.isAgg49 _) (Tryz.sizeOf49 _) rfl hv4) (sn (O:=(.cells #[(vi 0),(vi 0),(vi 0),(vu 0),(vs ⟨#[]⟩),Sl.nil.v] 49)) (x_alloc (Tryz.zeroValue49 _) rfl) ?_)
  intro p5 w6 hn4
  have h:=h p5 w6 hn4
  refine q0 (vi x1) ?_
  obtain ⟨hp2,h⟩:=h
  refine st_set (want0 rfl) (x_storeA (a:=p5) (vs:=[(vi aO),(vi aP),(vi aQ),(vu aR),(vs aS),bR.v]) (by kernel_rfl) (by kernel_rfl) rfl (Tryz.sizeOf49 _) rfl hp2) ?_
  intro w7 hn2
  have h:=h w7 hn2
  refine wpL_nil (th_n (wpE_seq (rg (q0 (vp p1) ?_))))
  obtain ⟨bM,bN,bO,bP,bQ,cU,hv3,h⟩:=h
  refine q2 (.agg #[(vi bM),(vi bN),(vi bO),(vu bP),(vs bQ),cU.v]) (x_loadA (a:=p5) (vs:=[(vi bM),(vi bN),(vi bO),(vu bP),(vs bQ),cU.v]) (by kernel_rfl) (Tryz.isAgg49 _) (Tryz.sizeOf49 _) rfl hv3) ?_
  refine sc Tryz.call69 (h.mono ?_)
  rintro e w8 ⟨r1,r2,rfl,h⟩
  refine ⟨_,rfl,?_⟩
  refine q0 (.tuple #[(vi r1),(vi r2)]) (q0 (vi r1) (q0 (vi r2) (q0 (vi r1) (q0 (vi r2) (wpL_nil (th_n (wpE_seq (wpE_seq (rg (q0 (vi r2) (q0 (vb (r2 != 0)) ?_)))))))))))
  refine wpL_nil (th_n ?_)
  refine wpE_cond (t:=(r2 != 0)) (by kernel_rfl) (fun hc2=>?_) (fun hc2=>?_)
  ·have h:=h.1 hc2
   refine wpE_seq (rg (q0 (vi r2) (q0 (vi 0) (q0 (vi r2) (wpL_nil (th_n (wpE_ret (th_r (bl_r (th_r (th_r ?_)))))))))))
   refine bl_r (th_r (res2 (.inl rfl) Tryz.results69 (v:=(vi 0)) (by kernel_rfl) (v':=(vi r2)) (by kernel_rfl) ?_))
   exact ⟨0,r2,rfl,h⟩
  ·have h:=h.2 hc2
   refine wpE_skip (th_n (rg (q0 ((Sl.mk (some p4) 2 2).v) (q0 (vi x1) ?_))))
   obtain ⟨a2,hv2,h⟩:=h
   refine q2 (vp (some a2)) (xi (Tryz.runUnderlying180 _) (Tryz.sizeOf179 _) hv2) ?_
   obtain ⟨v2,hv1,h⟩:=h
   refine q2 (vp v2) (xl (Tryz.isAgg179 _) hv1) (q0 (vi r1) ?_)
   obtain ⟨a3,hp3,h⟩:=h
   refine q2 (vp (some a3)) (x_nilCheck (p:=v2) (by kernel_rfl) hp3) ?_
   obtain ⟨hp4,h⟩:=h
   refine st_set (want0 rfl) (x_store (a:=a3) (v:=(vi r1)) (by kernel_rfl) (by kernel_rfl) rfl (Tryz.sizeOf30 _) hp4) ?_
   intro w9 hn3
   have h:=h w9 hn3
   refine wpL_nil (bl_n (th_n (rg (q0 (vi (q6.wrap (x1+1))) (q0 (vi (q6.wrap (x1+1))) (wpL_nil (th_n ?_)))))))
   exact ⟨((q6.wrap (x1+1)),w9),⟨rfl,hm,h.1⟩,h.2⟩
 ·have h:=h.2 hc1
  refine wpE_exit (th_x (th_x (bl_eq (th_n (wpE_seq (rg (q0 (vp p1) ?_)))))))
  obtain ⟨bU,bV,bW,bX,bY,aF,aG,hv6,h⟩:=h
  refine q2 (.agg #[(vi bU),(vi bV),(vi bW),(vu bX),(vs bY),(vi aF),(vi aG)]) (x_loadA (a:=p3) (vs:=[(vi bU),(vi bV),(vi bW),(vu bX),(vs bY),(vi aF),(vi aG)]) (by kernel_rfl) (Tryz.isAgg86 _) (Tryz.sizeOf86 _) rfl hv6) ?_
  refine sc Tryz.call66 (h.mono ?_)
  rintro e w10 ⟨r3,r4,rfl,h⟩
  refine ⟨_,rfl,?_⟩
  refine q0 (vi r3) (q0 (vi r4) (q0 (vi r3) (q0 (vi r4) (wpL_nil (th_n (wpE_ret (res2 (.inl rfl) Tryz.results69 (v:=(vi r3)) (by kernel_rfl) (v':=(vi r4)) (by kernel_rfl) ?_)))))))
  exact ⟨r3,r4,rfl,h⟩
def m_I1_l1 (p1:Option Addr) (n1:Int) (s1:Sl) (x1:Int) (wl1:World) (Kc1:Int→WP) (K:WP):Prop :=
 Br (decide (x1<(s1.len:Int)))
  (∃a2:Addr,At s1 x1 9 a2 ∧
  ∃vnodeKind1 vnodeFrom1:Int,∃vnodeTo1 vnodeNum1:Int,∃vnodeText1:ByteArray,∃vnodeA1 vnodeB1:Int,∃vsize1 vdepth1:Int,Row wl1 a2 [(vi vnodeKind1),(vi vnodeFrom1),(vi vnodeTo1),(vu vnodeNum1),(vs vnodeText1),(vi vnodeA1),(vi vnodeB1),(vi vsize1),(vi vdepth1)] ∧
  ∀(p2:Addr) (w1:World),New wl1 (.cells #[(vi 0),(vi 0),(vi 0),(vu 0),(vs ⟨#[]⟩),(vi 0),(vi 0),(vi 0),(vi 0)] 147) p2 w1 →
  (∀j,j<9→CanW w1 (p2.add j))∧∀w2:World,w2=storeRow w1 p2 [(vi vnodeKind1),(vi vnodeFrom1),(vi vnodeTo1),(vu vnodeNum1),(vs vnodeText1),(vi vnodeA1),(vi vnodeB1),(vi vsize1),(vi vdepth1)] →
  ∃C1:WP,C1 w2.drew∧∀w3,w3=w2.drew →
  ∃a3:Addr,p1=some a3 ∧
  ∃v2:Option Nat,(∀w',C1 w'→w'.cell? (a3.add 1)=some (.map v2)) ∧
  ∃aA aB:Int,∃aC aD:Int,∃aE:ByteArray,∃aF aG:Int,(∀w',C1 w'→Row w' p2 [(vi aA),(vi aB),(vi aC),(vu aD),(vs aE),(vi aF),(vi aG)]) ∧
  ∃w4:World,(Builtin.delete_ #[92,86] 0 #[(.map v2),(.agg #[(vi aA),(vi aB),(vi aC),(vu aD),(vs aE),(vi aF),(vi aG)])]).run Tryz.prog w3=.ok (.tuple #[]) w4 ∧
  Kc1 (q6.wrap (x1+1)) w4)
  (∃a4:Addr,p1=some a4 ∧
  ∃v3:Sl,wl1.cell? a4=some v3.v ∧
  ∃s2:Sl,(Instr.sliceAt 91 v3.v none (some (vi n1)) none).run Tryz.prog wl1=.ok s2.v wl1 ∧
  ∃a5:Addr,p1=some a5 ∧
  CanW wl1 a5∧∀w5:World,w5=wl1.setCell a5 s2.v →
  K w5)
def m_I1 (p1:Option Addr) (n1:Int) (w:World) (K:WP):Prop :=
 ∃a1:Addr,p1=some a1 ∧
 ∃v1:Sl,w.cell? a1=some v1.v ∧
 ∃s1:Sl,(Instr.sliceAt 91 v1.v (some (vi n1)) none none).run Tryz.prog w=.ok s1.v w ∧
 ∃(I1:Int→WP) (mu1:Int→World→Nat),I1 0 w ∧
  ∀(x1:Int) (wl1:World),I1 x1 wl1→m_I1_l1 p1 n1 s1 x1 wl1 (fun y'0 w'=>I1 y'0 w'∧mu1 y'0 w'<mu1 x1 wl1) K
theorem w_I1 (p1 : Option Addr) (n1 : Int) (w : World) (K : WP) (h : m_I1 p1 n1 w K) :
  Calls Tryz.prog 70 #[(vp p1),(vi n1)] w (fun e w'=>e=.returned (.tuple #[])∧K  w'):=by
 unfold m_I1 at h
 refine cw (args:=[(vp p1),(vi n1)]) Tryz.func70 Tryz.ntmps70 (wpE_seq (wpE_seq (rg (q0 (vp p1) ?_))))
 obtain ⟨a1,hp1,h⟩:=h
 refine q2 (vp (some a1)) (x_nilCheck (p:=p1) (by kernel_rfl) hp1) (q0 (vp (some a1)) ?_)
 obtain ⟨v1,hv9,h⟩:=h
 refine q2 v1.v (xl (Tryz.isAgg91 _) hv9) (q0 (vi n1) ?_)
 obtain ⟨s1,hv8,h⟩:=h
 refine q2 s1.v (x_slice (by kernel_rfl) (by kernel_rfl) (by kernel_rfl) (by kernel_rfl) hv8) (q0 (vi (s1.len:Int)) (q0 (vi 0) (wpL_nil (th_n (wpE_block ?_)))))
 obtain ⟨I1,mu1,h0,hr⟩:=h
 refine wpE_loop (σ:=Int×World) (fun s ρ w=>w=s.2∧Has ρ [(0,(vp p1)),(1,(vi n1)),(11,s1.v),(12,(vi (s1.len:Int))),(13,(vi s.1))]∧I1 s.1 s.2) (fun s=>mu1 s.1 s.2) (0,w) ⟨rfl,hm,h0⟩ ?_
 rintro ⟨x1,wl1⟩ ρ w ⟨hw,hH,hI⟩
 obtain rfl:wl1=w:=(show w=wl1 from hw).symm
 have hH:Has ρ [(0,(vp p1)),(1,(vi n1)),(11,s1.v),(12,(vi (s1.len:Int))),(13,(vi x1))]:=hH
 have h:=hr x1 wl1 hI
 unfold m_I1_l1 at h
 refine wpE_has hH ?_
 refine wpE_seq (rg (q0 (vb (decide (x1<(s1.len:Int)))) (wpL_nil (th_n (wpE_seq ?_)))))
 refine wpE_cond (t:=(decide (x1<(s1.len:Int)))) (by kernel_rfl) (fun hc1=>?_) (fun hc1=>?_)
 ·have h:=h.1 hc1
  refine wpE_skip (th_n (wpE_seq (wpE_block (wpE_seq (rg ?_)))))
  obtain ⟨a2,hv5,h⟩:=h
  refine q2 (vp (some a2)) (xi (Tryz.runUnderlying91 _) (Tryz.sizeOf147 _) hv5) ?_
  obtain ⟨vnodeKind1,vnodeFrom1,vnodeTo1,vnodeNum1,vnodeText1,vnodeA1,vnodeB1,vsize1,vdepth1,hv4,h⟩:=h
  refine q2 (.agg #[(vi vnodeKind1),(vi vnodeFrom1),(vi vnodeTo1),(vu vnodeNum1),(vs vnodeText1),(vi vnodeA1),(vi vnodeB1),(vi vsize1),(vi vdepth1)]) (x_loadA (a:=a2) (vs:=[(vi vnodeKind1),(vi vnodeFrom1),(vi vnodeTo1),(vu vnodeNum1),(vs vnodeText1),(vi vnodeA1),(vi vnodeB1),(vi vsize1),(vi vdepth1)]) (by kernel_rfl) (Tryz.isAgg147 _) (Tryz.sizeOf147 _) rfl hv4) (sn (O:=(.cells #[(vi 0),(vi 0),(vi 0),(vu 0),(vs ⟨#[]⟩),(vi 0),(vi 0),(vi 0),(vi 0)] 147)) (x_alloc (Tryz.zeroValue147 _) rfl) ?_)
  intro p2 w1 hn2
  have h:=h p2 w1 hn2
  obtain ⟨hp2,h⟩:=h
  refine st_set (want0 rfl) (x_storeA (a:=p2) (vs:=[(vi vnodeKind1),(vi vnodeFrom1),(vi vnodeTo1),(vu vnodeNum1),(vs vnodeText1),(vi vnodeA1),(vi vnodeB1),(vi vsize1),(vi vdepth1)]) (by kernel_rfl) (by kernel_rfl) rfl (Tryz.sizeOf147 _) rfl hp2) ?_
  intro w2 hn1
  have h:=h w2 hn1
  refine wpL_nil (th_n ?_)
  obtain ⟨C1,hC,h⟩:=h
  refine wpE_drawnC C1 [6] [6] (by kernel_rfl) (by kernel_rfl) (by kernel_rfl) (by kernel_rfl) hC ?_
  intro w3 hw3
  have h:=h w3 hw3
  refine qx 0 (vp p1) Kp0 (qg 1 ?_)
  obtain ⟨a3,hp3,h⟩:=h
  refine sy (v:=(vp (some a3))) Kp1 (fun _ _=>(x_nilCheck (p:=p1) (by kernel_rfl) hp3)) (qx 2 (vp (some (a3.add 1))) Kp2 (qg 3 ?_))
  obtain ⟨v2,hv3,h⟩:=h
  refine sy (v:=(.map v2)) Kp3 (fun w' hw'=>(xl (Tryz.isAgg92 _) (hv3 w' hw'))) (qx 4 (vp (some p2)) Kp4 (qg 5 ?_))
  obtain ⟨aA,aB,aC,aD,aE,aF,aG,hv2,h⟩:=h
  refine sy (v:=(.agg #[(vi aA),(vi aB),(vi aC),(vu aD),(vs aE),(vi aF),(vi aG)])) Kp5 (fun w' hw'=>(x_loadA (a:=p2) (vs:=[(vi aA),(vi aB),(vi aC),(vu aD),(vs aE),(vi aF),(vi aG)]) (by kernel_rfl) (Tryz.isAgg86 _) (Tryz.sizeOf86 _) rfl (hv2 w' hw'))) (lg 6 ?_)
  obtain ⟨w4,hv1,h⟩:=h
  refine sl (v:=(.tuple #[])) Kp6 (want0 rfl) (by kernel_rfl) (x_builtin (args:=#[(.map v2),(.agg #[(vi aA),(vi aB),(vi aC),(vu aD),(vs aE),(vi aF),(vi aG)])]) (by kernel_rfl) (fun _=>rfl) hv1) (.inl (by kernel_rfl)) (wn (bl_n (th_n (rg (q0 (vi (q6.wrap (x1+1))) (q0 (vi (q6.wrap (x1+1))) (wpL_nil (th_n ?_))))))))
  exact ⟨((q6.wrap (x1+1)),w4),⟨rfl,hm,h.1⟩,h.2⟩
 ·have h:=h.2 hc1
  refine wpE_exit (th_x (th_x (bl_eq (th_n (rg (q0 (vp p1) (q0 (vp p1) ?_)))))))
  obtain ⟨a4,hp4,h⟩:=h
  refine q2 (vp (some a4)) (x_nilCheck (p:=p1) (by kernel_rfl) hp4) (q0 (vp (some a4)) ?_)
  obtain ⟨v3,hv7,h⟩:=h
  refine q2 v3.v (xl (Tryz.isAgg91 _) hv7) (q0 (vi n1) ?_)
  obtain ⟨s2,hv6,h⟩:=h
  refine q2 s2.v (x_slice (by kernel_rfl) (by kernel_rfl) (by kernel_rfl) (by kernel_rfl) hv6) ?_
  obtain ⟨a5,hp5,h⟩:=h
  refine q2 (vp (some a5)) (x_nilCheck (p:=p1) (by kernel_rfl) hp5) (q0 (vp (some a5)) ?_)
  obtain ⟨hp6,h⟩:=h
  refine st_set (want0 rfl) (x_store (a:=a5) (v:=s2.v) (by kernel_rfl) (by kernel_rfl) rfl (Tryz.sizeOf91 _) hp6) ?_
  intro w5 hn3
  have h:=h w5 hn3
  refine wpL_nil (res0 (.inr rfl) Tryz.results70 ?_)
  exact ⟨rfl,h⟩
def m_S3 (p1:Option Addr) (t1:Int) (w:World) (K:Value→WP):Prop :=
 ∀(p2:Addr) (w1:World),New w (.cells #[(vp p1)] 26) p2 w1 →
 ∀(p3:Addr) (w2:World),New w1 (.cells #[(vi t1)] 30) p3 w2 →
 K (.func (.func 130) #[] #[(vp (some p2)),(vp (some p3))]) w2
theorem w_S3 (p1 : Option Addr) (t1 : Int) (w : World) (K : Value → WP) (h : m_S3 p1 t1 w K) :
  Calls Tryz.prog 79 #[(vp p1),(vi t1)] w (fun e w'=>∃r1:Value,e=.returned r1∧K r1 w'):=by
 unfold m_S3 at h
 refine cw (args:=[(vp p1),(vi t1)]) Tryz.func79 Tryz.ntmps79 (wpE_seq (rg (sn (O:=(.cells #[(vp p1)] 26)) xb ?_)))
 intro p2 w1 hn2
 have h:=h p2 w1 hn2
 refine sn (O:=(.cells #[(vi t1)] 30)) xb ?_
 intro p3 w2 hn1
 have h:=h p3 w2 hn1
 refine q0 (.nilFunc:Value) (wpL_nil (th_n (wpE_seq (rg (q0 (.func (.func 130) #[] #[(vp (some p2)),(vp (some p3))]) (q0 (.func (.func 130) #[] #[(vp (some p2)),(vp (some p3))]) (wpL_nil (th_n (wpE_ret (rs1 Tryz.results79 (v:=(.func (.func 130) #[] #[(vp (some p2)),(vp (some p3))])) ?_))))))))))
 exact ⟨(.func (.func 130) #[] #[(vp (some p2)),(vp (some p3))]),rfl,h⟩
def m_J1_j1 (p1:Option Addr) (t1:Int) (x1:Bool) (w:World) (K:Bool→WP):Prop :=
 Br x1
  (∃a1:Addr,p1=some a1 ∧
  ∃v1:Sl,w.cell? a1=some v1.v ∧
  K (decide (t1≤(v1.len:Int))) w)
  (K false w)
def m_J1 (p1:Option Addr) (t1:Int) (w:World) (K:Bool→WP):Prop :=
 Br (!(Option.isNone p1))
  (m_J1_j1 p1 t1 (decide (t1≥1)) w K)
  (m_J1_j1 p1 t1 false w K)
theorem w_J1 (p1 : Option Addr) (t1 : Int) (w : World) (K : Bool → WP) (h : m_J1 p1 t1 w K) :
  Calls Tryz.prog 80 #[(vp p1),(vi t1)] w (fun e w'=>∃r1:Bool,e=.returned (vb r1)∧K r1 w'):=by
 unfold m_J1 at h
 refine cw (args:=[(vp p1),(vi t1)]) Tryz.func80 Tryz.ntmps80 (wpE_seq (rg (q0 (vb false) (wpL_nil (th_n (wpE_seq (rg (q0 (vp p1) (q2 (vb (!(Option.isNone p1))) (x_ptrneq (by kernel_rfl) rfl Tryz.underlying26) (q0 (vb (!(Option.isNone p1))) ?_))))))))))
 refine wpL_join 3 (fun ρ w=>∃x1:Bool,Has ρ [(0,(vp p1)),(1,(vi t1)),(10,(vb x1))]∧m_J1_j1 p1 t1 x1 w K) ?_ ?_
 ·rintro ρ w ⟨x1,hH,h⟩
  unfold m_J1_j1 at h
  refine wpL_has hH ?_
  refine q0 (vb x1) ?_
  rcases Bool.eq_false_or_eq_true x1 with hg1 | hg1
  ·have h:=h.1 hg1
   refine q1 (vi t1) (want1 rfl (yD 11 hg1)) (q1 (vp p1) (want1 rfl (yD 11 hg1)) ?_)
   obtain ⟨a1,hp1,h⟩:=h
   refine stp (v:=(vp (some a1))) (want1 rfl (yD 11 hg1)) (x_nilCheck (p:=p1) (by kernel_rfl) hp1) (q1 (vp (some a1)) (want1 rfl (yD 11 hg1)) ?_)
   obtain ⟨v1,hv1,h⟩:=h
   refine stp (v:=v1.v) (want1 rfl (yD 11 hg1)) (xl (Tryz.isAgg91 _) hv1) (q1 (vi (v1.len:Int)) (want1 rfl (yD 11 hg1)) (q1 (vb (decide (t1≤(v1.len:Int)))) (want1 rfl (yD 11 hg1)) (q2 (vb (decide (t1≤(v1.len:Int)))) (xT hg1) (q0 (vb (decide (t1≤(v1.len:Int)))) (wpL_nil (th_n (wpE_ret (rs1 Tryz.results80 (v:=(vb (decide (t1≤(v1.len:Int))))) ?_))))))))
   exact ⟨(decide (t1≤(v1.len:Int))),rfl,h⟩
  ·have h:=h.2 hg1
   refine sk (yD 11 hg1) (sk (yD 11 hg1) (sk (yD 11 hg1) (sk (yD 11 hg1) (sk (yD 11 hg1) (sk (yD 11 hg1) (sk (yD 11 hg1) (q2 (vb false) (xF hg1) (q0 (vb false) (wpL_nil (th_n (wpE_ret ?_)))))))))))
   refine rs1 Tryz.results80 (v:=(vb false)) ?_
   exact ⟨false,rfl,h⟩
 ·rcases Bool.eq_false_or_eq_true (!(Option.isNone p1)) with hg2 | hg2
  ·have h:=h.1 hg2
   refine q1 (vi t1) (want1 rfl (yD 7 hg2)) (q1 (vb (decide (t1≥1))) (want1 rfl (yD 7 hg2)) (q2 (vb (decide (t1≥1))) (xT hg2) (wpL_nil ?_)))
   exact ⟨(decide (t1≥1)),hm,h⟩
  ·have h:=h.2 hg2
   refine sk (yD 7 hg2) (sk (yD 7 hg2) (q2 (vb false) (xF hg2) (wpL_nil ?_)))
   exact ⟨false,hm,h⟩
def m_T3 (kind1:Int) (w:World) (K:Bool→Bool→Bool→Bool→Int→Bool→WP):Prop :=
 ∀(p1:Addr) (w1:World),New w (.cells #[(vb false),(vb false),(vb false),(vb false),(vi 0)] 149) p1 w1 →
 Br (decide (kind1<1))
  ((∀j,j<5→CanW w1 (p1.add j))∧∀w2:World,w2=storeRow w1 p1 [(vb false),(vb false),(vb false),(vb false),(vi 0)] →
  ∃qfrom1 qto1:Bool,∃qnum1 qtext1:Bool,∃qkids1:Int,Row w2 p1 [(vb qfrom1),(vb qto1),(vb qnum1),(vb qtext1),(vi qkids1)] ∧
  K qfrom1 qto1 qnum1 qtext1 qkids1 false w2)
  (Br (decide (kind1>9))
   ((∀j,j<5→CanW w1 (p1.add j))∧∀w3:World,w3=storeRow w1 p1 [(vb false),(vb false),(vb false),(vb false),(vi 0)] →
   ∃qfrom2 qto2:Bool,∃qnum2 qtext2:Bool,∃qkids2:Int,Row w3 p1 [(vb qfrom2),(vb qto2),(vb qnum2),(vb qtext2),(vi qkids2)] ∧
   K qfrom2 qto2 qnum2 qtext2 qkids2 false w3)
   (Calls Tryz.prog 137 #[] w1 (fun e w4=>∃r1:Array Value,e=.returned (.agg r1)∧
    ∃efrom1 eto1:Bool,∃enum1 etext1:Bool,∃ekids1:Int,(Instr.index 196 (.agg r1) (vi kind1)).run Tryz.prog w4=.ok (.agg #[(vb efrom1),(vb eto1),(vb enum1),(vb etext1),(vi ekids1)]) w4 ∧
    (∀j,j<5→CanW w4 (p1.add j))∧∀w5:World,w5=storeRow w4 p1 [(vb efrom1),(vb eto1),(vb enum1),(vb etext1),(vi ekids1)] →
    ∃qfrom3 qto3:Bool,∃qnum3 qtext3:Bool,∃qkids3:Int,Row w5 p1 [(vb qfrom3),(vb qto3),(vb qnum3),(vb qtext3),(vi qkids3)] ∧
    K qfrom3 qto3 qnum3 qtext3 qkids3 true w5)))
theorem w_T3 (kind1 : Int) (w : World) (K : Bool → Bool → Bool → Bool → Int → Bool → WP) (h : m_T3 kind1 w K) :
  Calls Tryz.prog 91 #[(vi kind1)] w (fun e w'=>∃rfrom1 rto1:Bool,∃rnum1 rtext1:Bool,∃rkids1:Int,∃r2:Bool,e=.returned (.tuple #[(.agg #[(vb rfrom1),(vb rto1),(vb rnum1),(vb rtext1),(vi rkids1)]),(vb r2)])∧K rfrom1 rto1 rnum1 rtext1 rkids1 r2 w'):=by
 unfold m_T3 at h
 refine cw (args:=[(vi kind1)]) Tryz.func91 Tryz.ntmps91 (wpE_seq (rg (sn (O:=(.cells #[(vb false),(vb false),(vb false),(vb false),(vi 0)] 149)) (x_alloc (Tryz.zeroValue149 _) rfl) ?_)))
 intro p1 w1 hn4
 have h:=h p1 w1 hn4
 refine q0 (vb false) (wpL_nil (th_n (wpE_seq (wpE_seq (rg (q0 (vi kind1) (q0 (vb (decide (kind1<1))) (q0 (vb (decide (kind1<1))) ?_))))))))
 rcases Bool.eq_false_or_eq_true (decide (kind1<1)) with hg1 | hg1
 ·have h:=h.1 hg1
  refine sk (yD 6 hg1) (sk (yD 6 hg1) (q2 (vb true) (xT hg1) (wpL_nil (th_n (wpE_condT (by kernel_rfl) (wpE_seq (rg (q0 (.agg #[(vb false),(vb false),(vb false),(vb false),(vi 0)]) ?_))))))))
  obtain ⟨hp1,h⟩:=h
  refine st_set (want0 rfl) (x_storeA (a:=p1) (vs:=[(vb false),(vb false),(vb false),(vb false),(vi 0)]) (by kernel_rfl) (by kernel_rfl) rfl (Tryz.sizeOf149 _) rfl hp1) ?_
  intro w2 hn1
  have h:=h w2 hn1
  refine q0 (vb false) (wpL_nil (th_n (wpE_ret (th_r ?_))))
  obtain ⟨qfrom1,qto1,qnum1,qtext1,qkids1,hv1,h⟩:=h
  refine resG (.inl rfl) (vs:=[(.agg #[(vb qfrom1),(vb qto1),(vb qnum1),(vb qtext1),(vi qkids1)]),(vb false)]) (v:=(.tuple #[(.agg #[(vb qfrom1),(vb qto1),(vb qnum1),(vb qtext1),(vi qkids1)]),(vb false)])) Tryz.results91 ⟨(RV.cellA (by kernel_rfl) (Tryz.isAgg149 _) (Tryz.sizeOf149 _) rfl hv1),(rvT (by kernel_rfl)),trivial⟩ (by kernel_rfl) ?_
  exact ⟨qfrom1,qto1,qnum1,qtext1,qkids1,false,rfl,h⟩
 ·have h:=h.2 hg1
  refine q1 (vi kind1) (want1 rfl (yD 6 hg1)) (q1 (vb (decide (kind1>9))) (want1 rfl (yD 6 hg1)) (q2 (vb (decide (kind1>9))) (xF hg1) (wpL_nil (th_n ?_))))
  refine wpE_cond (t:=(decide (kind1>9))) (by kernel_rfl) (fun hc1=>?_) (fun hc1=>?_)
  ·have h:=h.1 hc1
   refine wpE_seq (rg (q0 (.agg #[(vb false),(vb false),(vb false),(vb false),(vi 0)]) ?_))
   obtain ⟨hp2,h⟩:=h
   refine st_set (want0 rfl) (x_storeA (a:=p1) (vs:=[(vb false),(vb false),(vb false),(vb false),(vi 0)]) (by kernel_rfl) (by kernel_rfl) rfl (Tryz.sizeOf149 _) rfl hp2) ?_
   intro w3 hn2
   have h:=h w3 hn2
   refine q0 (vb false) (wpL_nil (th_n (wpE_ret (th_r ?_))))
   obtain ⟨qfrom2,qto2,qnum2,qtext2,qkids2,hv2,h⟩:=h
   refine resG (.inl rfl) (vs:=[(.agg #[(vb qfrom2),(vb qto2),(vb qnum2),(vb qtext2),(vi qkids2)]),(vb false)]) (v:=(.tuple #[(.agg #[(vb qfrom2),(vb qto2),(vb qnum2),(vb qtext2),(vi qkids2)]),(vb false)])) Tryz.results91 ⟨(RV.cellA (by kernel_rfl) (Tryz.isAgg149 _) (Tryz.sizeOf149 _) rfl hv2),(rvT (by kernel_rfl)),trivial⟩ (by kernel_rfl) ?_
   exact ⟨qfrom2,qto2,qnum2,qtext2,qkids2,false,rfl,h⟩
  ·have h:=h.2 hc1
   refine wpE_skip (th_n (wpE_seq (rg ?_)))
   refine sc Tryz.call137 (h.mono ?_)
   rintro e w4 ⟨r1,rfl,h⟩
   refine ⟨_,rfl,?_⟩
   refine q0 (vi kind1) ?_
   obtain ⟨efrom1,eto1,enum1,etext1,ekids1,hv4,h⟩:=h
   refine q2 (.agg #[(vb efrom1),(vb eto1),(vb enum1),(vb etext1),(vi ekids1)]) (x_index (by kernel_rfl) (by kernel_rfl) hv4) ?_
   obtain ⟨hp3,h⟩:=h
   refine st_set (want0 rfl) (x_storeA (a:=p1) (vs:=[(vb efrom1),(vb eto1),(vb enum1),(vb etext1),(vi ekids1)]) (by kernel_rfl) (by kernel_rfl) rfl (Tryz.sizeOf149 _) rfl hp3) ?_
   intro w5 hn3
   have h:=h w5 hn3
   refine q0 (vb true) (wpL_nil (th_n (wpE_ret ?_)))
   obtain ⟨qfrom3,qto3,qnum3,qtext3,qkids3,hv3,h⟩:=h
   refine resG (.inl rfl) (vs:=[(.agg #[(vb qfrom3),(vb qto3),(vb qnum3),(vb qtext3),(vi qkids3)]),(vb true)]) (v:=(.tuple #[(.agg #[(vb qfrom3),(vb qto3),(vb qnum3),(vb qtext3),(vi qkids3)]),(vb true)])) Tryz.results91 ⟨(RV.cellA (by kernel_rfl) (Tryz.isAgg149 _) (Tryz.sizeOf149 _) rfl hv3),(rvT (by kernel_rfl)),trivial⟩ (by kernel_rfl) ?_
   exact ⟨qfrom3,qto3,qnum3,qtext3,qkids3,true,rfl,h⟩
def m_F_l3 (p1:Option Addr) (s1:Sl) (size1 depth1 x1:Int) (wl1:World) (Kc3:Int→Int→Int→WP) (K:Int→Int→Int→WP):Prop :=
 Br (decide (x1<(s1.len:Int)))
  (∃a1:Addr,At s1 x1 1 a1 ∧
  ∃v4:Int,wl1.cell? a1=some (vi v4) ∧
  Calls Tryz.prog 80 #[(vp p1),(vi v4)] wl1 (fun e w6=>∃r2:Bool,e=.returned (vb r2)∧
   Br (!r2)
    (K 0 0 51 w6)
    (Calls Tryz.prog 143 #[(vp p1),(vi v4)] w6 (fun e w7=>∃r3:Int,e=.returned (vi r3)∧
     Calls Tryz.prog 144 #[(vp p1),(vi v4)] w7 (fun e w8=>∃r4:Int,e=.returned (vi r4)∧
      ∃z1:Int,(Builtin.max_ #[3,3] 3 #[(vi depth1),(vi r4)]).run Tryz.prog w8=.ok (vi z1) w8 ∧
      Kc3 (q6.wrap (size1+r3)) z1 (q6.wrap (x1+1)) w8)))))
  (Br (decide (size1>4096))
   (K 0 0 52 wl1)
   (Br (decide ((q6.wrap (depth1+1))>64))
    (K 0 0 52 wl1)
    (K size1 (q6.wrap (depth1+1)) 0 wl1)))
def m_F_j2 (p1:Option Addr) (p2 p3:Addr) (e2:Int) (w:World) (K:Int→Int→Int→WP):Prop :=
 Br (e2 != 0)
  (K 0 0 e2 w)
  (∃v1:Int,w.cell? (p2.add 5)=some (vi v1) ∧
  ∃v2:Int,w.cell? (p2.add 6)=some (vi v2) ∧
  ∀(p4:Addr) (w5:World),New w (.cells #[(vi v1),(vi v2)] 30) p4 w5 →
  ∃v3:Int,w5.cell? (p3.add 4)=some (vi v3) ∧
  ∃s1:Sl,(Instr.sliceAt 52 (Sl.mk (some p4) 2 2).v none (some (vi v3)) none).run Tryz.prog w5=.ok s1.v w5 ∧
  ∃(I1:Int→Int→Int→WP) (mu1:Int→Int→Int→World→Nat),I1 1 0 0 w5 ∧
   ∀(size1 depth1 x1:Int) (wl1:World),I1 size1 depth1 x1 wl1→m_F_l3 p1 s1 size1 depth1 x1 wl1 (fun y'0 y'1 y'2 w'=>I1 y'0 y'1 y'2 w'∧mu1 y'0 y'1 y'2 w'<mu1 size1 depth1 x1 wl1) K)
def m_F_j1 (p1:Option Addr) (p2 p3:Addr) (e1:Int) (w:World) (K:Int→Int→Int→WP):Prop :=
 Br (e1 == 0)
  (∃vfrom1 vto1:Bool,∃vnum1 vtext1:Bool,∃vkids1:Int,Row w p3 [(vb vfrom1),(vb vto1),(vb vnum1),(vb vtext1),(vi vkids1)] ∧
  ∃aO aP:Int,∃aQ aR:Int,∃aS:ByteArray,∃bS bT:Int,Row w p2 [(vi aO),(vi aP),(vi aQ),(vu aR),(vs aS),(vi bS),(vi bT)] ∧
  Calls Tryz.prog 105 #[(.agg #[(vb vfrom1),(vb vto1),(vb vnum1),(vb vtext1),(vi vkids1)]),(.agg #[(vi aO),(vi aP),(vi aQ),(vu aR),(vs aS),(vi bS),(vi bT)])] w (fun e w9=>∃r5:Int,e=.returned (vi r5)∧
   m_F_j2 p1 p2 p3 r5 w9 K))
  (m_F_j2 p1 p2 p3 e1 w K)
def m_F_j5 (p1:Option Addr) (p2:Addr) (r1:Int) (p3:Addr) (x2 x3:Bool) (w:World) (K:Int→Int→Int→WP):Prop :=
 Br (r1 == 0)
  (Br x2
   (m_F_j1 p1 p2 p3 53 w K)
   (Br x3
    (m_F_j1 p1 p2 p3 53 w K)
    (m_F_j1 p1 p2 p3 r1 w K)))
  (m_F_j1 p1 p2 p3 r1 w K)
def m_F_j4 (p1:Option Addr) (p2:Addr) (r1:Int) (p3:Addr) (x2:Bool) (w:World) (K:Int→Int→Int→WP):Prop :=
 Br (r1 == 0)
  (Br x2
   (m_F_j1 p1 p2 p3 53 w K)
   (∃v6:Int,w.cell? (p3.add 4)=some (vi v6) ∧
   Br (decide (v6<2))
    (∃v7:Int,w.cell? (p2.add 6)=some (vi v7) ∧
    m_F_j5 p1 p2 r1 p3 x2 (v7 != 0) w K)
    (m_F_j5 p1 p2 r1 p3 x2 false w K)))
  (m_F_j1 p1 p2 p3 r1 w K)
def m_F (p1:Option Addr) (aH aI:Int) (aJ aK:Int) (aL:ByteArray) (aM aN:Int) (w:World) (K:Int→Int→Int→WP):Prop :=
 ∀(p2:Addr) (w1:World),New w (.cells #[(vi aH),(vi aI),(vi aJ),(vu aK),(vs aL),(vi aM),(vi aN)] 86) p2 w1 →
 ∃aA aB:Int,∃aC aD:Int,∃aE:ByteArray,∃aF aG:Int,Row w1 p2 [(vi aA),(vi aB),(vi aC),(vu aD),(vs aE),(vi aF),(vi aG)] ∧
 Calls Tryz.prog 104 #[(.agg #[(vi aA),(vi aB),(vi aC),(vu aD),(vs aE),(vi aF),(vi aG)])] w1 (fun e w2=>∃rfrom1 rto1:Bool,∃rnum1 rtext1:Bool,∃rkids1 r1:Int,e=.returned (.tuple #[(.agg #[(vb rfrom1),(vb rto1),(vb rnum1),(vb rtext1),(vi rkids1)]),(vi r1)])∧
  ∀(p3:Addr) (w3:World),New w2 (.cells #[(vb false),(vb false),(vb false),(vb false),(vi 0)] 149) p3 w3 →
  (∀j,j<5→CanW w3 (p3.add j))∧∀w4:World,w4=storeRow w3 p3 [(vb rfrom1),(vb rto1),(vb rnum1),(vb rtext1),(vi rkids1)] →
  Br (r1 == 0)
   (∃v5:Int,w4.cell? (p3.add 4)=some (vi v5) ∧
   Br (decide (v5<1))
    (∃v8:Int,w4.cell? (p2.add 5)=some (vi v8) ∧
    m_F_j4 p1 p2 r1 p3 (v8 != 0) w4 K)
    (m_F_j4 p1 p2 r1 p3 false w4 K))
   (m_F_j1 p1 p2 p3 r1 w4 K))
theorem w_F (p1 : Option Addr) (aH aI : Int) (aJ aK : Int) (aL : ByteArray) (aM aN : Int) (w : World) (K : Int → Int → Int → WP) (h : m_F p1 aH aI aJ aK aL aM aN w K) :
  Calls Tryz.prog 102 #[(vp p1),(.agg #[(vi aH),(vi aI),(vi aJ),(vu aK),(vs aL),(vi aM),(vi aN)])] w (fun e w'=>∃r6 r7 r8:Int,e=.returned (.tuple #[(vi r6),(vi r7),(vi r8)])∧K r6 r7 r8 w'):=by
 unfold m_F at h
 refine cw (args:=[(vp p1),(.agg #[(vi aH),(vi aI),(vi aJ),(vu aK),(vs aL),(vi aM),(vi aN)])]) Tryz.func102 Tryz.ntmps102 (wpE_seq (rg (sn (O:=(.cells #[(vi aH),(vi aI),(vi aJ),(vu aK),(vs aL),(vi aM),(vi aN)] 86)) xb ?_)))
 intro p2 w1 hn4
 have h:=h p2 w1 hn4
 refine q0 (vi 0) (q0 (vi 0) (q0 (vi 0) (wpL_nil (th_n (wpE_seq (rg ?_))))))
 obtain ⟨aA,aB,aC,aD,aE,aF,aG,hv14,h⟩:=h
 refine q2 (.agg #[(vi aA),(vi aB),(vi aC),(vu aD),(vs aE),(vi aF),(vi aG)]) (x_loadA (a:=p2) (vs:=[(vi aA),(vi aB),(vi aC),(vu aD),(vs aE),(vi aF),(vi aG)]) (by kernel_rfl) (Tryz.isAgg86 _) (Tryz.sizeOf86 _) rfl hv14) ?_
 refine sc Tryz.call104 (h.mono ?_)
 rintro e w2 ⟨rfrom1,rto1,rnum1,rtext1,rkids1,r1,rfl,h⟩
 refine ⟨_,rfl,?_⟩
 refine q0 (.tuple #[(.agg #[(vb rfrom1),(vb rto1),(vb rnum1),(vb rtext1),(vi rkids1)]),(vi r1)]) (q0 (.agg #[(vb rfrom1),(vb rto1),(vb rnum1),(vb rtext1),(vi rkids1)]) (q0 (vi r1) (sn (O:=(.cells #[(vb false),(vb false),(vb false),(vb false),(vi 0)] 149)) (x_alloc (Tryz.zeroValue149 _) rfl) ?_)))
 intro p3 w3 hn3
 have h:=h p3 w3 hn3
 obtain ⟨hp1,h⟩:=h
 refine st_set (want0 rfl) (x_storeA (a:=p3) (vs:=[(vb rfrom1),(vb rto1),(vb rnum1),(vb rtext1),(vi rkids1)]) (by kernel_rfl) (by kernel_rfl) rfl (Tryz.sizeOf149 _) rfl hp1) ?_
 intro w4 hn1
 have h:=h w4 hn1
 refine q0 (vi r1) (wpL_nil (th_n ?_))
 refine wpE_join (fun ρ w=>∃e1:Int,Has ρ [(0,(vp p1)),(3,(vp (some p2))),(7,(vp (some p3))),(8,(vi e1))]∧m_F_j1 p1 p2 p3 e1 w K) ?_ ?_
 ·rintro ρ w ⟨e1,hH,h⟩
  unfold m_F_j1 at h
  refine wpE_has hH ?_
  refine wpE_join (fun ρ w=>∃e2:Int,Has ρ [(0,(vp p1)),(3,(vp (some p2))),(7,(vp (some p3))),(8,(vi e2))]∧m_F_j2 p1 p2 p3 e2 w K) ?_ ?_
  ·rintro ρ w ⟨e2,hH,h⟩
   unfold m_F_j2 at h
   refine wpE_has hH ?_
   refine wpE_seq (wpE_seq (rg (q0 (vi e2) (q0 (vb (e2 != 0)) (wpL_nil (th_n ?_))))))
   refine wpE_cond (t:=(e2 != 0)) (by kernel_rfl) (fun hc1=>?_) (fun hc1=>?_)
   ·have h:=h.1 hc1
    refine wpE_seq (rg (q0 (vi e2) (q0 (vi 0) (q0 (vi 0) (q0 (vi e2) (wpL_nil (th_n (wpE_ret (th_r (res3 (.inl rfl) Tryz.results102 (v:=(vi 0)) (by kernel_rfl) (v':=(vi 0)) (by kernel_rfl) (v'':=(vi e2)) (by kernel_rfl) ?_))))))))))
    exact ⟨0,0,e2,rfl,h⟩
   ·have h:=h.2 hc1
    refine wpE_skip (th_n (wpE_seq (rg (q0 (vi 1) (q0 (vi 0) (wpL_nil (th_n (wpE_seq (wpE_seq (rg (q0 (vp (some (p2.add 5))) ?_)))))))))))
    obtain ⟨v1,hv7,h⟩:=h
    refine q2 (vi v1) (xl (Tryz.isAgg30 _) hv7) (q0 (vp (some (p2.add 6))) ?_)
    obtain ⟨v2,hv6,h⟩:=h
    refine q2 (vi v2) (xl (Tryz.isAgg30 _) hv6) (st_new (O:=(.cells #[(vi v1),(vi v2)] 30)) (fun p=>(Sl.mk (some p) 2 2).v) (want0 rfl) (x_buildSlice (vs:=#[(0,(vi v1)),(1,(vi v2))]) (by kernel_rfl) (by kernel_rfl)) ?_)
    intro p4 w5 hn2
    have h:=h p4 w5 hn2
    refine q0 (vp (some (p3.add 4))) ?_
    obtain ⟨v3,hv5,h⟩:=h
    refine q2 (vi v3) (xl (Tryz.isAgg3 _) hv5) ?_
    obtain ⟨s1,hv4,h⟩:=h
    refine q2 s1.v (x_slice (by kernel_rfl) (by kernel_rfl) (by kernel_rfl) (by kernel_rfl) hv4) (q0 (vi (s1.len:Int)) (q0 (vi 0) (wpL_nil (th_n (wpE_block ?_)))))
    obtain ⟨I1,mu1,h0,hr⟩:=h
    refine wpE_loop (σ:=Int×Int×Int×World) (fun s ρ w=>w=s.2.2.2∧Has ρ [(0,(vp p1)),(9,(vi s.1)),(10,(vi s.2.1)),(55,s1.v),(56,(vi (s1.len:Int))),(57,(vi s.2.2.1))]∧I1 s.1 s.2.1 s.2.2.1 s.2.2.2) (fun s=>mu1 s.1 s.2.1 s.2.2.1 s.2.2.2) (1,0,0,w5) ⟨rfl,hm,h0⟩ ?_
    rintro ⟨size1,depth1,x1,wl1⟩ ρ w ⟨hw,hH,hI⟩
    obtain rfl:wl1=w:=(show w=wl1 from hw).symm
    have hH:Has ρ [(0,(vp p1)),(9,(vi size1)),(10,(vi depth1)),(55,s1.v),(56,(vi (s1.len:Int))),(57,(vi x1))]:=hH
    have h:=hr size1 depth1 x1 wl1 hI
    unfold m_F_l3 at h
    refine wpE_has hH ?_
    refine wpE_seq (rg (q0 (vb (decide (x1<(s1.len:Int)))) (wpL_nil (th_n (wpE_seq ?_)))))
    refine wpE_cond (t:=(decide (x1<(s1.len:Int)))) (by kernel_rfl) (fun hc2=>?_) (fun hc2=>?_)
    ·have h:=h.1 hc2
     refine wpE_skip (th_n (wpE_seq (wpE_block (wpE_seq (rg ?_)))))
     obtain ⟨a1,hv3,h⟩:=h
     refine q2 (vp (some a1)) (xi (Tryz.runUnderlying52 _) (Tryz.sizeOf30 _) hv3) ?_
     obtain ⟨v4,hv2,h⟩:=h
     refine q2 (vi v4) (xl (Tryz.isAgg30 _) hv2) (q0 (vi v4) (wpL_nil (th_n (wpE_seq (wpE_seq (rg (q0 (vp p1) (q0 (vi v4) ?_))))))))
     refine sc Tryz.call80 (h.mono ?_)
     rintro e w6 ⟨r2,rfl,h⟩
     refine ⟨_,rfl,?_⟩
     refine q0 (vb (!r2)) (wpL_nil (th_n ?_))
     refine wpE_cond (t:=(!r2)) (by kernel_rfl) (fun hc3=>?_) (fun hc3=>?_)
     ·have h:=h.1 hc3
      refine wpE_seq (rg (q0 (vi 0) (q0 (vi 0) (q0 (vi 51) (wpL_nil (th_n (wpE_ret (th_r (bl_r (th_r (th_r ?_)))))))))))
      refine bl_r (th_r (res3 (.inl rfl) Tryz.results102 (v:=(vi 0)) (by kernel_rfl) (v':=(vi 0)) (by kernel_rfl) (v'':=(vi 51)) (by kernel_rfl) ?_))
      exact ⟨0,0,51,rfl,h⟩
     ·have h:=h.2 hc3
      refine wpE_skip (th_n (wpE_seq (rg (q0 (vi size1) (q0 (vp p1) (q0 (vi v4) ?_))))))
      refine sc Tryz.call143 (h.mono ?_)
      rintro e w7 ⟨r3,rfl,h⟩
      refine ⟨_,rfl,?_⟩
      refine q0 (vi (q6.wrap (size1+r3))) (q0 (vi (q6.wrap (size1+r3))) (wpL_nil (th_n (rg (q0 (vi depth1) (q0 (vp p1) (q0 (vi v4) ?_)))))))
      refine sc Tryz.call144 (h.mono ?_)
      rintro e w8 ⟨r4,rfl,h⟩
      refine ⟨_,rfl,?_⟩
      obtain ⟨z1,hv1,h⟩:=h
      refine q2 (vi z1) (x_builtin (args:=#[(vi depth1),(vi r4)]) (by kernel_rfl) (fun _=>rfl) hv1) (q0 (vi z1) (wpL_nil (bl_n (th_n (rg (q0 (vi (q6.wrap (x1+1))) (q0 (vi (q6.wrap (x1+1))) (wpL_nil (th_n ?_)))))))))
      exact ⟨((q6.wrap (size1+r3)),z1,(q6.wrap (x1+1)),w8),⟨rfl,hm,h.1⟩,h.2⟩
    ·have h:=h.2 hc2
     refine wpE_exit (th_x (th_x (bl_eq (th_n (wpE_seq (rg (q0 (vi depth1) (q0 (vi (q6.wrap (depth1+1))) (q0 (vi (q6.wrap (depth1+1))) (wpL_nil (th_n ?_)))))))))))
     refine wpE_seq (wpE_seq (rg (q0 (vi size1) (q0 (vb (decide (size1>4096))) (q0 (vb (decide (size1>4096))) ?_)))))
     rcases Bool.eq_false_or_eq_true (decide (size1>4096)) with hg1 | hg1
     ·have h:=h.1 hg1
      refine sk (yD 80 hg1) (sk (yD 80 hg1) (q2 (vb true) (xT hg1) (wpL_nil (th_n (wpE_condT (by kernel_rfl) (wpE_seq (rg (q0 (vi 0) (q0 (vi 0) (q0 (vi 52) (wpL_nil ?_)))))))))))
      refine th_n (wpE_ret (th_r (res3 (.inl rfl) Tryz.results102 (v:=(vi 0)) (by kernel_rfl) (v':=(vi 0)) (by kernel_rfl) (v'':=(vi 52)) (by kernel_rfl) ?_)))
      exact ⟨0,0,52,rfl,h⟩
     ·have h:=h.2 hg1
      refine q1 (vi (q6.wrap (depth1+1))) (want1 rfl (yD 80 hg1)) (q1 (vb (decide ((q6.wrap (depth1+1))>64))) (want1 rfl (yD 80 hg1)) (q2 (vb (decide ((q6.wrap (depth1+1))>64))) (xF hg1) (wpL_nil (th_n ?_))))
      refine wpE_cond (t:=(decide ((q6.wrap (depth1+1))>64))) (by kernel_rfl) (fun hc4=>?_) (fun hc4=>?_)
      ·have h:=h.1 hc4
       refine wpE_seq (rg (q0 (vi 0) (q0 (vi 0) (q0 (vi 52) (wpL_nil (th_n (wpE_ret (th_r (res3 (.inl rfl) Tryz.results102 (v:=(vi 0)) (by kernel_rfl) (v':=(vi 0)) (by kernel_rfl) (v'':=(vi 52)) (by kernel_rfl) ?_)))))))))
       exact ⟨0,0,52,rfl,h⟩
      ·have h:=h.2 hc4
       refine wpE_skip (th_n (wpE_seq (rg (q0 (vi size1) (q0 (vi (q6.wrap (depth1+1))) (q0 (vi size1) (q0 (vi (q6.wrap (depth1+1))) (q0 (vi 0) (wpL_nil (th_n (wpE_ret ?_)))))))))))
       refine res3 (.inl rfl) Tryz.results102 (v:=(vi size1)) (by kernel_rfl) (v':=(vi (q6.wrap (depth1+1)))) (by kernel_rfl) (v'':=(vi 0)) (by kernel_rfl) ?_
       exact ⟨size1,(q6.wrap (depth1+1)),0,rfl,h⟩
  ·refine wpE_seq (rg (q0 (vi e1) (q0 (vb (e1 == 0)) (wpL_nil (th_n ?_)))))
   refine wpE_cond (t:=(e1 == 0)) (by kernel_rfl) (fun hc5=>?_) (fun hc5=>?_)
   ·have h:=h.1 hc5
    refine rg ?_
    obtain ⟨vfrom1,vto1,vnum1,vtext1,vkids1,hv9,h⟩:=h
    refine q2 (.agg #[(vb vfrom1),(vb vto1),(vb vnum1),(vb vtext1),(vi vkids1)]) (x_loadA (a:=p3) (vs:=[(vb vfrom1),(vb vto1),(vb vnum1),(vb vtext1),(vi vkids1)]) (by kernel_rfl) (Tryz.isAgg149 _) (Tryz.sizeOf149 _) rfl hv9) ?_
    obtain ⟨aO,aP,aQ,aR,aS,bS,bT,hv8,h⟩:=h
    refine q2 (.agg #[(vi aO),(vi aP),(vi aQ),(vu aR),(vs aS),(vi bS),(vi bT)]) (x_loadA (a:=p2) (vs:=[(vi aO),(vi aP),(vi aQ),(vu aR),(vs aS),(vi bS),(vi bT)]) (by kernel_rfl) (Tryz.isAgg86 _) (Tryz.sizeOf86 _) rfl hv8) ?_
    refine sc Tryz.call105 (h.mono ?_)
    rintro e w9 ⟨r5,rfl,h⟩
    refine ⟨_,rfl,?_⟩
    refine q0 (vi r5) (wpL_nil (th_n ?_))
    exact ⟨r5,hm,h⟩
   ·have h:=h.2 hc5
    refine wpE_skip (th_n ?_)
    exact ⟨e1,hm,h⟩
 ·refine wpE_seq (rg (q0 (vi r1) (q0 (vb (r1 == 0)) (q0 (vb (r1 == 0)) ?_))))
  rcases Bool.eq_false_or_eq_true (r1 == 0) with hg2 | hg2
  ·have h:=h.1 hg2
   refine q1 (vp (some (p3.add 4))) (want1 rfl (yD 20 hg2)) ?_
   obtain ⟨v5,hv13,h⟩:=h
   refine stp (v:=(vi v5)) (want1 rfl (yD 20 hg2)) (xl (Tryz.isAgg3 _) hv13) (q1 (vb (decide (v5<1))) (want1 rfl (yD 20 hg2)) (q1 (vb (decide (v5<1))) (want1 rfl (yD 20 hg2)) ?_))
   refine wpL_join 4 (fun ρ w=>∃x2:Bool,Has ρ [(0,(vp p1)),(3,(vp (some p2))),(7,(vp (some p3))),(8,(vi r1)),(20,(vb (r1 == 0))),(28,(vb x2))]∧m_F_j4 p1 p2 r1 p3 x2 w K) ?_ ?_
   ·rintro ρ w ⟨x2,hH,h⟩
    unfold m_F_j4 at h
    refine wpL_has hH ?_
    rcases Bool.eq_false_or_eq_true (r1 == 0) with hg3 | hg3
    ·have h:=h.1 hg3
     refine q1 (vb x2) (want1 rfl (yD 20 hg3)) ?_
     rcases Bool.eq_false_or_eq_true x2 with hg4 | hg4
     ·have h:=h.1 hg4
      refine sk (yD 29 hg4) (sk (yD 29 hg4) (sk (yD 29 hg4) (sk (yD 29 hg4) (sm (sm (sm (sk (yD 29 hg4) (stp (v:=(vb true)) (want1 rfl (yD 20 hg3)) (xT hg4) (q2 (vb true) (xT hg3) (wpL_nil (th_n ?_)))))))))))
      refine wpE_condT (by kernel_rfl) (rg (q0 (vi 53) (wpL_nil (th_n ?_))))
      exact ⟨53,hm,h⟩
     ·have h:=h.2 hg4
      refine q1 (vp (some (p3.add 4))) (want1 rfl (yD 29 hg4)) ?_
      obtain ⟨v6,hv11,h⟩:=h
      refine stp (v:=(vi v6)) (want1 rfl (yD 29 hg4)) (xl (Tryz.isAgg3 _) hv11) (q1 (vb (decide (v6<2))) (want1 rfl (yD 29 hg4)) (q1 (vb (decide (v6<2))) (want1 rfl (yD 29 hg4)) ?_))
      refine wpL_join 4 (fun ρ w=>∃x3:Bool,Has ρ [(0,(vp p1)),(3,(vp (some p2))),(7,(vp (some p3))),(8,(vi r1)),(20,(vb (r1 == 0))),(29,(vb x2)),(37,(vb x3))]∧m_F_j5 p1 p2 r1 p3 x2 x3 w K) ?_ ?_
      ·rintro ρ w ⟨x3,hH,h⟩
       unfold m_F_j5 at h
       refine wpL_has hH ?_
       rcases Bool.eq_false_or_eq_true (r1 == 0) with hg5 | hg5
       ·have h:=h.1 hg5
        rcases Bool.eq_false_or_eq_true x2 with hg6 | hg6
        ·have h:=h.1 hg6
         refine stp (v:=(vb true)) (want1 rfl (yD 20 hg5)) (xT hg6) (q2 (vb true) (xT hg5) (wpL_nil (th_n (wpE_condT (by kernel_rfl) (rg (q0 (vi 53) (wpL_nil (th_n ?_))))))))
         exact ⟨53,hm,h⟩
        ·have h:=h.2 hg6
         refine stp (v:=(vb x3)) (want1 rfl (yD 20 hg5)) (xF hg6) (q2 (vb x3) (xT hg5) (wpL_nil (th_n ?_)))
         refine wpE_cond (t:=x3) (by kernel_rfl) (fun hc6=>?_) (fun hc6=>?_)
         ·have h:=h.1 hc6
          refine rg (q0 (vi 53) (wpL_nil (th_n ?_)))
          exact ⟨53,hm,h⟩
         ·have h:=h.2 hc6
          refine wpE_skip (th_n ?_)
          exact ⟨r1,hm,h⟩
       ·have h:=h.2 hg5
        refine sk (yD 20 hg5) (q2 (vb false) (xF hg5) (wpL_nil (th_n (wpE_condF (by kernel_rfl) (wpE_skip (th_n ?_))))))
        exact ⟨r1,hm,h⟩
      ·rcases Bool.eq_false_or_eq_true (decide (v6<2)) with hg7 | hg7
       ·have h:=h.1 hg7
        refine q1 (vp (some (p2.add 6))) (want1 rfl (yD 33 hg7)) ?_
        obtain ⟨v7,hv10,h⟩:=h
        refine stp (v:=(vi v7)) (want1 rfl (yD 33 hg7)) (xl (Tryz.isAgg30 _) hv10) (q1 (vb (v7 != 0)) (want1 rfl (yD 33 hg7)) (stp (v:=(vb (v7 != 0))) (want1 rfl (yD 29 hg4)) (xT hg7) (wpL_nil ?_)))
        exact ⟨(v7 != 0),hm,h⟩
       ·have h:=h.2 hg7
        refine sk (yD 33 hg7) (sk (yD 33 hg7) (sk (yD 33 hg7) (stp (v:=(vb false)) (want1 rfl (yD 29 hg4)) (xF hg7) (wpL_nil ?_))))
        exact ⟨false,hm,h⟩
    ·have h:=h.2 hg3
     refine sk (yD 20 hg3) (sm (sm (sm (sm (sm (sm (sm (sm (sk (yD 20 hg3) (q2 (vb false) (xF hg3) (wpL_nil ?_)))))))))))
     refine th_n (wpE_condF (by kernel_rfl) (wpE_skip (th_n ?_)))
     exact ⟨r1,hm,h⟩
   ·rcases Bool.eq_false_or_eq_true (decide (v5<1)) with hg8 | hg8
    ·have h:=h.1 hg8
     refine q1 (vp (some (p2.add 5))) (want1 rfl (yD 24 hg8)) ?_
     obtain ⟨v8,hv12,h⟩:=h
     refine stp (v:=(vi v8)) (want1 rfl (yD 24 hg8)) (xl (Tryz.isAgg30 _) hv12) (q1 (vb (v8 != 0)) (want1 rfl (yD 24 hg8)) (stp (v:=(vb (v8 != 0))) (want1 rfl (yD 20 hg2)) (xT hg8) (wpL_nil ?_)))
     exact ⟨(v8 != 0),hm,h⟩
    ·have h:=h.2 hg8
     refine sk (yD 24 hg8) (sk (yD 24 hg8) (sk (yD 24 hg8) (stp (v:=(vb false)) (want1 rfl (yD 20 hg2)) (xF hg8) (wpL_nil ?_))))
     exact ⟨false,hm,h⟩
  ·have h:=h.2 hg2
   refine sk (yD 20 hg2) (sk (yD 20 hg2) (sk (yD 20 hg2) (sk (yD 20 hg2) (sm (sm (sm (sk (yD 20 hg2) (sk (yD 20 hg2) (sm (sm (sm ?_)))))))))))
   refine sm (sm (sm (sm (sm (sk (yD 20 hg2) (q2 (vb false) (xF hg2) (wpL_nil (th_n (wpE_condF (by kernel_rfl) (wpE_skip (th_n ?_)))))))))))
   exact ⟨r1,hm,h⟩
def m_U3 (bA bB:Int) (bC bD:Int) (bE:ByteArray) (bF:Sl) (w:World) (K:Int→Int→Int→Int→ByteArray→Int→Int→WP):Prop :=
 ∀(p1:Addr) (w1:World),New w (.cells #[(vi bA),(vi bB),(vi bC),(vu bD),(vs bE),bF.v] 49) p1 w1 →
 ∀(p2:Addr) (w2:World),New w1 (.cells #[(vi 0),(vi 0),(vi 0),(vu 0),(vs ⟨#[]⟩),(vi 0),(vi 0)] 86) p2 w2 →
 ∃v1:Int,w2.cell? p1=some (vi v1) ∧
 ∃v2:Int,w2.cell? (p1.add 1)=some (vi v2) ∧
 ∃v3:Int,w2.cell? (p1.add 2)=some (vi v3) ∧
 ∃v4:Int,w2.cell? (p1.add 3)=some (vu v4) ∧
 ∃v5:ByteArray,w2.cell? (p1.add 4)=some (vs v5) ∧
 (∀j,j<7→CanW w2 (p2.add j))∧∀w3:World,w3=storeRow w2 p2 [(vi v1),(vi v2),(vi v3),(vu v4),(vs v5),(vi 0),(vi 0)] →
 ∃bH bI:Int,∃bJ bK:Int,∃bL:ByteArray,∃cE cF:Int,Row w3 p2 [(vi bH),(vi bI),(vi bJ),(vu bK),(vs bL),(vi cE),(vi cF)] ∧
 K bH bI bJ bK bL cE cF w3
theorem w_U3 (bA bB : Int) (bC bD : Int) (bE : ByteArray) (bF : Sl) (w : World) (K : Int → Int → Int → Int → ByteArray → Int → Int → WP) (h : m_U3 bA bB bC bD bE bF w K) :
  Calls Tryz.prog 103 #[(.agg #[(vi bA),(vi bB),(vi bC),(vu bD),(vs bE),bF.v])] w (fun e w'=>∃aT aU:Int,∃aV aW:Int,∃aX:ByteArray,∃aY aZ:Int,e=.returned (.agg #[(vi aT),(vi aU),(vi aV),(vu aW),(vs aX),(vi aY),(vi aZ)])∧K aT aU aV aW aX aY aZ w'):=by
 unfold m_U3 at h
 refine cw (args:=[(.agg #[(vi bA),(vi bB),(vi bC),(vu bD),(vs bE),bF.v])]) Tryz.func103 Tryz.ntmps103 (wpE_seq (rg (sn (O:=(.cells #[(vi bA),(vi bB),(vi bC),(vu bD),(vs bE),bF.v] 49)) xb ?_)))
 intro p1 w1 hn3
 have h:=h p1 w1 hn3
 refine sn (O:=(.cells #[(vi 0),(vi 0),(vi 0),(vu 0),(vs ⟨#[]⟩),(vi 0),(vi 0)] 86)) (x_alloc (Tryz.zeroValue86 _) rfl) ?_
 intro p2 w2 hn2
 have h:=h p2 w2 hn2
 refine wpL_nil (th_n (wpE_seq (rg (q0 (vp (some p1)) ?_))))
 obtain ⟨v1,hv6,h⟩:=h
 refine q2 (vi v1) (xl (Tryz.isAgg3 _) hv6) (q0 (vp (some (p1.add 1))) ?_)
 obtain ⟨v2,hv5,h⟩:=h
 refine q2 (vi v2) (xl (Tryz.isAgg3 _) hv5) (q0 (vp (some (p1.add 2))) ?_)
 obtain ⟨v3,hv4,h⟩:=h
 refine q2 (vi v3) (xl (Tryz.isAgg3 _) hv4) (q0 (vp (some (p1.add 3))) ?_)
 obtain ⟨v4,hv3,h⟩:=h
 refine q2 (vu v4) (xl (Tryz.isAgg47 _) hv3) (q0 (vp (some (p1.add 4))) ?_)
 obtain ⟨v5,hv2,h⟩:=h
 refine q2 (vs v5) (xl (Tryz.isAgg9 _) hv2) (q0 (.agg #[(vi v1),(vi v2),(vi v3),(vu v4),(vs v5),(vi 0),(vi 0)]) ?_)
 obtain ⟨hp1,h⟩:=h
 refine st_set (want0 rfl) (x_storeA (a:=p2) (vs:=[(vi v1),(vi v2),(vi v3),(vu v4),(vs v5),(vi 0),(vi 0)]) (by kernel_rfl) (by kernel_rfl) rfl (Tryz.sizeOf86 _) rfl hp1) ?_
 intro w3 hn1
 have h:=h w3 hn1
 refine wpL_nil (th_n (wpE_ret ?_))
 obtain ⟨bH,bI,bJ,bK,bL,cE,cF,hv1,h⟩:=h
 refine resG (.inl rfl) (vs:=[(.agg #[(vi bH),(vi bI),(vi bJ),(vu bK),(vs bL),(vi cE),(vi cF)])]) (v:=(.agg #[(vi bH),(vi bI),(vi bJ),(vu bK),(vs bL),(vi cE),(vi cF)])) Tryz.results103 ⟨(RV.cellA (by kernel_rfl) (Tryz.isAgg86 _) (Tryz.sizeOf86 _) rfl hv1),trivial⟩ (by kernel_rfl) ?_
 exact ⟨bH,bI,bJ,bK,bL,cE,cF,rfl,h⟩
def m_E_j3 (p1 p2 p3:Addr) (x3:Bool) (w:World) (K:Bool→Bool→Bool→Bool→Int→Int→WP):Prop :=
 Br x3
  (∃vfrom1 vto1:Bool,∃vnum1 vtext1:Bool,∃vkids1:Int,Row w p3 [(vb vfrom1),(vb vto1),(vb vnum1),(vb vtext1),(vi vkids1)] ∧
  (∀j,j<5→CanW w (p2.add j))∧∀w6:World,w6=storeRow w p2 [(vb vfrom1),(vb vto1),(vb vnum1),(vb vtext1),(vi vkids1)] →
  ∃qfrom1 qto1:Bool,∃qnum1 qtext1:Bool,∃qkids1:Int,Row w6 p2 [(vb qfrom1),(vb qto1),(vb qnum1),(vb qtext1),(vi qkids1)] ∧
  K qfrom1 qto1 qnum1 qtext1 qkids1 53 w6)
  (∃v2:Bool,w.cell? (p3.add 3)=some (vb v2) ∧
  Br (!v2)
   (∃v3:ByteArray,w.cell? (p1.add 4)=some (vs v3) ∧
   Br (!(decide (v3=⟨#[]⟩)))
    (∃vfrom2 vto2:Bool,∃vnum2 vtext2:Bool,∃vkids2:Int,Row w p3 [(vb vfrom2),(vb vto2),(vb vnum2),(vb vtext2),(vi vkids2)] ∧
    (∀j,j<5→CanW w (p2.add j))∧∀w7:World,w7=storeRow w p2 [(vb vfrom2),(vb vto2),(vb vnum2),(vb vtext2),(vi vkids2)] →
    ∃qfrom2 qto2:Bool,∃qnum2 qtext2:Bool,∃qkids2:Int,Row w7 p2 [(vb qfrom2),(vb qto2),(vb qnum2),(vb qtext2),(vi qkids2)] ∧
    K qfrom2 qto2 qnum2 qtext2 qkids2 53 w7)
    (∃vfrom3 vto3:Bool,∃vnum3 vtext3:Bool,∃vkids3:Int,Row w p3 [(vb vfrom3),(vb vto3),(vb vnum3),(vb vtext3),(vi vkids3)] ∧
    (∀j,j<5→CanW w (p2.add j))∧∀w8:World,w8=storeRow w p2 [(vb vfrom3),(vb vto3),(vb vnum3),(vb vtext3),(vi vkids3)] →
    ∃qfrom3 qto3:Bool,∃qnum3 qtext3:Bool,∃qkids3:Int,Row w8 p2 [(vb qfrom3),(vb qto3),(vb qnum3),(vb qtext3),(vi qkids3)] ∧
    K qfrom3 qto3 qnum3 qtext3 qkids3 0 w8))
   (∃vfrom4 vto4:Bool,∃vnum4 vtext4:Bool,∃vkids4:Int,Row w p3 [(vb vfrom4),(vb vto4),(vb vnum4),(vb vtext4),(vi vkids4)] ∧
   (∀j,j<5→CanW w (p2.add j))∧∀w9:World,w9=storeRow w p2 [(vb vfrom4),(vb vto4),(vb vnum4),(vb vtext4),(vi vkids4)] →
   ∃qfrom4 qto4:Bool,∃qnum4 qtext4:Bool,∃qkids4:Int,Row w9 p2 [(vb qfrom4),(vb qto4),(vb qnum4),(vb qtext4),(vi qkids4)] ∧
   K qfrom4 qto4 qnum4 qtext4 qkids4 0 w9))
def m_E_j4 (p1 p2 p3:Addr) (x2 x4:Bool) (w:World) (K:Bool→Bool→Bool→Bool→Int→Int→WP):Prop :=
 Br x2
  (m_E_j3 p1 p2 p3 true w K)
  (m_E_j3 p1 p2 p3 x4 w K)
def m_E_j2 (p1 p2 p3:Addr) (x2:Bool) (w:World) (K:Bool→Bool→Bool→Bool→Int→Int→WP):Prop :=
 Br x2
  (m_E_j3 p1 p2 p3 true w K)
  (∃v4:Bool,w.cell? (p3.add 2)=some (vb v4) ∧
  Br (!v4)
   (∃v5:Int,w.cell? (p1.add 3)=some (vu v5) ∧
   m_E_j4 p1 p2 p3 x2 (v5 != 0) w K)
   (m_E_j4 p1 p2 p3 x2 false w K))
def m_E_j5 (p1 p2 p3:Addr) (x1 x5:Bool) (w:World) (K:Bool→Bool→Bool→Bool→Int→Int→WP):Prop :=
 Br x1
  (m_E_j2 p1 p2 p3 true w K)
  (m_E_j2 p1 p2 p3 x5 w K)
def m_E_j1 (p1 p2 p3:Addr) (x1:Bool) (w:World) (K:Bool→Bool→Bool→Bool→Int→Int→WP):Prop :=
 Br x1
  (m_E_j2 p1 p2 p3 true w K)
  (∃v6:Bool,w.cell? (p3.add 1)=some (vb v6) ∧
  Br (!v6)
   (∃v7:Int,w.cell? (p1.add 2)=some (vi v7) ∧
   m_E_j5 p1 p2 p3 x1 (v7 != 0) w K)
   (m_E_j5 p1 p2 p3 x1 false w K))
def m_E_j6 (p1 p2:Addr) (r1:Bool) (p3:Addr) (x6:Bool) (w:World) (K:Bool→Bool→Bool→Bool→Int→Int→WP):Prop :=
 Br (!r1)
  (m_E_j1 p1 p2 p3 true w K)
  (m_E_j1 p1 p2 p3 x6 w K)
def m_E (aH aI:Int) (aJ aK:Int) (aL:ByteArray) (aM aN:Int) (w:World) (K:Bool→Bool→Bool→Bool→Int→Int→WP):Prop :=
 ∀(p1:Addr) (w1:World),New w (.cells #[(vi aH),(vi aI),(vi aJ),(vu aK),(vs aL),(vi aM),(vi aN)] 86) p1 w1 →
 ∀(p2:Addr) (w2:World),New w1 (.cells #[(vb false),(vb false),(vb false),(vb false),(vi 0)] 149) p2 w2 →
 ∃v1:Int,w2.cell? p1=some (vi v1) ∧
 Calls Tryz.prog 91 #[(vi v1)] w2 (fun e w3=>∃rfrom1 rto1:Bool,∃rnum1 rtext1:Bool,∃rkids1:Int,∃r1:Bool,e=.returned (.tuple #[(.agg #[(vb rfrom1),(vb rto1),(vb rnum1),(vb rtext1),(vi rkids1)]),(vb r1)])∧
  ∀(p3:Addr) (w4:World),New w3 (.cells #[(vb false),(vb false),(vb false),(vb false),(vi 0)] 149) p3 w4 →
  (∀j,j<5→CanW w4 (p3.add j))∧∀w5:World,w5=storeRow w4 p3 [(vb rfrom1),(vb rto1),(vb rnum1),(vb rtext1),(vi rkids1)] →
  Br (!r1)
   (m_E_j1 p1 p2 p3 true w5 K)
   (∃v8:Bool,w5.cell? p3=some (vb v8) ∧
   Br (!v8)
    (∃v9:Int,w5.cell? (p1.add 1)=some (vi v9) ∧
    m_E_j6 p1 p2 r1 p3 (v9 != 0) w5 K)
    (m_E_j6 p1 p2 r1 p3 false w5 K)))
theorem w_E (aH aI : Int) (aJ aK : Int) (aL : ByteArray) (aM aN : Int) (w : World) (K : Bool → Bool → Bool → Bool → Int → Int → WP) (h : m_E aH aI aJ aK aL aM aN w K) :
  Calls Tryz.prog 104 #[(.agg #[(vi aH),(vi aI),(vi aJ),(vu aK),(vs aL),(vi aM),(vi aN)])] w (fun e w'=>∃rfrom2 rto2:Bool,∃rnum2 rtext2:Bool,∃rkids2 r2:Int,e=.returned (.tuple #[(.agg #[(vb rfrom2),(vb rto2),(vb rnum2),(vb rtext2),(vi rkids2)]),(vi r2)])∧K rfrom2 rto2 rnum2 rtext2 rkids2 r2 w'):=by
 unfold m_E at h
 refine cw (args:=[(.agg #[(vi aH),(vi aI),(vi aJ),(vu aK),(vs aL),(vi aM),(vi aN)])]) Tryz.func104 Tryz.ntmps104 (wpE_seq (rg (sn (O:=(.cells #[(vi aH),(vi aI),(vi aJ),(vu aK),(vs aL),(vi aM),(vi aN)] 86)) xb ?_)))
 intro p1 w1 hn8
 have h:=h p1 w1 hn8
 refine sn (O:=(.cells #[(vb false),(vb false),(vb false),(vb false),(vi 0)] 149)) (x_alloc (Tryz.zeroValue149 _) rfl) ?_
 intro p2 w2 hn7
 have h:=h p2 w2 hn7
 refine q0 (vi 0) (wpL_nil (th_n (wpE_seq (rg (q0 (vp (some p1)) ?_)))))
 obtain ⟨v1,hv17,h⟩:=h
 refine q2 (vi v1) (xl (Tryz.isAgg3 _) hv17) ?_
 refine sc Tryz.call91 (h.mono ?_)
 rintro e w3 ⟨rfrom1,rto1,rnum1,rtext1,rkids1,r1,rfl,h⟩
 refine ⟨_,rfl,?_⟩
 refine q0 (.tuple #[(.agg #[(vb rfrom1),(vb rto1),(vb rnum1),(vb rtext1),(vi rkids1)]),(vb r1)]) (q0 (.agg #[(vb rfrom1),(vb rto1),(vb rnum1),(vb rtext1),(vi rkids1)]) (q0 (vb r1) (sn (O:=(.cells #[(vb false),(vb false),(vb false),(vb false),(vi 0)] 149)) (x_alloc (Tryz.zeroValue149 _) rfl) ?_)))
 intro p3 w4 hn6
 have h:=h p3 w4 hn6
 obtain ⟨hp1,h⟩:=h
 refine st_set (want0 rfl) (x_storeA (a:=p3) (vs:=[(vb rfrom1),(vb rto1),(vb rnum1),(vb rtext1),(vi rkids1)]) (by kernel_rfl) (by kernel_rfl) rfl (Tryz.sizeOf149 _) rfl hp1) ?_
 intro w5 hn1
 have h:=h w5 hn1
 refine q0 (vb r1) (wpL_nil (th_n (wpE_seq (wpE_seq (rg (q0 (vb r1) (q0 (vb (!r1)) (q0 (vb (!r1)) ?_))))))))
 refine wpL_join 9 (fun ρ w=>∃x1:Bool,Has ρ [(1,(vp (some p1))),(2,(vp (some p2))),(4,(vp (some p3))),(23,(vb x1))]∧m_E_j1 p1 p2 p3 x1 w K) ?_ ?_
 ·rintro ρ w ⟨x1,hH,h⟩
  unfold m_E_j1 at h
  refine wpL_has hH ?_
  refine q0 (vb x1) ?_
  refine wpL_join 9 (fun ρ w=>∃x2:Bool,Has ρ [(1,(vp (some p1))),(2,(vp (some p2))),(4,(vp (some p3))),(33,(vb x2))]∧m_E_j2 p1 p2 p3 x2 w K) ?_ ?_
  ·rintro ρ w ⟨x2,hH,h⟩
   unfold m_E_j2 at h
   refine wpL_has hH ?_
   refine q0 (vb x2) ?_
   refine wpL_join 9 (fun ρ w=>∃x3:Bool,Has ρ [(1,(vp (some p1))),(2,(vp (some p2))),(4,(vp (some p3))),(43,(vb x3))]∧m_E_j3 p1 p2 p3 x3 w K) ?_ ?_
   ·rintro ρ w ⟨x3,hH,h⟩
    unfold m_E_j3 at h
    refine wpL_has hH ?_
    refine q0 (vb x3) ?_
    rcases Bool.eq_false_or_eq_true x3 with hg1 | hg1
    ·have h:=h.1 hg1
     refine sk (yD 44 hg1) (sk (yD 44 hg1) (sk (yD 44 hg1) (sk (yD 44 hg1) (sm (sm (sm (sk (yD 44 hg1) (q2 (vb true) (xT hg1) (wpL_nil (th_n (wpE_condT (by kernel_rfl) ?_)))))))))))
     refine wpE_seq (rg ?_)
     obtain ⟨vfrom1,vto1,vnum1,vtext1,vkids1,hv2,h⟩:=h
     refine q2 (.agg #[(vb vfrom1),(vb vto1),(vb vnum1),(vb vtext1),(vi vkids1)]) (x_loadA (a:=p3) (vs:=[(vb vfrom1),(vb vto1),(vb vnum1),(vb vtext1),(vi vkids1)]) (by kernel_rfl) (Tryz.isAgg149 _) (Tryz.sizeOf149 _) rfl hv2) ?_
     obtain ⟨hp2,h⟩:=h
     refine st_set (want0 rfl) (x_storeA (a:=p2) (vs:=[(vb vfrom1),(vb vto1),(vb vnum1),(vb vtext1),(vi vkids1)]) (by kernel_rfl) (by kernel_rfl) rfl (Tryz.sizeOf149 _) rfl hp2) ?_
     intro w6 hn2
     have h:=h w6 hn2
     refine q0 (vi 53) (wpL_nil (th_n (wpE_ret (th_r ?_))))
     obtain ⟨qfrom1,qto1,qnum1,qtext1,qkids1,hv1,h⟩:=h
     refine resG (.inl rfl) (vs:=[(.agg #[(vb qfrom1),(vb qto1),(vb qnum1),(vb qtext1),(vi qkids1)]),(vi 53)]) (v:=(.tuple #[(.agg #[(vb qfrom1),(vb qto1),(vb qnum1),(vb qtext1),(vi qkids1)]),(vi 53)])) Tryz.results104 ⟨(RV.cellA (by kernel_rfl) (Tryz.isAgg149 _) (Tryz.sizeOf149 _) rfl hv1),(rvT (by kernel_rfl)),trivial⟩ (by kernel_rfl) ?_
     exact ⟨qfrom1,qto1,qnum1,qtext1,qkids1,53,rfl,h⟩
    ·have h:=h.2 hg1
     refine q1 (vp (some (p3.add 3))) (want1 rfl (yD 44 hg1)) ?_
     obtain ⟨v2,hv10,h⟩:=h
     refine stp (v:=(vb v2)) (want1 rfl (yD 44 hg1)) (xl (Tryz.isAgg4 _) hv10) (q1 (vb (!v2)) (want1 rfl (yD 44 hg1)) (q1 (vb (!v2)) (want1 rfl (yD 44 hg1)) ?_))
     rcases Bool.eq_false_or_eq_true (!v2) with hg2 | hg2
     ·have h:=h.1 hg2
      refine q1 (vp (some (p1.add 4))) (want1 rfl (yD 48 hg2)) ?_
      obtain ⟨v3,hv7,h⟩:=h
      refine stp (v:=(vs v3)) (want1 rfl (yD 48 hg2)) (xl (Tryz.isAgg9 _) hv7) (stp (v:=(vb (!(decide (v3=⟨#[]⟩))))) (want1 rfl (yD 48 hg2)) (x_strneq (by kernel_rfl) (by kernel_rfl)) (stp (v:=(vb (!(decide (v3=⟨#[]⟩))))) (want1 rfl (yD 44 hg1)) (xT hg2) (q2 (vb (!(decide (v3=⟨#[]⟩)))) (xF hg1) (wpL_nil (th_n ?_)))))
      refine wpE_cond (t:=(!(decide (v3=⟨#[]⟩)))) (by kernel_rfl) (fun hc1=>?_) (fun hc1=>?_)
      ·have h:=h.1 hc1
       refine wpE_seq (rg ?_)
       obtain ⟨vfrom2,vto2,vnum2,vtext2,vkids2,hv4,h⟩:=h
       refine q2 (.agg #[(vb vfrom2),(vb vto2),(vb vnum2),(vb vtext2),(vi vkids2)]) (x_loadA (a:=p3) (vs:=[(vb vfrom2),(vb vto2),(vb vnum2),(vb vtext2),(vi vkids2)]) (by kernel_rfl) (Tryz.isAgg149 _) (Tryz.sizeOf149 _) rfl hv4) ?_
       obtain ⟨hp3,h⟩:=h
       refine st_set (want0 rfl) (x_storeA (a:=p2) (vs:=[(vb vfrom2),(vb vto2),(vb vnum2),(vb vtext2),(vi vkids2)]) (by kernel_rfl) (by kernel_rfl) rfl (Tryz.sizeOf149 _) rfl hp3) ?_
       intro w7 hn3
       have h:=h w7 hn3
       refine q0 (vi 53) (wpL_nil (th_n (wpE_ret (th_r ?_))))
       obtain ⟨qfrom2,qto2,qnum2,qtext2,qkids2,hv3,h⟩:=h
       refine resG (.inl rfl) (vs:=[(.agg #[(vb qfrom2),(vb qto2),(vb qnum2),(vb qtext2),(vi qkids2)]),(vi 53)]) (v:=(.tuple #[(.agg #[(vb qfrom2),(vb qto2),(vb qnum2),(vb qtext2),(vi qkids2)]),(vi 53)])) Tryz.results104 ⟨(RV.cellA (by kernel_rfl) (Tryz.isAgg149 _) (Tryz.sizeOf149 _) rfl hv3),(rvT (by kernel_rfl)),trivial⟩ (by kernel_rfl) ?_
       exact ⟨qfrom2,qto2,qnum2,qtext2,qkids2,53,rfl,h⟩
      ·have h:=h.2 hc1
       refine wpE_skip (th_n (wpE_seq (rg ?_)))
       obtain ⟨vfrom3,vto3,vnum3,vtext3,vkids3,hv6,h⟩:=h
       refine q2 (.agg #[(vb vfrom3),(vb vto3),(vb vnum3),(vb vtext3),(vi vkids3)]) (x_loadA (a:=p3) (vs:=[(vb vfrom3),(vb vto3),(vb vnum3),(vb vtext3),(vi vkids3)]) (by kernel_rfl) (Tryz.isAgg149 _) (Tryz.sizeOf149 _) rfl hv6) ?_
       obtain ⟨hp4,h⟩:=h
       refine st_set (want0 rfl) (x_storeA (a:=p2) (vs:=[(vb vfrom3),(vb vto3),(vb vnum3),(vb vtext3),(vi vkids3)]) (by kernel_rfl) (by kernel_rfl) rfl (Tryz.sizeOf149 _) rfl hp4) ?_
       intro w8 hn4
       have h:=h w8 hn4
       refine q0 (vi 0) (wpL_nil (th_n (wpE_ret ?_)))
       obtain ⟨qfrom3,qto3,qnum3,qtext3,qkids3,hv5,h⟩:=h
       refine resG (.inl rfl) (vs:=[(.agg #[(vb qfrom3),(vb qto3),(vb qnum3),(vb qtext3),(vi qkids3)]),(vi 0)]) (v:=(.tuple #[(.agg #[(vb qfrom3),(vb qto3),(vb qnum3),(vb qtext3),(vi qkids3)]),(vi 0)])) Tryz.results104 ⟨(RV.cellA (by kernel_rfl) (Tryz.isAgg149 _) (Tryz.sizeOf149 _) rfl hv5),(rvT (by kernel_rfl)),trivial⟩ (by kernel_rfl) ?_
       exact ⟨qfrom3,qto3,qnum3,qtext3,qkids3,0,rfl,h⟩
     ·have h:=h.2 hg2
      refine sk (yD 48 hg2) (sk (yD 48 hg2) (sk (yD 48 hg2) (stp (v:=(vb false)) (want1 rfl (yD 44 hg1)) (xF hg2) (q2 (vb false) (xF hg1) (wpL_nil (th_n (wpE_condF (by kernel_rfl) (wpE_skip (th_n (wpE_seq (rg ?_)))))))))))
      obtain ⟨vfrom4,vto4,vnum4,vtext4,vkids4,hv9,h⟩:=h
      refine q2 (.agg #[(vb vfrom4),(vb vto4),(vb vnum4),(vb vtext4),(vi vkids4)]) (x_loadA (a:=p3) (vs:=[(vb vfrom4),(vb vto4),(vb vnum4),(vb vtext4),(vi vkids4)]) (by kernel_rfl) (Tryz.isAgg149 _) (Tryz.sizeOf149 _) rfl hv9) ?_
      obtain ⟨hp5,h⟩:=h
      refine st_set (want0 rfl) (x_storeA (a:=p2) (vs:=[(vb vfrom4),(vb vto4),(vb vnum4),(vb vtext4),(vi vkids4)]) (by kernel_rfl) (by kernel_rfl) rfl (Tryz.sizeOf149 _) rfl hp5) ?_
      intro w9 hn5
      have h:=h w9 hn5
      refine q0 (vi 0) (wpL_nil (th_n (wpE_ret ?_)))
      obtain ⟨qfrom4,qto4,qnum4,qtext4,qkids4,hv8,h⟩:=h
      refine resG (.inl rfl) (vs:=[(.agg #[(vb qfrom4),(vb qto4),(vb qnum4),(vb qtext4),(vi qkids4)]),(vi 0)]) (v:=(.tuple #[(.agg #[(vb qfrom4),(vb qto4),(vb qnum4),(vb qtext4),(vi qkids4)]),(vi 0)])) Tryz.results104 ⟨(RV.cellA (by kernel_rfl) (Tryz.isAgg149 _) (Tryz.sizeOf149 _) rfl hv8),(rvT (by kernel_rfl)),trivial⟩ (by kernel_rfl) ?_
      exact ⟨qfrom4,qto4,qnum4,qtext4,qkids4,0,rfl,h⟩
   ·rcases Bool.eq_false_or_eq_true x2 with hg3 | hg3
    ·have h:=h.1 hg3
     refine sk (yD 34 hg3) (sk (yD 34 hg3) (sk (yD 34 hg3) (sk (yD 34 hg3) (sm (sm (sm (sk (yD 34 hg3) (q2 (vb true) (xT hg3) (wpL_nil ?_)))))))))
     exact ⟨true,hm,h⟩
    ·have h:=h.2 hg3
     refine q1 (vp (some (p3.add 2))) (want1 rfl (yD 34 hg3)) ?_
     obtain ⟨v4,hv12,h⟩:=h
     refine stp (v:=(vb v4)) (want1 rfl (yD 34 hg3)) (xl (Tryz.isAgg4 _) hv12) (q1 (vb (!v4)) (want1 rfl (yD 34 hg3)) (q1 (vb (!v4)) (want1 rfl (yD 34 hg3)) ?_))
     refine wpL_join 4 (fun ρ w=>∃x4:Bool,Has ρ [(1,(vp (some p1))),(2,(vp (some p2))),(4,(vp (some p3))),(34,(vb x2)),(42,(vb x4))]∧m_E_j4 p1 p2 p3 x2 x4 w K) ?_ ?_
     ·rintro ρ w ⟨x4,hH,h⟩
      unfold m_E_j4 at h
      refine wpL_has hH ?_
      rcases Bool.eq_false_or_eq_true x2 with hg4 | hg4
      ·have h:=h.1 hg4
       refine q2 (vb true) (xT hg4) (wpL_nil ?_)
       exact ⟨true,hm,h⟩
      ·have h:=h.2 hg4
       refine q2 (vb x4) (xF hg4) (wpL_nil ?_)
       exact ⟨x4,hm,h⟩
     ·rcases Bool.eq_false_or_eq_true (!v4) with hg5 | hg5
      ·have h:=h.1 hg5
       refine q1 (vp (some (p1.add 3))) (want1 rfl (yD 38 hg5)) ?_
       obtain ⟨v5,hv11,h⟩:=h
       refine stp (v:=(vu v5)) (want1 rfl (yD 38 hg5)) (xl (Tryz.isAgg47 _) hv11) (q1 (vb (v5 != 0)) (want1 rfl (yD 38 hg5)) (stp (v:=(vb (v5 != 0))) (want1 rfl (yD 34 hg3)) (xT hg5) (wpL_nil ?_)))
       exact ⟨(v5 != 0),hm,h⟩
      ·have h:=h.2 hg5
       refine sk (yD 38 hg5) (sk (yD 38 hg5) (sk (yD 38 hg5) (stp (v:=(vb false)) (want1 rfl (yD 34 hg3)) (xF hg5) (wpL_nil ?_))))
       exact ⟨false,hm,h⟩
  ·rcases Bool.eq_false_or_eq_true x1 with hg6 | hg6
   ·have h:=h.1 hg6
    refine sk (yD 24 hg6) (sk (yD 24 hg6) (sk (yD 24 hg6) (sk (yD 24 hg6) (sm (sm (sm (sk (yD 24 hg6) (q2 (vb true) (xT hg6) (wpL_nil ?_)))))))))
    exact ⟨true,hm,h⟩
   ·have h:=h.2 hg6
    refine q1 (vp (some (p3.add 1))) (want1 rfl (yD 24 hg6)) ?_
    obtain ⟨v6,hv14,h⟩:=h
    refine stp (v:=(vb v6)) (want1 rfl (yD 24 hg6)) (xl (Tryz.isAgg4 _) hv14) (q1 (vb (!v6)) (want1 rfl (yD 24 hg6)) (q1 (vb (!v6)) (want1 rfl (yD 24 hg6)) ?_))
    refine wpL_join 4 (fun ρ w=>∃x5:Bool,Has ρ [(1,(vp (some p1))),(2,(vp (some p2))),(4,(vp (some p3))),(24,(vb x1)),(32,(vb x5))]∧m_E_j5 p1 p2 p3 x1 x5 w K) ?_ ?_
    ·rintro ρ w ⟨x5,hH,h⟩
     unfold m_E_j5 at h
     refine wpL_has hH ?_
     rcases Bool.eq_false_or_eq_true x1 with hg7 | hg7
     ·have h:=h.1 hg7
      refine q2 (vb true) (xT hg7) (wpL_nil ?_)
      exact ⟨true,hm,h⟩
     ·have h:=h.2 hg7
      refine q2 (vb x5) (xF hg7) (wpL_nil ?_)
      exact ⟨x5,hm,h⟩
    ·rcases Bool.eq_false_or_eq_true (!v6) with hg8 | hg8
     ·have h:=h.1 hg8
      refine q1 (vp (some (p1.add 2))) (want1 rfl (yD 28 hg8)) ?_
      obtain ⟨v7,hv13,h⟩:=h
      refine stp (v:=(vi v7)) (want1 rfl (yD 28 hg8)) (xl (Tryz.isAgg3 _) hv13) (q1 (vb (v7 != 0)) (want1 rfl (yD 28 hg8)) (stp (v:=(vb (v7 != 0))) (want1 rfl (yD 24 hg6)) (xT hg8) (wpL_nil ?_)))
      exact ⟨(v7 != 0),hm,h⟩
     ·have h:=h.2 hg8
      refine sk (yD 28 hg8) (sk (yD 28 hg8) (sk (yD 28 hg8) (stp (v:=(vb false)) (want1 rfl (yD 24 hg6)) (xF hg8) (wpL_nil ?_))))
      exact ⟨false,hm,h⟩
 ·rcases Bool.eq_false_or_eq_true (!r1) with hg9 | hg9
  ·have h:=h.1 hg9
   refine sk (yD 14 hg9) (sk (yD 14 hg9) (sk (yD 14 hg9) (sk (yD 14 hg9) (sm (sm (sm (sk (yD 14 hg9) (q2 (vb true) (xT hg9) (wpL_nil ?_)))))))))
   exact ⟨true,hm,h⟩
  ·have h:=h.2 hg9
   refine q1 (vp (some p3)) (want1 rfl (yD 14 hg9)) ?_
   obtain ⟨v8,hv16,h⟩:=h
   refine stp (v:=(vb v8)) (want1 rfl (yD 14 hg9)) (xl (Tryz.isAgg4 _) hv16) (q1 (vb (!v8)) (want1 rfl (yD 14 hg9)) (q1 (vb (!v8)) (want1 rfl (yD 14 hg9)) ?_))
   refine wpL_join 4 (fun ρ w=>∃x6:Bool,Has ρ [(1,(vp (some p1))),(2,(vp (some p2))),(4,(vp (some p3))),(14,(vb (!r1))),(22,(vb x6))]∧m_E_j6 p1 p2 r1 p3 x6 w K) ?_ ?_
   ·rintro ρ w ⟨x6,hH,h⟩
    unfold m_E_j6 at h
    refine wpL_has hH ?_
    rcases Bool.eq_false_or_eq_true (!r1) with hg10 | hg10
    ·have h:=h.1 hg10
     refine q2 (vb true) (xT hg10) (wpL_nil ?_)
     exact ⟨true,hm,h⟩
    ·have h:=h.2 hg10
     refine q2 (vb x6) (xF hg10) (wpL_nil ?_)
     exact ⟨x6,hm,h⟩
   ·rcases Bool.eq_false_or_eq_true (!v8) with hg11 | hg11
    ·have h:=h.1 hg11
     refine q1 (vp (some (p1.add 1))) (want1 rfl (yD 18 hg11)) ?_
     obtain ⟨v9,hv15,h⟩:=h
     refine stp (v:=(vi v9)) (want1 rfl (yD 18 hg11)) (xl (Tryz.isAgg3 _) hv15) (q1 (vb (v9 != 0)) (want1 rfl (yD 18 hg11)) (stp (v:=(vb (v9 != 0))) (want1 rfl (yD 14 hg9)) (xT hg11) (wpL_nil ?_)))
     exact ⟨(v9 != 0),hm,h⟩
    ·have h:=h.2 hg11
     refine sk (yD 18 hg11) (sk (yD 18 hg11) (sk (yD 18 hg11) (stp (v:=(vb false)) (want1 rfl (yD 14 hg9)) (xF hg11) (wpL_nil ?_))))
     exact ⟨false,hm,h⟩
def m_W_j1 (p1 p2:Addr) (x1:Bool) (w:World) (K:Int→WP):Prop :=
 Br x1
  (K 50 w)
  (∃v1:Bool,w.cell? (p1.add 1)=some (vb v1) ∧
  Br v1
   (∃v2:Int,w.cell? (p2.add 2)=some (vi v2) ∧
   Calls Tryz.prog 145 #[(vi v2)] w (fun e w3=>∃r1:Bool,e=.returned (vb r1)∧
    Br (!r1)
     (K 50 w3)
     (∃v3:Int,w3.cell? (p2.add 2)=some (vi v3) ∧
     ∃v4:Int,w3.cell? (p2.add 1)=some (vi v4) ∧
     Br (v3 == v4)
      (K 50 w3)
      (∃v5:ByteArray,w3.cell? (p2.add 4)=some (vs v5) ∧
      Br (decide ((v5.size:Int)>64))
       (K 1 w3)
       (K 0 w3)))))
   (∃v6:ByteArray,w.cell? (p2.add 4)=some (vs v6) ∧
   Br (decide ((v6.size:Int)>64))
    (K 1 w)
    (K 0 w)))
def m_W (sfrom1 sto1:Bool) (snum1 stext1:Bool) (skids1 aH:Int) (aI aJ aK:Int) (aL:ByteArray) (aM aN:Int) (w:World) (K:Int→WP):Prop :=
 ∀(p1:Addr) (w1:World),New w (.cells #[(vb sfrom1),(vb sto1),(vb snum1),(vb stext1),(vi skids1)] 149) p1 w1 →
 ∀(p2:Addr) (w2:World),New w1 (.cells #[(vi aH),(vi aI),(vi aJ),(vu aK),(vs aL),(vi aM),(vi aN)] 86) p2 w2 →
 ∃v7:Bool,w2.cell? p1=some (vb v7) ∧
 Br v7
  (∃v8:Int,w2.cell? (p2.add 1)=some (vi v8) ∧
  Calls Tryz.prog 145 #[(vi v8)] w2 (fun e w4=>∃r2:Bool,e=.returned (vb r2)∧
   m_W_j1 p1 p2 (!r2) w4 K))
  (m_W_j1 p1 p2 false w2 K)
theorem w_W (sfrom1 sto1 : Bool) (snum1 stext1 : Bool) (skids1 aH : Int) (aI aJ aK : Int) (aL : ByteArray) (aM aN : Int) (w : World) (K : Int → WP) (h : m_W sfrom1 sto1 snum1 stext1 skids1 aH aI aJ aK aL aM aN w K) :
  Calls Tryz.prog 105 #[(.agg #[(vb sfrom1),(vb sto1),(vb snum1),(vb stext1),(vi skids1)]),(.agg #[(vi aH),(vi aI),(vi aJ),(vu aK),(vs aL),(vi aM),(vi aN)])] w (fun e w'=>∃r3:Int,e=.returned (vi r3)∧K r3 w'):=by
 unfold m_W at h
 refine cw (args:=[(.agg #[(vb sfrom1),(vb sto1),(vb snum1),(vb stext1),(vi skids1)]),(.agg #[(vi aH),(vi aI),(vi aJ),(vu aK),(vs aL),(vi aM),(vi aN)])]) Tryz.func105 Tryz.ntmps105 (wpE_seq (rg (sn (O:=(.cells #[(vb sfrom1),(vb sto1),(vb snum1),(vb stext1),(vi skids1)] 149)) xb ?_)))
 intro p1 w1 hn2
 have h:=h p1 w1 hn2
 refine sn (O:=(.cells #[(vi aH),(vi aI),(vi aJ),(vu aK),(vs aL),(vi aM),(vi aN)] 86)) xb ?_
 intro p2 w2 hn1
 have h:=h p2 w2 hn1
 refine q0 (vi 0) (wpL_nil (th_n (wpE_seq (wpE_block (wpE_seq ?_)))))
 refine wpE_join (fun ρ w=>∃x1:Bool,Has ρ [(2,(vp (some p1))),(3,(vp (some p2))),(5,(vb x1))]∧m_W_j1 p1 p2 x1 w K) ?_ ?_
 ·rintro ρ w ⟨x1,hH,h⟩
  unfold m_W_j1 at h
  refine wpE_has hH ?_
  refine wpE_cond (t:=x1) (by kernel_rfl) (fun hc1=>?_) (fun hc1=>?_)
  ·have h:=h.1 hc1
   refine wpE_skip (th_n (wpE_condT' (t:=x1) (by kernel_rfl) hc1 (wpE_seq (rg (q0 (vi 50) (wpL_nil (th_n (wpE_ret (bl_r (th_r (rs1 Tryz.results105 (v:=(vi 50)) ?_)))))))))))
   exact ⟨50,rfl,h⟩
  ·have h:=h.2 hc1
   refine rg (q0 (vp (some (p1.add 1))) ?_)
   obtain ⟨v1,hv6,h⟩:=h
   refine q2 (vb v1) (xl (Tryz.isAgg4 _) hv6) (q0 (vb v1) ?_)
   rcases Bool.eq_false_or_eq_true v1 with hg1 | hg1
   ·have h:=h.1 hg1
    refine q1 (vp (some (p2.add 2))) (want1 rfl (yD 16 hg1)) ?_
    obtain ⟨v2,hv4,h⟩:=h
    refine stp (v:=(vi v2)) (want1 rfl (yD 16 hg1)) (xl (Tryz.isAgg3 _) hv4) ?_
    refine st_call (want1 rfl (yD 16 hg1)) (xc Tryz.call145) (h.mono ?_)
    rintro e w3 ⟨r1,rfl,h⟩
    refine ⟨_,rfl,?_⟩
    refine q1 (vb (!r1)) (want1 rfl (yD 16 hg1)) (q1 (vb (!r1)) (want1 rfl (yD 16 hg1)) ?_)
    rcases Bool.eq_false_or_eq_true (!r1) with hg2 | hg2
    ·have h:=h.1 hg2
     refine sk (yD 21 hg2) (sk (yD 21 hg2) (sk (yD 21 hg2) (sk (yD 21 hg2) (sk (yD 21 hg2) (stp (v:=(vb true)) (want1 rfl (yD 16 hg1)) (xT hg2) (q2 (vb true) (xT hg1) (q0 (vb true) (wpL_nil (th_n (wpE_condT (by kernel_rfl) (wpE_seq ?_)))))))))))
     refine rg (q0 (vi 50) (wpL_nil (th_n (wpE_ret (bl_r (th_r (rs1 Tryz.results105 (v:=(vi 50)) ?_)))))))
     exact ⟨50,rfl,h⟩
    ·have h:=h.2 hg2
     refine q1 (vp (some (p2.add 2))) (want1 rfl (yD 21 hg2)) ?_
     obtain ⟨v3,hv3,h⟩:=h
     refine stp (v:=(vi v3)) (want1 rfl (yD 21 hg2)) (xl (Tryz.isAgg3 _) hv3) (q1 (vp (some (p2.add 1))) (want1 rfl (yD 21 hg2)) ?_)
     obtain ⟨v4,hv2,h⟩:=h
     refine stp (v:=(vi v4)) (want1 rfl (yD 21 hg2)) (xl (Tryz.isAgg3 _) hv2) (q1 (vb (v3 == v4)) (want1 rfl (yD 21 hg2)) (stp (v:=(vb (v3 == v4))) (want1 rfl (yD 16 hg1)) (xF hg2) (q2 (vb (v3 == v4)) (xT hg1) (q0 (vb (v3 == v4)) (wpL_nil (th_n ?_))))))
     refine wpE_cond (t:=(v3 == v4)) (by kernel_rfl) (fun hc2=>?_) (fun hc2=>?_)
     ·have h:=h.1 hc2
      refine wpE_seq (rg (q0 (vi 50) (wpL_nil (th_n (wpE_ret (bl_r (th_r (rs1 Tryz.results105 (v:=(vi 50)) ?_))))))))
      exact ⟨50,rfl,h⟩
     ·have h:=h.2 hc2
      refine wpE_seq (rg (q0 (vp (some (p2.add 4))) ?_))
      obtain ⟨v5,hv1,h⟩:=h
      refine q2 (vs v5) (xl (Tryz.isAgg9 _) hv1) (q0 (vi (v5.size:Int)) (q0 (vb (decide ((v5.size:Int)>64))) (q0 (vb (decide ((v5.size:Int)>64))) (wpL_nil (th_n ?_)))))
      refine wpE_cond (t:=(decide ((v5.size:Int)>64))) (by kernel_rfl) (fun hc3=>?_) (fun hc3=>?_)
      ·have h:=h.1 hc3
       refine wpE_seq (rg (q0 (vi 1) (wpL_nil (th_n (wpE_ret (bl_r (th_r (rs1 Tryz.results105 (v:=(vi 1)) ?_))))))))
       exact ⟨1,rfl,h⟩
      ·have h:=h.2 hc3
       refine wpE_skip (bl_n (th_n (wpE_seq (rg (q0 (vi 0) (wpL_nil (th_n (wpE_ret (rs1 Tryz.results105 (v:=(vi 0)) ?_)))))))))
       exact ⟨0,rfl,h⟩
   ·have h:=h.2 hg1
    refine sk (yD 16 hg1) (sk (yD 16 hg1) (sk (yD 16 hg1) (sk (yD 16 hg1) (sk (yD 16 hg1) (sm (sm (sm (sm (sm (sk (yD 16 hg1) (q2 (vb false) (xF hg1) ?_)))))))))))
    refine q0 (vb false) (wpL_nil (th_n (wpE_condF (by kernel_rfl) (wpE_seq (rg (q0 (vp (some (p2.add 4))) ?_))))))
    obtain ⟨v6,hv5,h⟩:=h
    refine q2 (vs v6) (xl (Tryz.isAgg9 _) hv5) (q0 (vi (v6.size:Int)) (q0 (vb (decide ((v6.size:Int)>64))) (q0 (vb (decide ((v6.size:Int)>64))) (wpL_nil (th_n ?_)))))
    refine wpE_cond (t:=(decide ((v6.size:Int)>64))) (by kernel_rfl) (fun hc4=>?_) (fun hc4=>?_)
    ·have h:=h.1 hc4
     refine wpE_seq (rg (q0 (vi 1) (wpL_nil (th_n (wpE_ret (bl_r (th_r (rs1 Tryz.results105 (v:=(vi 1)) ?_))))))))
     exact ⟨1,rfl,h⟩
    ·have h:=h.2 hc4
     refine wpE_skip (bl_n (th_n (wpE_seq (rg (q0 (vi 0) (wpL_nil (th_n (wpE_ret (rs1 Tryz.results105 (v:=(vi 0)) ?_)))))))))
     exact ⟨0,rfl,h⟩
 ·refine rg (q0 (vp (some p1)) ?_)
  obtain ⟨v7,hv8,h⟩:=h
  refine q2 (vb v7) (xl (Tryz.isAgg4 _) hv8) (q0 (vb v7) ?_)
  rcases Bool.eq_false_or_eq_true v7 with hg3 | hg3
  ·have h:=h.1 hg3
   refine q1 (vp (some (p2.add 1))) (want1 rfl (yD 8 hg3)) ?_
   obtain ⟨v8,hv7,h⟩:=h
   refine stp (v:=(vi v8)) (want1 rfl (yD 8 hg3)) (xl (Tryz.isAgg3 _) hv7) ?_
   refine st_call (want1 rfl (yD 8 hg3)) (xc Tryz.call145) (h.mono ?_)
   rintro e w4 ⟨r2,rfl,h⟩
   refine ⟨_,rfl,?_⟩
   refine q1 (vb (!r2)) (want1 rfl (yD 8 hg3)) (q2 (vb (!r2)) (xT hg3) (q0 (vb (!r2)) (wpL_nil (th_n ?_))))
   exact ⟨(!r2),hm,h⟩
  ·have h:=h.2 hg3
   refine sk (yD 8 hg3) (sk (yD 8 hg3) (sk (yD 8 hg3) (sk (yD 8 hg3) (q2 (vb false) (xF hg3) (q0 (vb false) (wpL_nil (th_n ?_)))))))
   exact ⟨false,hm,h⟩
def m_V3 (p1:Option Addr) (aH aI:Int) (aJ aK:Int) (aL:ByteArray) (aM aN:Int) (w:World) (K:Int→Bool→WP):Prop :=
 ∀(p2:Addr) (w1:World),New w (.cells #[(vi aH),(vi aI),(vi aJ),(vu aK),(vs aL),(vi aM),(vi aN)] 86) p2 w1 →
 Br (Option.isNone p1)
  (K 0 false w1)
  (∀w2,w2=w1.drew →
  ∃a1:Addr,p1=some a1 ∧
  ∃v1:Option Nat,w2.cell? (a1.add 1)=some (.map v1) ∧
  ∃aA aB:Int,∃aC aD:Int,∃aE:ByteArray,∃aF aG:Int,Row w2 p2 [(vi aA),(vi aB),(vi aC),(vu aD),(vs aE),(vi aF),(vi aG)] ∧
  ∃v2:Int,∃ok1:Bool,(Instr.lookup 92 (.map v1) (.agg #[(vi aA),(vi aB),(vi aC),(vu aD),(vs aE),(vi aF),(vi aG)]) true).run Tryz.prog w2=.ok (.tuple #[(vi v2),(vb ok1)]) w2 ∧
  K v2 ok1 w2)
theorem w_V3 (p1 : Option Addr) (aH aI : Int) (aJ aK : Int) (aL : ByteArray) (aM aN : Int) (w : World) (K : Int → Bool → WP) (h : m_V3 p1 aH aI aJ aK aL aM aN w K) :
  Calls Tryz.prog 129 #[(vp p1),(.agg #[(vi aH),(vi aI),(vi aJ),(vu aK),(vs aL),(vi aM),(vi aN)])] w (fun e w'=>∃r1:Int,∃r2:Bool,e=.returned (.tuple #[(vi r1),(vb r2)])∧K r1 r2 w'):=by
 unfold m_V3 at h
 refine cw (args:=[(vp p1),(.agg #[(vi aH),(vi aI),(vi aJ),(vu aK),(vs aL),(vi aM),(vi aN)])]) Tryz.func129 Tryz.ntmps129 (wpE_seq (rg (sn (O:=(.cells #[(vi aH),(vi aI),(vi aJ),(vu aK),(vs aL),(vi aM),(vi aN)] 86)) xb ?_)))
 intro p2 w1 hn1
 have h:=h p2 w1 hn1
 refine q0 (vi 0) (q0 (vb false) (wpL_nil (th_n (wpE_seq (wpE_seq (rg (q0 (vp p1) (q2 (vb (Option.isNone p1)) (x_ptreq (by kernel_rfl) rfl Tryz.underlying26) (wpL_nil (th_n ?_))))))))))
 refine wpE_cond (t:=(Option.isNone p1)) (by kernel_rfl) (fun hc1=>?_) (fun hc1=>?_)
 ·have h:=h.1 hc1
  refine wpE_seq (rg (q0 (vi 0) (q0 (vb false) (wpL_nil (th_n (wpE_ret (th_r (res2 (.inl rfl) Tryz.results129 (v:=(vi 0)) (by kernel_rfl) (v':=(vb false)) (by kernel_rfl) ?_))))))))
  exact ⟨0,false,rfl,h⟩
 ·have h:=h.2 hc1
  refine wpE_skip (th_n (wpE_seq (wpE_drawnQ (by kernel_rfl) (by kernel_rfl) (by kernel_rfl) (by kernel_rfl) ?_)))
  intro w2 hw2
  have h:=h w2 hw2
  refine qq 0 (vp p1) Kp0 (qg 1 ?_)
  obtain ⟨a1,hp1,h⟩:=h
  refine sxQ (v:=(vp (some a1))) Kp1 (want0 rfl) rfl (x_nilCheck (p:=p1) (by kernel_rfl) hp1) (qq 2 (vp (some (a1.add 1))) Kp2 (qg 3 ?_))
  obtain ⟨v1,hv3,h⟩:=h
  refine sxQ (v:=(.map v1)) Kp3 (want0 rfl) rfl (xl (Tryz.isAgg92 _) hv3) (qg 4 ?_)
  obtain ⟨aA,aB,aC,aD,aE,aF,aG,hv2,h⟩:=h
  refine sxQ (v:=(.agg #[(vi aA),(vi aB),(vi aC),(vu aD),(vs aE),(vi aF),(vi aG)])) Kp4 (want0 rfl) rfl (x_loadA (a:=p2) (vs:=[(vi aA),(vi aB),(vi aC),(vu aD),(vs aE),(vi aF),(vi aG)]) (by kernel_rfl) (Tryz.isAgg86 _) (Tryz.sizeOf86 _) rfl hv2) (qg 5 ?_)
  obtain ⟨v2,ok1,hv1,h⟩:=h
  refine sxQ (v:=(.tuple #[(vi v2),(vb ok1)])) Kp5 (want0 rfl) rfl (x_lookup (by kernel_rfl) (by kernel_rfl) hv1) (qq 6 (.tuple #[(vi v2),(vb ok1)]) Kp6 (qq 7 (vi v2) Kp7 (qq 8 (vb ok1) Kp8 (qq 9 (vi v2) Kp9 (qq 10 (vb ok1) (pickA (S8 (pickS (pickS pickZ)))) (wn (th_n (wpE_seq (rg (q0 (vi v2) (q0 (vb ok1) ?_)))))))))))
  refine q0 (vi v2) (q0 (vb ok1) (wpL_nil (th_n (wpE_ret (res2 (.inl rfl) Tryz.results129 (v:=(vi v2)) (by kernel_rfl) (v':=(vb ok1)) (by kernel_rfl) ?_)))))
  exact ⟨v2,ok1,rfl,h⟩
def m_W3 (p1:Option Addr) (t1:Int) (w:World) (K:Sl→WP):Prop :=
 ∀(p2:Addr) (w1:World),New w (.cells #[(vp p1)] 26) p2 w1 →
 ∀(p3:Addr) (w2:World),New w1 (.cells #[Sl.nil.v] 52) p3 w2 →
 ∀(p4:Addr) (w3:World),New w2 (.map #[] 0) p4 w3 →
 ∀(p5:Addr) (w4:World),New w3 (.cells #[(.map none)] 152) p5 w4 →
 CanW w4 p5∧∀w5:World,w5=w4.setCell p5 (.map (some p4.block)) →
 ∀(p6:Addr) (w6:World),New w5 (.cells #[(.nilFunc:Value)] 145) p6 w6 →
 CanW w6 p6∧∀w7:World,w7=w6.setCell p6 (.func (.func 152) #[] #[(vp (some p5)),(vp (some p2)),(vp (some p6)),(vp (some p3))]) →
 ∃v1:Option Addr,w7.cell? p2=some (vp v1) ∧
 Calls Tryz.prog 80 #[(vp v1),(vi t1)] w7 (fun e w8=>∃r1:Bool,e=.returned (vb r1)∧
  Br r1
   (∃v2:Value,w8.cell? p6=some v2 ∧
   ∃(f1:FuncId) (fs1 cs1:Array Value),v2=.func (.func f1) fs1 cs1 ∧
   (∀args w,(callFunc f1 args).run Tryz.prog w=.ok (.enter f1 args) w)∧Calls Tryz.prog f1 (fs1++#[(vi t1)]++cs1) w8 (fun e w9=>e=.returned (.tuple #[])∧
    ∃v3:Sl,w9.cell? p3=some v3.v ∧
    K v3 w9))
   (∃v4:Sl,w8.cell? p3=some v4.v ∧
   K v4 w8))
theorem w_W3 (p1 : Option Addr) (t1 : Int) (w : World) (K : Sl → WP) (h : m_W3 p1 t1 w K) :
  Calls Tryz.prog 131 #[(vp p1),(vi t1)] w (fun e w'=>∃r2:Sl,e=.returned r2.v∧K r2 w'):=by
 unfold m_W3 at h
 refine cw (args:=[(vp p1),(vi t1)]) Tryz.func131 Tryz.ntmps131 (wpE_seq (rg (sn (O:=(.cells #[(vp p1)] 26)) xb ?_)))
 intro p2 w1 hn7
 have h:=h p2 w1 hn7
 refine q0 Sl.nil.v (wpL_nil (th_n (wpE_seq (rg (sn (O:=(.cells #[Sl.nil.v] 52)) (x_alloc (Tryz.zeroValue52 _) rfl) ?_)))))
 intro p3 w2 hn6
 have h:=h p3 w2 hn6
 refine wpL_nil (th_n (wpE_seq (rg (st_new (O:=(.map #[] 0)) (fun p=>.map (some p.block)) (want0 rfl) (by kernel_rfl) ?_))))
 intro p4 w3 hn5
 have h:=h p4 w3 hn5
 refine sn (O:=(.cells #[(.map none)] 152)) (x_alloc (Tryz.zeroValue152 _) rfl) ?_
 intro p5 w4 hn4
 have h:=h p5 w4 hn4
 obtain ⟨hp1,h⟩:=h
 refine st_set (want0 rfl) (x_store (a:=p5) (v:=(.map (some p4.block))) (by kernel_rfl) (by kernel_rfl) rfl (Tryz.sizeOf152 _) hp1) ?_
 intro w5 hn1
 have h:=h w5 hn1
 refine wpL_nil (th_n (wpE_seq (rg (sn (O:=(.cells #[(.nilFunc:Value)] 145)) (x_alloc (Tryz.zeroValue145 _) rfl) ?_))))
 intro p6 w6 hn3
 have h:=h p6 w6 hn3
 refine wpL_nil (th_n (wpE_seq (rg (q0 (.func (.func 152) #[] #[(vp (some p5)),(vp (some p2)),(vp (some p6)),(vp (some p3))]) ?_))))
 obtain ⟨hp2,h⟩:=h
 refine st_set (want0 rfl) (x_store (a:=p6) (v:=(.func (.func 152) #[] #[(vp (some p5)),(vp (some p2)),(vp (some p6)),(vp (some p3))])) (by kernel_rfl) (by kernel_rfl) rfl (Tryz.sizeOf145 _) hp2) ?_
 intro w7 hn2
 have h:=h w7 hn2
 refine wpL_nil (th_n (wpE_seq (wpE_seq (rg ?_))))
 obtain ⟨v1,hv4,h⟩:=h
 refine q2 (vp v1) (xl (Tryz.isAgg26 _) hv4) (q0 (vi t1) ?_)
 refine sc Tryz.call80 (h.mono ?_)
 rintro e w8 ⟨r1,rfl,h⟩
 refine ⟨_,rfl,?_⟩
 refine wpL_nil (th_n ?_)
 refine wpE_cond (t:=r1) (by kernel_rfl) (fun hc1=>?_) (fun hc1=>?_)
 ·have h:=h.1 hc1
  refine rg ?_
  obtain ⟨v2,hv2,h⟩:=h
  refine q2 v2 (xl (Tryz.isAgg145 _) hv2) (q0 (vi t1) ?_)
  obtain ⟨f1,fs1,cs1,hp3,h⟩:=h
  obtain ⟨hf1,h⟩:=h
  refine st_call (want0 rfl) (x_callmE (fs:=fs1) (caps:=cs1) (args:=#[(vi t1)]) (by kernel_rfl) hp3 hf1 (by kernel_rfl) rfl) (h.mono ?_)
  rintro e w9 ⟨rfl,h⟩
  refine ⟨_,rfl,?_⟩
  refine wpL_nil (th_n (wpE_seq (rg ?_)))
  obtain ⟨v3,hv1,h⟩:=h
  refine q2 v3.v (xl (Tryz.isAgg52 _) hv1) (q0 v3.v (wpL_nil (th_n (wpE_ret (rs1 Tryz.results131 (v:=v3.v) ?_)))))
  exact ⟨v3,rfl,h⟩
 ·have h:=h.2 hc1
  refine wpE_skip (th_n (wpE_seq (rg ?_)))
  obtain ⟨v4,hv3,h⟩:=h
  refine q2 v4.v (xl (Tryz.isAgg52 _) hv3) (q0 v4.v (wpL_nil (th_n (wpE_ret (rs1 Tryz.results131 (v:=v4.v) ?_)))))
  exact ⟨v4,rfl,h⟩
def m_X3  (w:World) (K:(Array Value)→WP):Prop :=
 ∀(p1:Addr) (w1:World),New w (.cells #[(vb false),(vb false),(vb false),(vb false),(vi 0),(vb false),(vb false),(vb false),(vb false),(vi 0),(vb false),(vb false),(vb false),(vb false),(vi 0),(vb false),(vb false),(vb false),(vb false),(vi 0),(vb false),(vb false),(vb false),(vb false),(vi 0),(vb false),(vb false),(vb false),(vb false),(vi 0),(vb false),(vb false),(vb false),(vb false),(vi 0),(vb false),(vb false),(vb false),(vb false),(vi 0),(vb false),(vb false),(vb false),(vb false),(vi 0),(vb false),(vb false),(vb false),(vb false),(vi 0)] 196) p1 w1 →
 (∀j,j<50→CanW w1 (p1.add j))∧∀w2:World,w2=storeRow w1 p1 [(vb false),(vb false),(vb false),(vb false),(vi 0),(vb true),(vb false),(vb false),(vb false),(vi 0),(vb false),(vb false),(vb true),(vb false),(vi 0),(vb false),(vb false),(vb false),(vb true),(vi 0),(vb false),(vb false),(vb false),(vb false),(vi 2),(vb false),(vb false),(vb false),(vb false),(vi 1),(vb true),(vb false),(vb false),(vb false),(vi 0),(vb true),(vb false),(vb false),(vb false),(vi 1),(vb true),(vb true),(vb false),(vb false),(vi 1),(vb true),(vb true),(vb false),(vb false),(vi 1)] →
 ∃q1:Array Value,(q1.size=50∧Row w2 p1 q1.toList) ∧
 K q1 w2
theorem w_X3  (w : World) (K : (Array Value) → WP) (h : m_X3  w K) :
  Calls Tryz.prog 137 #[] w (fun e w'=>∃r1:Array Value,e=.returned (.agg r1)∧K r1 w'):=by
 unfold m_X3 at h
 refine cw (args:=[]) Tryz.func137 Tryz.ntmps137 (wpE_seq (rg (sn (O:=(.cells #[(vb false),(vb false),(vb false),(vb false),(vi 0),(vb false),(vb false),(vb false),(vb false),(vi 0),(vb false),(vb false),(vb false),(vb false),(vi 0),(vb false),(vb false),(vb false),(vb false),(vi 0),(vb false),(vb false),(vb false),(vb false),(vi 0),(vb false),(vb false),(vb false),(vb false),(vi 0),(vb false),(vb false),(vb false),(vb false),(vi 0),(vb false),(vb false),(vb false),(vb false),(vi 0),(vb false),(vb false),(vb false),(vb false),(vi 0),(vb false),(vb false),(vb false),(vb false),(vi 0)] 196)) (x_alloc (Tryz.zeroValue196 _) rfl) ?_)))
 intro p1 w1 hn2
 have h:=h p1 w1 hn2
 refine wpL_nil (th_n (wpE_seq (rg (q0 (.agg #[(vb true),(vb false),(vb false),(vb false),(vi 0)]) (q0 (.agg #[(vb false),(vb false),(vb true),(vb false),(vi 0)]) (q0 (.agg #[(vb false),(vb false),(vb false),(vb true),(vi 0)]) (q0 (.agg #[(vb false),(vb false),(vb false),(vb false),(vi 2)]) (q0 (.agg #[(vb false),(vb false),(vb false),(vb false),(vi 1)]) (q0 (.agg #[(vb true),(vb false),(vb false),(vb false),(vi 0)]) (q0 (.agg #[(vb true),(vb false),(vb false),(vb false),(vi 1)]) (q0 (.agg #[(vb true),(vb true),(vb false),(vb false),(vi 1)]) ?_)))))))))))
 refine q0 (.agg #[(vb true),(vb true),(vb false),(vb false),(vi 1)]) (q0 (.agg #[(vb false),(vb false),(vb false),(vb false),(vi 0),(vb true),(vb false),(vb false),(vb false),(vi 0),(vb false),(vb false),(vb true),(vb false),(vi 0),(vb false),(vb false),(vb false),(vb true),(vi 0),(vb false),(vb false),(vb false),(vb false),(vi 2),(vb false),(vb false),(vb false),(vb false),(vi 1),(vb true),(vb false),(vb false),(vb false),(vi 0),(vb true),(vb false),(vb false),(vb false),(vi 1),(vb true),(vb true),(vb false),(vb false),(vi 1),(vb true),(vb true),(vb false),(vb false),(vi 1)]) ?_)
 obtain ⟨hp1,h⟩:=h
 refine st_set (want0 rfl) (x_storeA (a:=p1) (vs:=[(vb false),(vb false),(vb false),(vb false),(vi 0),(vb true),(vb false),(vb false),(vb false),(vi 0),(vb false),(vb false),(vb true),(vb false),(vi 0),(vb false),(vb false),(vb false),(vb true),(vi 0),(vb false),(vb false),(vb false),(vb false),(vi 2),(vb false),(vb false),(vb false),(vb false),(vi 1),(vb true),(vb false),(vb false),(vb false),(vi 0),(vb true),(vb false),(vb false),(vb false),(vi 1),(vb true),(vb true),(vb false),(vb false),(vi 1),(vb true),(vb true),(vb false),(vb false),(vi 1)]) (by kernel_rfl) (by kernel_rfl) rfl (Tryz.sizeOf196 _) rfl hp1) ?_
 intro w2 hn1
 have h:=h w2 hn1
 refine wpL_nil (th_n (wpE_ret ?_))
 obtain ⟨q1,hv1,h⟩:=h
 refine resG (.inl rfl) (vs:=[(.agg q1)]) (v:=(.agg q1)) Tryz.results137 ⟨(RV.cellAr (A:=p1) (vs:=q1) (by kernel_rfl) (Tryz.isAgg196 _) (Tryz.sizeOf196 _) hv1),trivial⟩ (by kernel_rfl) ?_
 exact ⟨q1,rfl,h⟩
def m_Y3 (p1:Option Addr) (t1:Int) (w:World) (K:Int→WP):Prop :=
 Calls Tryz.prog 80 #[(vp p1),(vi t1)] w (fun e w1=>∃r1:Bool,e=.returned (vb r1)∧
  Br (!r1)
   (K 0 w1)
   (∃a1:Addr,p1=some a1 ∧
   ∃v1:Sl,w1.cell? a1=some v1.v ∧
   ∃a2:Addr,At v1 (q6.wrap (t1 - 1)) 9 a2 ∧
   ∃v2:Int,w1.cell? (a2.add 7)=some (vi v2) ∧
   K v2 w1))
theorem w_Y3 (p1 : Option Addr) (t1 : Int) (w : World) (K : Int → WP) (h : m_Y3 p1 t1 w K) :
  Calls Tryz.prog 143 #[(vp p1),(vi t1)] w (fun e w'=>∃r2:Int,e=.returned (vi r2)∧K r2 w'):=by
 unfold m_Y3 at h
 refine cw (args:=[(vp p1),(vi t1)]) Tryz.func143 Tryz.ntmps143 (wpE_seq (rg (q0 (vi 0) (wpL_nil (th_n (wpE_seq (wpE_seq (rg (q0 (vp p1) (q0 (vi t1) ?_))))))))))
 refine sc Tryz.call80 (h.mono ?_)
 rintro e w1 ⟨r1,rfl,h⟩
 refine ⟨_,rfl,?_⟩
 refine q0 (vb (!r1)) (wpL_nil (th_n ?_))
 refine wpE_cond (t:=(!r1)) (by kernel_rfl) (fun hc1=>?_) (fun hc1=>?_)
 ·have h:=h.1 hc1
  refine wpE_seq (rg (q0 (vi 0) (wpL_nil (th_n (wpE_ret (th_r (rs1 Tryz.results143 (v:=(vi 0)) ?_)))))))
  exact ⟨0,rfl,h⟩
 ·have h:=h.2 hc1
  refine wpE_skip (th_n (wpE_seq (rg (q0 (vp p1) ?_))))
  obtain ⟨a1,hp1,h⟩:=h
  refine q2 (vp (some a1)) (x_nilCheck (p:=p1) (by kernel_rfl) hp1) (q0 (vp (some a1)) ?_)
  obtain ⟨v1,hv3,h⟩:=h
  refine q2 v1.v (xl (Tryz.isAgg91 _) hv3) (q0 (vi t1) (q0 (vi (q6.wrap (t1 - 1))) ?_))
  obtain ⟨a2,hv2,h⟩:=h
  refine q2 (vp (some a2)) (xi (Tryz.runUnderlying91 _) (Tryz.sizeOf147 _) hv2) (q0 (vp (some (a2.add 7))) ?_)
  obtain ⟨v2,hv1,h⟩:=h
  refine q2 (vi v2) (xl (Tryz.isAgg3 _) hv1) (q0 (vi v2) (wpL_nil (th_n (wpE_ret (rs1 Tryz.results143 (v:=(vi v2)) ?_)))))
  exact ⟨v2,rfl,h⟩
def m_Z3 (p1:Option Addr) (t1:Int) (w:World) (K:Int→WP):Prop :=
 Calls Tryz.prog 80 #[(vp p1),(vi t1)] w (fun e w1=>∃r1:Bool,e=.returned (vb r1)∧
  Br (!r1)
   (K 0 w1)
   (∃a1:Addr,p1=some a1 ∧
   ∃v1:Sl,w1.cell? a1=some v1.v ∧
   ∃a2:Addr,At v1 (q6.wrap (t1 - 1)) 9 a2 ∧
   ∃v2:Int,w1.cell? (a2.add 8)=some (vi v2) ∧
   K v2 w1))
theorem w_Z3 (p1 : Option Addr) (t1 : Int) (w : World) (K : Int → WP) (h : m_Z3 p1 t1 w K) :
  Calls Tryz.prog 144 #[(vp p1),(vi t1)] w (fun e w'=>∃r2:Int,e=.returned (vi r2)∧K r2 w'):=by
 unfold m_Z3 at h
 refine cw (args:=[(vp p1),(vi t1)]) Tryz.func144 Tryz.ntmps144 (wpE_seq (rg (q0 (vi 0) (wpL_nil (th_n (wpE_seq (wpE_seq (rg (q0 (vp p1) (q0 (vi t1) ?_))))))))))
 refine sc Tryz.call80 (h.mono ?_)
 rintro e w1 ⟨r1,rfl,h⟩
 refine ⟨_,rfl,?_⟩
 refine q0 (vb (!r1)) (wpL_nil (th_n ?_))
 refine wpE_cond (t:=(!r1)) (by kernel_rfl) (fun hc1=>?_) (fun hc1=>?_)
 ·have h:=h.1 hc1
  refine wpE_seq (rg (q0 (vi 0) (wpL_nil (th_n (wpE_ret (th_r (rs1 Tryz.results144 (v:=(vi 0)) ?_)))))))
  exact ⟨0,rfl,h⟩
 ·have h:=h.2 hc1
  refine wpE_skip (th_n (wpE_seq (rg (q0 (vp p1) ?_))))
  obtain ⟨a1,hp1,h⟩:=h
  refine q2 (vp (some a1)) (x_nilCheck (p:=p1) (by kernel_rfl) hp1) (q0 (vp (some a1)) ?_)
  obtain ⟨v1,hv3,h⟩:=h
  refine q2 v1.v (xl (Tryz.isAgg91 _) hv3) (q0 (vi t1) (q0 (vi (q6.wrap (t1 - 1))) ?_))
  obtain ⟨a2,hv2,h⟩:=h
  refine q2 (vp (some a2)) (xi (Tryz.runUnderlying91 _) (Tryz.sizeOf147 _) hv2) (q0 (vp (some (a2.add 8))) ?_)
  obtain ⟨v2,hv1,h⟩:=h
  refine q2 (vi v2) (xl (Tryz.isAgg3 _) hv1) (q0 (vi v2) (wpL_nil (th_n (wpE_ret (rs1 Tryz.results144 (v:=(vi v2)) ?_)))))
  exact ⟨v2,rfl,h⟩
def m_A4 (n1:Int) (w:World) (K:Bool→WP):Prop :=
 Br (decide (n1≥0))
  (K (decide (n1<16)) w)
  (K false w)
theorem w_A4 (n1 : Int) (w : World) (K : Bool → WP) (h : m_A4 n1 w K) :
  Calls Tryz.prog 145 #[(vi n1)] w (fun e w'=>∃r1:Bool,e=.returned (vb r1)∧K r1 w'):=by
 unfold m_A4 at h
 refine cw (args:=[(vi n1)]) Tryz.func145 Tryz.ntmps145 (wpE_seq (rg (q0 (vb false) (wpL_nil (th_n (wpE_seq (rg (q0 (vi n1) (q0 (vb (decide (n1≥0))) (q0 (vb (decide (n1≥0))) ?_))))))))))
 rcases Bool.eq_false_or_eq_true (decide (n1≥0)) with hg1 | hg1
 ·have h:=h.1 hg1
  refine q1 (vi n1) (want1 rfl (yD 5 hg1)) (q1 (vb (decide (n1<16))) (want1 rfl (yD 5 hg1)) (q2 (vb (decide (n1<16))) (xT hg1) (q0 (vb (decide (n1<16))) (wpL_nil (th_n (wpE_ret (rs1 Tryz.results145 (v:=(vb (decide (n1<16)))) ?_)))))))
  exact ⟨(decide (n1<16)),rfl,h⟩
 ·have h:=h.2 hg1
  refine sk (yD 5 hg1) (sk (yD 5 hg1) (q2 (vb false) (xF hg1) (q0 (vb false) (wpL_nil (th_n (wpE_ret (rs1 Tryz.results145 (v:=(vb false)) ?_)))))))
  exact ⟨false,rfl,h⟩
def m_K1_l1 (t1:Int) (cap3 cap4:Addr) (r1:Sl) (x1:Int) (wl1:World) (Kc1:Int→WP) (K:WP):Prop :=
 Br (decide (x1<(r1.len:Int)))
  (∃a1:Addr,At r1 x1 1 a1 ∧
  ∃v6:Int,wl1.cell? a1=some (vi v6) ∧
  ∃v7:Value,wl1.cell? cap3=some v7 ∧
  ∃(f1:FuncId) (fs1 cs1:Array Value),v7=.func (.func f1) fs1 cs1 ∧
  (∀args w,(callFunc f1 args).run Tryz.prog w=.ok (.enter f1 args) w)∧Calls Tryz.prog f1 (fs1++#[(vi v6)]++cs1) wl1 (fun e w3=>e=.returned (.tuple #[])∧
   Kc1 (q6.wrap (x1+1)) w3))
  (∃v8:Sl,wl1.cell? cap4=some v8.v ∧
  ∀(p1:Addr) (w4:World),New wl1 (.cells #[(vi t1)] 30) p1 w4 →
  ∃s1:Sl,∃w5:World,(Builtin.append_ #[52,52] 52 #[v8.v,(Sl.mk (some p1) 1 1).v]).run Tryz.prog w4=.ok s1.v w5 ∧
  CanW w5 cap4∧∀w6:World,w6=w5.setCell cap4 s1.v →
  K w6)
def m_K1 (t1:Int) (cap1 cap2:Addr) (cap3 cap4:Addr) (w:World) (K:WP):Prop :=
 ∃v1:Option Nat,w.cell? cap1=some (.map v1) ∧
 ∃v2:Int,(Instr.lookup 152 (.map v1) (vi t1) false).run Tryz.prog w=.ok (vi v2) w ∧
 Br (decide (v2>0))
  (K w)
  (∃v3:Option Nat,w.cell? cap1=some (.map v3) ∧
  ∃v4:Int,(Instr.lookup 152 (.map v3) (vi t1) false).run Tryz.prog w=.ok (vi v4) w ∧
  ∃w1:World,(Instr.mapUpdate 152 (.map v3) (vi t1) (vi (q6.wrap (v4+1)))).run Tryz.prog w=.ok () w1 ∧
  ∃v5:Option Addr,w1.cell? cap2=some (vp v5) ∧
  Calls Tryz.prog 44 #[(vp v5),(vi t1)] w1 (fun e w2=>∃r1:Sl,e=.returned r1.v∧
   ∃(I1:Int→WP) (mu1:Int→World→Nat),I1 0 w2 ∧
    ∀(x1:Int) (wl1:World),I1 x1 wl1→m_K1_l1 t1 cap3 cap4 r1 x1 wl1 (fun y'0 w'=>I1 y'0 w'∧mu1 y'0 w'<mu1 x1 wl1) K))
theorem w_K1 (t1 : Int) (cap1 cap2 : Addr) (cap3 cap4 : Addr) (w : World) (K : WP) (h : m_K1 t1 cap1 cap2 cap3 cap4 w K) :
  Calls Tryz.prog 152 #[(vi t1),(vp (some cap1)),(vp (some cap2)),(vp (some cap3)),(vp (some cap4))] w (fun e w'=>e=.returned (.tuple #[])∧K  w'):=by
 unfold m_K1 at h
 refine cw (args:=[(vi t1),(vp (some cap1)),(vp (some cap2)),(vp (some cap3)),(vp (some cap4))]) Tryz.func152 Tryz.ntmps152 (wpE_seq (wpE_seq (rg ?_)))
 obtain ⟨v1,hv11,h⟩:=h
 refine q2 (.map v1) (xl (Tryz.isAgg152 _) hv11) (q0 (vi t1) ?_)
 obtain ⟨v2,hv10,h⟩:=h
 refine q2 (vi v2) (x_lookup (by kernel_rfl) (by kernel_rfl) hv10) (q0 (vb (decide (v2>0))) (wpL_nil (th_n ?_)))
 refine wpE_cond (t:=(decide (v2>0))) (by kernel_rfl) (fun hc1=>?_) (fun hc1=>?_)
 ·have h:=h.1 hc1
  refine wpE_ret (th_r (res0 (.inl rfl) Tryz.results152 ?_))
  exact ⟨rfl,h⟩
 ·have h:=h.2 hc1
  refine wpE_skip (th_n (wpE_seq (rg ?_)))
  obtain ⟨v3,hv9,h⟩:=h
  refine q2 (.map v3) (xl (Tryz.isAgg152 _) hv9) (q0 (vi t1) ?_)
  obtain ⟨v4,hv8,h⟩:=h
  refine q2 (vi v4) (x_lookup (by kernel_rfl) (by kernel_rfl) hv8) (q0 (vi (q6.wrap (v4+1))) ?_)
  obtain ⟨w1,hv7,h⟩:=h
  refine st_skip (want0 rfl) (x_mapUpdate (by kernel_rfl) (by kernel_rfl) (by kernel_rfl) hv7) (wpL_nil (th_n (wpE_seq (wpE_seq (rg ?_)))))
  obtain ⟨v5,hv6,h⟩:=h
  refine q2 (vp v5) (xl (Tryz.isAgg26 _) hv6) (q0 (vi t1) ?_)
  refine sc Tryz.call44 (h.mono ?_)
  rintro e w2 ⟨r1,rfl,h⟩
  refine ⟨_,rfl,?_⟩
  refine q0 (vi (r1.len:Int)) (q0 (vi 0) (wpL_nil (th_n (wpE_block ?_))))
  obtain ⟨I1,mu1,h0,hr⟩:=h
  refine wpE_loop (σ:=Int×World) (fun s ρ w=>w=s.2∧Has ρ [(0,(vi t1)),(3,(vp (some cap3))),(4,(vp (some cap4))),(18,r1.v),(19,(vi (r1.len:Int))),(20,(vi s.1))]∧I1 s.1 s.2) (fun s=>mu1 s.1 s.2) (0,w2) ⟨rfl,hm,h0⟩ ?_
  rintro ⟨x1,wl1⟩ ρ w ⟨hw,hH,hI⟩
  obtain rfl:wl1=w:=(show w=wl1 from hw).symm
  have hH:Has ρ [(0,(vi t1)),(3,(vp (some cap3))),(4,(vp (some cap4))),(18,r1.v),(19,(vi (r1.len:Int))),(20,(vi x1))]:=hH
  have h:=hr x1 wl1 hI
  unfold m_K1_l1 at h
  refine wpE_has hH ?_
  refine wpE_seq (rg (q0 (vb (decide (x1<(r1.len:Int)))) (wpL_nil (th_n (wpE_seq ?_)))))
  refine wpE_cond (t:=(decide (x1<(r1.len:Int)))) (by kernel_rfl) (fun hc2=>?_) (fun hc2=>?_)
  ·have h:=h.1 hc2
   refine wpE_skip (th_n (wpE_seq (wpE_block (wpE_seq (rg ?_)))))
   obtain ⟨a1,hv3,h⟩:=h
   refine q2 (vp (some a1)) (xi (Tryz.runUnderlying52 _) (Tryz.sizeOf30 _) hv3) ?_
   obtain ⟨v6,hv2,h⟩:=h
   refine q2 (vi v6) (xl (Tryz.isAgg30 _) hv2) (q0 (vi v6) (wpL_nil (th_n (rg ?_))))
   obtain ⟨v7,hv1,h⟩:=h
   refine q2 v7 (xl (Tryz.isAgg145 _) hv1) (q0 (vi v6) ?_)
   obtain ⟨f1,fs1,cs1,hp1,h⟩:=h
   obtain ⟨hf1,h⟩:=h
   refine st_call (want0 rfl) (x_callmE (fs:=fs1) (caps:=cs1) (args:=#[(vi v6)]) (by kernel_rfl) hp1 hf1 (by kernel_rfl) rfl) (h.mono ?_)
   rintro e w3 ⟨rfl,h⟩
   refine ⟨_,rfl,?_⟩
   refine wpL_nil (bl_n (th_n (rg (q0 (vi (q6.wrap (x1+1))) (q0 (vi (q6.wrap (x1+1))) (wpL_nil (th_n ?_)))))))
   exact ⟨((q6.wrap (x1+1)),w3),⟨rfl,hm,h.1⟩,h.2⟩
  ·have h:=h.2 hc2
   refine wpE_exit (th_x (th_x (bl_eq (th_n (rg ?_)))))
   obtain ⟨v8,hv5,h⟩:=h
   refine q2 v8.v (xl (Tryz.isAgg52 _) hv5) (q0 (vi t1) (st_new (O:=(.cells #[(vi t1)] 30)) (fun p=>(Sl.mk (some p) 1 1).v) (want0 rfl) (x_buildSlice (vs:=#[(0,(vi t1))]) (by kernel_rfl) (by kernel_rfl)) ?_))
   intro p1 w4 hn2
   have h:=h p1 w4 hn2
   obtain ⟨s1,w5,hv4,h⟩:=h
   refine st (v:=s1.v) (want0 rfl) (x_builtin (args:=#[v8.v,(Sl.mk (some p1) 1 1).v]) (by kernel_rfl) (fun _=>rfl) hv4) ?_
   obtain ⟨hp2,h⟩:=h
   refine st_set (want0 rfl) (x_store (a:=cap4) (v:=s1.v) (by kernel_rfl) (by kernel_rfl) rfl (Tryz.sizeOf52 _) hp2) ?_
   intro w6 hn1
   have h:=h w6 hn1
   refine wpL_nil (res0 (.inr rfl) Tryz.results152 ?_)
   exact ⟨rfl,h⟩
end Go.Proofs
end
section
open Go Go.SE
namespace Go.Proofs
attribute [local irreducible] Calls
theorem c_isName (n:Int) (w:World):Calls Tryz.prog 145 #[.int .i64 n] w (fun e w'=>∃r,e=.returned (.bool r)∧(r=Sp.isName n∧w'=w)):=by
 refine w_A4 n w (fun r w'=>r=Sp.isName n∧w'=w) ?_
 unfold m_A4
 refine ⟨fun h=>⟨?_,rfl⟩,fun h=>⟨?_,rfl⟩⟩
 ·have:0≤n:=by simpa using h
  simp [Sp.isName,this]
 ·have:¬ 0≤n:=by simpa using h
  simp [Sp.isName,this]
theorem c_fields (s1 s2 s3 s4 : Bool) (s5 k f t u : Int) (x : ByteArray) (a b : Int) (w : World) :
  Calls Tryz.prog 105 #[.agg #[.bool s1,.bool s2,.bool s3,.bool s4,.int .i64 s5],.agg #[.int .i64 k,.int .i64 f,.int .i64 t,.int .u64 u,.string x,.int .i64 a,.int .i64 b]] w
   (fun e w'=>∃r,e=.returned (.int .i64 r)∧(r=Sp.fieldsErr ⟨s1,s2,s3,s4,s5⟩ ⟨k,f,t,u,x,a,b⟩∧Pure w w')):=by
 refine w_W _ _ _ _ _ _ _ _ _ _ _ _ w (fun r w'=>r=Sp.fieldsErr ⟨s1,s2,s3,s4,s5⟩ ⟨k,f,t,u,x,a,b⟩∧Pure w w') ?_
 unfold m_W
 intro p1 w1 h1 p2 w2 h2
 have b1:=(Box.of_new h1).pure (Ext.new h2)
 have b2:=Box.of_new h2
 have E:Pure w w2:=(Ext.new h1).trans (Ext.new h2)
 have J:∀c:Bool,c=(s1 && !Sp.isName f)→m_W_j1 p1 p2 c w2 (fun r w'=>r=Sp.fieldsErr ⟨s1,s2,s3,s4,s5⟩ ⟨k,f,t,u,x,a,b⟩∧Pure w w'):=by
  intro c hc
  unfold m_W_j1
  refine ⟨fun h=>⟨?_,E⟩,fun h=>⟨_,b1.cell rfl,fun h'=>⟨_,b2.cell rfl,?_⟩,fun h'=>⟨_,b2.cell rfl,fun h3=>⟨?_,E⟩,fun h3=>⟨?_,E⟩⟩⟩⟩
  ·rw [hc] at h;simp [Sp.fieldsErr,h]
  ·refine (c_isName _ _).mono ?_
   rintro _ _ ⟨r,rfl,rfl,rfl⟩
   rw [hc] at h
   refine ⟨_,rfl,fun h2=>⟨?_,E⟩,fun h2=>⟨_,b2.cell rfl,_,b2.cell rfl,fun h3=>⟨?_,E⟩,fun h3=>⟨_,b2.cell rfl,fun h4=>⟨?_,E⟩,fun h4=>⟨?_,E⟩⟩⟩⟩
   ·simp [Sp.fieldsErr,h',h2]
   ·simp [Sp.fieldsErr,h',h3]
   ·simp only [Sp.fieldsErr,h,h',h3];simp at h2 h4;simp [h2];omega
   ·simp only [Sp.fieldsErr,h,h',h3];simp at h2 h4;simp [h2];omega
  ·rw [hc] at h;simp only [Sp.fieldsErr,h,h'];simp at h3;simp;omega
  ·rw [hc] at h;simp only [Sp.fieldsErr,h,h'];simp at h3;simp;omega
 refine ⟨_,b1.cell0,fun h=>⟨_,b2.cell rfl,?_⟩,fun h=>J _ (by simp [h])⟩
 refine (c_isName _ _).mono ?_
 rintro _ _ ⟨r,rfl,rfl,rfl⟩
 exact ⟨_,rfl,J _ (by simp [h])⟩
end Go.Proofs
end
section
open Go Go.SE
namespace Go.Proofs
attribute [local irreducible] Calls
def shapesT:Array Value:=#[.bool false,.bool false,.bool false,.bool false,.int .i64 0,.bool true,.bool false,.bool false,.bool false,.int .i64 0,.bool false,.bool false,.bool true,.bool false,.int .i64 0,.bool false,.bool false,.bool false,.bool true,.int .i64 0,.bool false,.bool false,.bool false,.bool false,.int .i64 2,.bool false,.bool false,.bool false,.bool false,.int .i64 1,.bool true,.bool false,.bool false,.bool false,.int .i64 0,.bool true,.bool false,.bool false,.bool false,.int .i64 1,.bool true,.bool true,.bool false,.bool false,.int .i64 1,.bool true,.bool true,.bool false,.bool false,.int .i64 1]
theorem c_shapes (w:World):Calls Tryz.prog 137 #[] w (fun e w'=>∃r,e=.returned (.agg r)∧(r=shapesT∧Pure w w')):=by
 refine w_X3 w (fun r w'=>r=shapesT∧Pure w w') ?_
 unfold m_X3
 intro p1 w1 h1
 have E1:Pure w w1:=Ext.new h1
 have hp:=New.own (Ext.refl w) h1
 have b1:=Box.of_newA h1
 clear h1
 refine bx 50 b1 (by kernel_rfl) (by kernel_rfl) (fun w' b E=>?_)
 refine ⟨shapesT,⟨by kernel_rfl,b.row_eq (by kernel_rfl)⟩,rfl,E1.own hp E⟩
theorem c_shapeOf (k:Int) (w:World):Calls Tryz.prog 91 #[.int .i64 k] w (fun e w'=>∃r1:Bool,∃r2:Bool,∃r3:Bool,∃r4:Bool,∃r5:Int,∃r:Bool,e=.returned (.tuple #[.agg #[.bool r1,.bool r2,.bool r3,.bool r4,.int .i64 r5],.bool r])∧(((⟨r1,r2,r3,r4,r5⟩:Sp.Shape)=Sp.shapeOf k∧r=Sp.isKind k)∧Pure w w')):=by
 refine w_T3 k w (fun r1 r2 r3 r4 r5 r w'=>((⟨r1,r2,r3,r4,r5⟩:Sp.Shape)=Sp.shapeOf k∧r=Sp.isKind k)∧Pure w w') ?_
 unfold m_T3
 intro p1 w1 h1
 have E1:Pure w w1:=Ext.new h1
 have b1:=Box.of_new h1
 have hp:=New.own (Ext.refl w) h1
 refine ⟨fun h=>bx 5 b1 rfl rfl (fun w' b E=>⟨_,_,_,_,_,b.row,⟨?_,?_⟩,E1.own hp E⟩),fun h=>⟨fun h2=>bx 5 b1 rfl rfl (fun w' b E=>⟨_,_,_,_,_,b.row,⟨?_,?_⟩,E1.own hp E⟩),fun h2=>?_⟩⟩
 ·have:k<1:=by simpa using h
  simp only [Sp.shapeOf,Sp.noShape];repeat rw [if_neg (by omega)]
 ·have:k<1:=by simpa using h
  simp [Sp.isKind];omega
 ·have:9<k:=by simpa using h2
  simp only [Sp.shapeOf,Sp.noShape];repeat rw [if_neg (by omega)]
 ·have:9<k:=by simpa using h2
  simp [Sp.isKind];omega
 ·have h3:¬ k<1:=by simpa using h
  have h4:¬ 9<k:=by simpa using h2
  refine (c_shapes _).mono ?_
  rintro _ w4 ⟨_,rfl,rfl,E4⟩
  refine ⟨_,rfl,?_⟩
  have b4:=b1.pure E4
  have E5:Pure w w4:=E1.trans E4
  have hk:k=1∨k=2∨k=3∨k=4∨k=5∨k=6∨k=7∨k=8∨k=9:=by omega
  rcases hk with rfl | rfl | rfl | rfl | rfl | rfl | rfl | rfl | rfl
  ·exact ⟨true,false,false,false,0,by kernel_rfl,bx 5 b4 rfl rfl (fun w' b E=>⟨_,_,_,_,_,b.row,⟨by decide,by decide⟩,E5.own hp E⟩)⟩
  ·exact ⟨false,false,true,false,0,by kernel_rfl,bx 5 b4 rfl rfl (fun w' b E=>⟨_,_,_,_,_,b.row,⟨by decide,by decide⟩,E5.own hp E⟩)⟩
  ·exact ⟨false,false,false,true,0,by kernel_rfl,bx 5 b4 rfl rfl (fun w' b E=>⟨_,_,_,_,_,b.row,⟨by decide,by decide⟩,E5.own hp E⟩)⟩
  ·exact ⟨false,false,false,false,2,by kernel_rfl,bx 5 b4 rfl rfl (fun w' b E=>⟨_,_,_,_,_,b.row,⟨by decide,by decide⟩,E5.own hp E⟩)⟩
  ·exact ⟨false,false,false,false,1,by kernel_rfl,bx 5 b4 rfl rfl (fun w' b E=>⟨_,_,_,_,_,b.row,⟨by decide,by decide⟩,E5.own hp E⟩)⟩
  ·exact ⟨true,false,false,false,0,by kernel_rfl,bx 5 b4 rfl rfl (fun w' b E=>⟨_,_,_,_,_,b.row,⟨by decide,by decide⟩,E5.own hp E⟩)⟩
  ·exact ⟨true,false,false,false,1,by kernel_rfl,bx 5 b4 rfl rfl (fun w' b E=>⟨_,_,_,_,_,b.row,⟨by decide,by decide⟩,E5.own hp E⟩)⟩
  ·exact ⟨true,true,false,false,1,by kernel_rfl,bx 5 b4 rfl rfl (fun w' b E=>⟨_,_,_,_,_,b.row,⟨by decide,by decide⟩,E5.own hp E⟩)⟩
  ·exact ⟨true,true,false,false,1,by kernel_rfl,bx 5 b4 rfl rfl (fun w' b E=>⟨_,_,_,_,_,b.row,⟨by decide,by decide⟩,E5.own hp E⟩)⟩
theorem c_plain (k f t u : Int) (x : ByteArray) (a b : Int) (w : World) :
  Calls Tryz.prog 104 #[.agg #[.int .i64 k,.int .i64 f,.int .i64 t,.int .u64 u,.string x,.int .i64 a,.int .i64 b]] w
   (fun e w'=>∃r1:Bool,∃r2:Bool,∃r3:Bool,∃r4:Bool,∃r5:Int,∃r:Int,e=.returned (.tuple #[.agg #[.bool r1,.bool r2,.bool r3,.bool r4,.int .i64 r5],.int .i64 r])∧(((⟨r1,r2,r3,r4,r5⟩:Sp.Shape)=Sp.shapeOf k∧r=Sp.plainErr ⟨k,f,t,u,x,a,b⟩)∧Pure w w')):=by
 suffices key:∀K:Bool→Bool→Bool→Bool→Int→Int→WP,(∀r1 r2 r3 r4 r5 r w',((⟨r1,r2,r3,r4,r5⟩:Sp.Shape)=Sp.shapeOf k∧r=Sp.plainErr ⟨k,f,t,u,x,a,b⟩)∧Pure w w'→K r1 r2 r3 r4 r5 r w')→m_E k f t u x a b w K from
  w_E _ _ _ _ _ _ _ w _ (key _ (fun _ _ _ _ _ _ _ h=>h))
 intro K hK
 unfold m_E
 intro p1 w1 h1 p2 w2 h2
 have a1:=(Box.of_new h1).pure (Ext.new h2)
 have a2:=Box.of_new h2
 have E2:Pure w w2:=(Ext.new h1).trans (Ext.new h2)
 have o2:=New.own (Ext.new h1:Pure w w1) h2
 have n12:p1.block≠p2.block:=New.ne h2 (Box.of_new h1).blk
 refine ⟨_,a1.cell0,?_⟩
 refine (c_shapeOf _ _).mono ?_
 rintro _ w3 ⟨s1,s2,s3,s4,s5,ok,rfl,⟨hs,hok⟩,E3⟩
 refine ⟨_,_,_,_,_,_,rfl,?_⟩
 intro p3 w4 h3
 have E4:Pure w w4:=(E2.trans E3).trans (Ext.new h3)
 have o3:=New.own (E2.trans E3) h3
 have n13:p1.block≠p3.block:=New.ne h3 (a1.pure E3).blk
 have n23:p2.block≠p3.block:=New.ne h3 (a2.pure E3).blk
 refine bx 5 (Box.of_new h3) rfl rfl (fun w5 b3 E=>?_)
 have b1:=((a1.pure E3).pure (Ext.new h3)).ext E n13
 have b2:=((a2.pure E3).pure (Ext.new h3)).ext E n23
 have E5:=E4.own o3 E
 clear E E4 E3 E2 a1 a2 h1 h2 h3
 have fin : ∀ v : Int, v = Sp.plainErr ⟨k, f, t, u, x, a, b⟩ → (∀ j, j < 5 → CanW w5 (p2.add j)) ∧ ∀ w', w' = storeRow w5 p2 [.bool s1, .bool s2, .bool s3, .bool s4, .int .i64 s5] →
   ∃q1:Bool,∃q2:Bool,∃q3:Bool,∃q4:Bool,∃q5:Int,Row w' p2 [.bool q1,.bool q2,.bool q3,.bool q4,.int .i64 q5]∧K q1 q2 q3 q4 q5 v w':=fun v hv =>
  bx 5 b2 rfl rfl (fun w' b E=>⟨_,_,_,_,_,b.row,hK _ _ _ _ _ _ _ ⟨⟨hs,hv⟩,E5.own o2 E⟩⟩)
 obtain ⟨e1,e2,e3,e4,e5⟩:s1=(Sp.shapeOf k).frm∧s2=(Sp.shapeOf k).to∧s3=(Sp.shapeOf k).num∧s4=(Sp.shapeOf k).text∧s5=(Sp.shapeOf k).kids:=by rw [← hs];simp
 have J3:∀c:Bool,c=(!ok || (!s1 && f != 0) || (!s2 && t != 0) || (!s3 && u != 0))→m_E_j3 p1 p2 p3 c w5 K:=by
  intro c hc
  unfold m_E_j3
  refine ⟨fun h=>⟨_,_,_,_,_,b3.row,fin _ ?_⟩,fun h=>⟨_,b3.cell rfl,fun h4=>⟨_,b1.cell rfl,fun h5=>⟨_,_,_,_,_,b3.row,fin _ ?_⟩,fun h5=>⟨_,_,_,_,_,b3.row,fin _ ?_⟩⟩,fun h4=>⟨_,_,_,_,_,b3.row,fin _ ?_⟩⟩⟩
  ·rw [h] at hc
   simp only [Sp.plainErr,← e1,← e2,← e3,← e4,← hok,← hc];simp
  ·rw [h] at hc
   simp only [Sp.plainErr,← e1,← e2,← e3,← e4,← hok,← hc];simp at h4 h5;simp [h4,h5]
  ·rw [h] at hc
   simp only [Sp.plainErr,← e1,← e2,← e3,← e4,← hok,← hc];simp at h4 h5;simp [h4,h5]
  ·rw [h] at hc
   simp only [Sp.plainErr,← e1,← e2,← e3,← e4,← hok,← hc];simp at h4;simp [h4]
 have J2:∀c:Bool,c=(!ok || (!s1 && f != 0) || (!s2 && t != 0))→m_E_j2 p1 p2 p3 c w5 K:=by
  intro c hc
  have J4:∀d:Bool,d=(!s3 && u != 0)→m_E_j4 p1 p2 p3 c d w5 K:=fun d hd=>⟨fun h=>J3 _ (by rw [← hc,h];rfl),fun h=>J3 _ (by rw [← hc,h];simpa using hd)⟩
  exact ⟨fun h=>J3 _ (by rw [← hc,h];rfl),fun h=>⟨_,b3.cell rfl,fun h4=>⟨_,b1.cell rfl,J4 _ (by rw [h4];rfl)⟩,fun h4=>J4 _ (by rw [h4];rfl)⟩⟩
 have J1:∀c:Bool,c=(!ok || (!s1 && f != 0))→m_E_j1 p1 p2 p3 c w5 K:=by
  intro c hc
  have J5:∀d:Bool,d=(!s2 && t != 0)→m_E_j5 p1 p2 p3 c d w5 K:=fun d hd=>⟨fun h=>J2 _ (by rw [← hc,h];rfl),fun h=>J2 _ (by rw [← hc,h];simpa using hd)⟩
  exact ⟨fun h=>J2 _ (by rw [← hc,h];rfl),fun h=>⟨_,b3.cell rfl,fun h4=>⟨_,b1.cell rfl,J5 _ (by rw [h4];rfl)⟩,fun h4=>J5 _ (by rw [h4];rfl)⟩⟩
 have J6:∀d:Bool,d=(!s1 && f != 0)→m_E_j6 p1 p2 ok p3 d w5 K:=fun d hd=>⟨fun h=>J1 _ (by rw [h];rfl),fun h=>J1 _ (by rw [h];simpa using hd)⟩
 exact ⟨fun h=>J1 _ (by rw [h];rfl),fun h=>⟨_,b3.cell0,fun h4=>⟨_,b1.cell rfl,J6 _ (by rw [h4];rfl)⟩,fun h4=>J6 _ (by rw [h4];rfl)⟩⟩
end Go.Proofs
end
section
open Go Go.SE
namespace Go.Proofs
attribute [local irreducible] Calls
def nrow (n:Sp.Node):List Value:=[.int .i64 n.kind,.int .i64 n.frm,.int .i64 n.to,.int .u64 n.num,.string n.text,.int .i64 n.a,.int .i64 n.b]
def erow (e:Sp.Ent):List Value:=nrow e.node++[.int .i64 e.size,.int .i64 e.depth]
def nkey (n:Sp.Node):Value:=.agg (nrow n).toArray
def pmap (L:Sp.Pool):List (Value×Value):=L.zipIdx.map fun p=>(nkey p.1.node,.int .i64 (p.2+1:Nat))
structure PoolS (w:World) (p:Addr) (L:Sp.Pool) (s:Sl) (m:Nat):Prop where
 box:Box w p [s.v,.map (some m)] 94
 rows:Rws w 147 9 s (L.map erow)
 map:CMap w m (pmap L)
 n1:m≠p.block
 n2:¬ s.blk p.block
 n3:¬ s.blk m
def PoolAt (w:World) (p:Addr) (L:Sp.Pool) (F:NP):Prop:=∃s m,PoolS w p L s m∧∀b,F b↔(b=p.block∨s.blk b∨b=m)
theorem PoolAt.ext {G:NP} {w w':World} {p:Addr} {L:Sp.Pool} {F:NP} (h:PoolAt w p L F) (hE:Ext G w w') (hd:∀b,F b→¬ G b):PoolAt w' p L F:=by
 obtain ⟨s,m,h,hF⟩:=h
 exact ⟨s,m,⟨h.box.ext hE (hd _ ((hF _).2 (.inl rfl))),h.rows.ext hE (fun b hb=>hd _ ((hF _).2 (.inr (.inl hb)))),h.map.ext hE (hd _ ((hF _).2 (.inr (.inr rfl)))),h.n1,h.n2,h.n3⟩,hF⟩
theorem PoolAt.pure {w w':World} {p:Addr} {L:Sp.Pool} {F:NP} (h:PoolAt w p L F) (hE:Pure w w'):PoolAt w' p L F:=h.ext hE (fun _ _ h=>h)
theorem PoolAt.lt {w:World} {p:Addr} {L:Sp.Pool} {F:NP} (h:PoolAt w p L F) {b:Nat} (hb:F b):b<w.heap.size:=by
 obtain ⟨s,m,h,hF⟩:=h
 rcases (hF b).1 hb with rfl | hb | rfl
 ·exact h.box.lt
 ·exact h.rows.lt hb
 ·exact h.map.lt
theorem i64 {n:Int} (h:-9223372036854775808≤n) (h':n≤9223372036854775807):IntKind.i64.wrap n=n:=IntWalk.i64_in n ⟨h,h'⟩
theorem c_in (p:Addr) (t:Int) (w:World) {L:Sp.Pool} {F:NP} (hP:PoolAt w p L F):Calls Tryz.prog 80 #[.pointer (some p),.int .i64 t] w (fun e w'=>∃r,e=.returned (.bool r)∧(r=Sp.inP L t∧w=w')):=by
 obtain ⟨s,m,h,_⟩:=hP
 refine w_J1 (some p) t w (fun r w'=>r=Sp.inP L t∧w=w') ?_
 unfold m_J1
 have hl:(s.len:Int)=L.length:=by rw [h.rows.len];simp
 refine Br.t rfl ⟨fun h1=>⟨p,rfl,s,h.box.cell0,?_,rfl⟩,fun h1=>⟨?_,rfl⟩⟩
 ·have:1≤t:=by simpa using h1
  simp [Sp.inP,hl,this]
 ·have:¬ 1≤t:=by simpa using h1
  simp [Sp.inP,this]
theorem PoolS.at {w:World} {p:Addr} {L:Sp.Pool} {s:Sl} {m:Nat} (h:PoolS w p L s m) {t:Int} (ht:Sp.inP L t=true) (hok:Sp.Ok L):∃a e,At s (IntKind.i64.wrap (t - 1)) 9 a∧Row w a (erow e)∧s.blk a.block∧Sp.get L t=some e:=by
 obtain ⟨h1,h2⟩:=Sp.inP_iff.1 ht
 obtain ⟨e,hg,_,hi,he⟩:=Sp.get_some ht
 have:=hok.few
 rw [i64 (by omega) (by omega)]
 obtain ⟨a,hat,hr,hb⟩:=h.rows.at (i:=t - 1) (by omega) (by simpa using hi)
 exact ⟨a,e,hat,(by rw [List.getElem_map,he] at hr;exact hr),hb,hg⟩
theorem c_Size (p:Addr) (t:Int) (w:World) {L:Sp.Pool} {F:NP} (hP:PoolAt w p L F) (hok:Sp.Ok L):Calls Tryz.prog 143 #[.pointer (some p),.int .i64 t] w (fun e w'=>∃r,e=.returned (.int .i64 r)∧(r=Sp.sizeOf L t∧w=w')):=by
 refine w_Y3 (some p) t w (fun r w'=>r=Sp.sizeOf L t∧w=w') ?_
 unfold m_Y3
 refine (c_in p t w hP).mono ?_
 rintro _ _ ⟨_,rfl,rfl,rfl⟩
 obtain ⟨s,m,h,_⟩:=hP
 refine ⟨_,rfl,fun h1=>⟨?_,rfl⟩,fun h1=>?_⟩
 ·simp [Sp.sizeOf,Sp.get_none (show Sp.inP L t=false by simpa using h1)]
 ·obtain ⟨a,e,hat,hr,_,hg⟩:=h.at (show Sp.inP L t=true by simpa using h1) hok
  exact ⟨p,rfl,s,h.box.cell0,a,hat,e.size,hr 7 (by simp [erow,nrow]),by simp [Sp.sizeOf,hg],rfl⟩
theorem c_Depth (p:Addr) (t:Int) (w:World) {L:Sp.Pool} {F:NP} (hP:PoolAt w p L F) (hok:Sp.Ok L):Calls Tryz.prog 144 #[.pointer (some p),.int .i64 t] w (fun e w'=>∃r,e=.returned (.int .i64 r)∧(r=Sp.depthOf L t∧w=w')):=by
 refine w_Z3 (some p) t w (fun r w'=>r=Sp.depthOf L t∧w=w') ?_
 unfold m_Z3
 refine (c_in p t w hP).mono ?_
 rintro _ _ ⟨_,rfl,rfl,rfl⟩
 obtain ⟨s,m,h,_⟩:=hP
 refine ⟨_,rfl,fun h1=>⟨?_,rfl⟩,fun h1=>?_⟩
 ·simp [Sp.depthOf,Sp.get_none (show Sp.inP L t=false by simpa using h1)]
 ·obtain ⟨a,e,hat,hr,_,hg⟩:=h.at (show Sp.inP L t=true by simpa using h1) hok
  exact ⟨p,rfl,s,h.box.cell0,a,hat,e.depth,hr 8 (by simp [erow,nrow]),by simp [Sp.depthOf,hg],rfl⟩
theorem c_Node (p : Addr) (t : Int) (w : World) {L : Sp.Pool} {F : NP} (hP : PoolAt w p L F) (hok : Sp.Ok L) : Calls Tryz.prog 43 #[.pointer (some p), .int .i64 t] w
  (fun e w'=>∃k:Int,∃f:Int,∃t':Int,∃u:Int,∃x:ByteArray,∃a:Int,∃b:Int,∃r:Bool,e=.returned (.tuple #[.agg #[.int .i64 k,.int .i64 f,.int .i64 t',.int .u64 u,.string x,.int .i64 a,.int .i64 b],.bool r])∧(((⟨k,f,t',u,x,a,b⟩:Sp.Node)=Sp.nodeOf L t∧r=Sp.inP L t)∧Pure w w')):=by
 refine w_Q3 (some p) t w (fun k f t' u x a b r w'=>((⟨k,f,t',u,x,a,b⟩:Sp.Node)=Sp.nodeOf L t∧r=Sp.inP L t)∧Pure w w') ?_
 unfold m_Q3
 intro p1 w1 h1
 have E1:Pure w w1:=Ext.new h1
 have b1:=Box.of_new h1
 have hp:=New.own (Ext.refl w) h1
 refine (c_in p t w1 (hP.pure E1)).mono ?_
 rintro _ _ ⟨_,rfl,rfl,rfl⟩
 obtain ⟨s,m,h,_⟩:=hP.pure E1
 refine ⟨_,rfl,fun h1=>bx 7 b1 rfl rfl (fun w' b E=>⟨_,_,_,_,_,_,_,b.row,⟨?_,?_⟩,E1.own hp E⟩),fun h1=>?_⟩
 ·simp [Sp.nodeOf,Sp.get_none (show Sp.inP L t=false by simpa using h1),Sp.noNode]
 ·symm;simpa using h1
 ·have ht:Sp.inP L t=true:=by simpa using h1
  obtain ⟨a,e,hat,hr,_,hg⟩:=h.at ht hok
  have hn:Row w1 a (nrow e.node):=fun i hi=>by
   have:=hr i (by simp [erow];omega)
   rw [this];unfold erow;rw [List.getElem?_append_left hi]
  exact ⟨p,rfl,s,h.box.cell0,a,hat,_,_,_,_,_,_,_,hn,bx 7 b1 rfl rfl (fun w' b E=>⟨_,_,_,_,_,_,_,b.row,⟨by simp [Sp.nodeOf,hg],ht.symm⟩,E1.own hp E⟩)⟩
end Go.Proofs
end
section
open Go Go.SE
namespace Go.Proofs
attribute [local irreducible] Calls CallsD
theorem c_put {S : NP} (f : Fld) (s : Sl) (bs : List UInt8) (n : Sp.Node) (na nb mb : Nat) (M : List (Int × Int)) (w0 : World) (hs : Lst S w0 1 s (byr bs)) (hz : s.a = none → s = Sl.nil) (hn : bs.length ≤ 10000000000)
  (h1:0≤n.frm∧n.frm<9223372036854775808) (h2:0≤n.to∧n.to<9223372036854775808) (h3:0≤n.num∧n.num<18446744073709551616) (h4:n.text.size≤10000000000) (hM:IMap (fun i:Int=>.int .i64 i) w0 mb M)
  (ha:f=.fst→SE.look M n.a=some (na:Int)∧na<9223372036854775808) (hb:f=.snd→SE.look M n.b=some (nb:Int)∧nb<9223372036854775808) :
  Calls Tryz.prog f.put #[s.v,.agg #[.int .i64 n.kind,.int .i64 n.frm,.int .i64 n.to,.int .u64 n.num,.string n.text,.int .i64 n.a,.int .i64 n.b],.map (some mb)] w0 (fun e w'=>∃r:Sl,e=.returned r.v∧RetO w0 5 1 (byr (bs++f.bytes n na nb)) r w'):=by
 cases f
 ·exact c_putFrom s bs _ _ _ _ _ _ _ _ w0 hs hz hn n.frm.toNat (by omega) (by omega)
 ·exact c_putTo s bs _ _ _ _ _ _ _ _ w0 hs hz hn n.to.toNat (by omega) (by omega)
 ·exact c_putNumF s bs _ _ _ _ _ _ _ _ w0 hs hz hn n.num.toNat (by omega) (by omega)
 ·exact c_putTextF s bs _ _ _ _ _ _ _ _ w0 hs hz hn h4
 ·exact c_putA s bs _ _ _ _ _ _ _ w0 hs hz hn mb M na hM (ha rfl).1 (ha rfl).2
 ·exact c_putB s bs _ _ _ _ _ _ _ w0 hs hz hn mb M nb hM (hb rfl).1 (hb rfl).2
def Fld.upd (bs:List UInt8) (r:Rd) (cells:List Value):Fld→List Value
 | .from_=>cells.set 7 (.int .u64 ((rNum bs r).1:Int))
 | .to_=>cells.set 8 (.int .u64 ((rNum bs r).1:Int))
 | .num=>cells.set 3 (.int .u64 ((rNum bs r).1:Int))
 | .text=>cells.set 4 (.string ⟨(rText bs 64 r).1.toArray⟩)
 | .fst=>(cells.set 9 (.int .u64 ((rNum bs r).1:Int))).set 11 (.int .i64 1)
 | .snd=>(cells.set 10 (.int .u64 ((rNum bs r).1:Int))).set 11 (.int .i64 2)
theorem c_get {S : NP} (f : Fld) (a q : Addr) (s : Sl) (bs : List UInt8) (r : Rd) (cells : List Value) (w0 : World) (h : RdS S w0 a s bs r) (hat : r.at_ ≤ bs.length) (hS : ∀ b, S b → b < w0.heap.size) (hq : Box w0 q cells 188) (hl : cells.length = 12) (haq : a.block ≠ q.block) (hSq : ∀ b, S b → b ≠ q.block) :
  Calls Tryz.prog f.get #[.pointer (some a),.pointer (some q)] w0 (fun e w'=>e=.returned (.tuple #[])∧RdS S w' a s bs (f.rd bs r)∧Box w' q (f.upd bs r cells) 188∧Ext (fun b=>b=a.block∨b=q.block) w0 w'):=by
 cases f
 ·exact c_getFrom a q s bs r cells w0 h hat hS hq hl haq hSq
 ·exact c_getTo a q s bs r cells w0 h hat hS hq hl haq hSq
 ·exact c_getNum a q s bs r cells w0 h hat hS hq hl haq hSq
 ·exact c_getText a q s bs r cells w0 h hat hS hq hl haq hSq
 ·exact c_getA a q s bs r cells w0 h hat hS hq hl haq hSq
 ·exact c_getB a q s bs r cells w0 h hat hS hq hl haq hSq
end Go.Proofs
end
section
open Go Go.SE
namespace Go.Proofs
attribute [local irreducible] Calls CallsD
structure Kinds (w:World) (m:Nat) (F:NP):Prop where
 ex:∃M:List (Int×Sl),IMap Sl.v w m M∧(∀p∈M,Lst F w 2 p.2 ((flds p.1).map Fld.row))∧M.map Prod.fst=[1,2,3,4,5,6,7,8,9]
 lt:∀b,F b→b<w.heap.size
 ne:∀b,F b→b≠m
theorem Kinds.ext {w w':World} {m:Nat} {F G:NP} (h:Kinds w m F) (E:Ext G w w') (hG:∀b,F b∨b=m→¬ G b):Kinds w' m F:=by
 obtain ⟨M,h1,h2,h3⟩:=h.ex
 exact ⟨⟨M,h1.ext E (hG m (.inr rfl)),fun p hp=>(h2 p hp).ext E (fun b hb=>hG b (.inl hb)),h3⟩,fun b hb=>Nat.lt_of_lt_of_le (h.lt b hb) E.size,h.ne⟩
theorem Kinds.pure {w w':World} {m:Nat} {F:NP} (h:Kinds w m F) (E:Pure w w'):Kinds w' m F:=h.ext E (fun _ _ h=>h)
theorem Kinds.mlt {w:World} {m:Nat} {F:NP} (h:Kinds w m F):m<w.heap.size:=by obtain ⟨M,h1,_⟩:=h.ex;exact h1.lt
theorem lst_lt {S:NP} {w:World} {s:Sl} {rs:List (List Value)} {sz:Nat} (h:Lst S w sz s rs) (hr:∀r∈rs,0<r.length):Lst (fun b=>S b∧b<w.heap.size) w sz s rs :=
 ⟨h.len,fun i hi=>let ⟨a,h1,h2,h3⟩:=h.at_ i hi;⟨a,h1,⟨h2,by
  have h0:=hr _ (List.getElem_mem hi)
  have:=h3 0 h0
  rw [List.getElem?_eq_getElem h0] at this
  have:=World.block_lt_of_cell? w (a.add 0) this
  rwa [add_block] at this⟩,h3⟩⟩
theorem c_kinds (w0:World):Calls Tryz.prog 75 #[] w0 (fun e w'=>∃x:Option Nat,e=.returned (.map x)∧∃m F,x=some m∧Kinds w' m F∧Pure w0 w'∧w0.heap.size≤m∧∀b,F b→w0.heap.size≤b):=by
 refine (c_parts w0).mono ?_
 rintro _ w' ⟨x,rfl,m,M,rfl,⟨Bs,h⟩,hM⟩
 refine ⟨_,rfl,m,fun b=>(w0.heap.size≤b∧b≠m)∧b<w'.heap.size,rfl,⟨⟨M,h.map,fun p hp=>lst_lt (h.lst p hp) (fun r hr=>by obtain ⟨f,_,rfl⟩:=List.mem_map.1 hr;simp [Fld.row]),hM⟩,fun b hb=>hb.2,fun b hb=>hb.1.2⟩,h.pure,h.own,fun b hb=>hb.1.1⟩
theorem Kinds.get {w : World} {m : Nat} {F : NP} (h : Kinds w m F) (k : Int) (h1 : 1 ≤ k) (h9 : k ≤ 9) (ok : Bool) :
  ∃s:Sl,(Instr.lookup 127 (.map (some m)) (.int .i64 k) ok).run Tryz.prog w=.ok (if ok then .tuple #[s.v,.bool true] else s.v) w∧Lst F w 2 s ((flds k).map Fld.row):=by
 obtain ⟨M,hM,hL,hk⟩:=h.ex
 rcases hM.get (P:=Tryz.prog) (T:=127) Tryz.underlying127 Tryz.underlying3 (Tryz.zeroValue170 _) k ok with ⟨hn,_⟩ | ⟨s,hs,hr⟩
 ·have:=look_none.1 hn
  rw [hk] at this
  simp at this;omega
 ·exact ⟨s,hr,hL _ (look_mem hs)⟩
theorem Kinds.none {w:World} {m:Nat} {F:NP} (h:Kinds w m F) (k:Int) (hk:¬ (1≤k∧k≤9)):(Instr.lookup 127 (.map (some m)) (.int .i64 k) true).run Tryz.prog w=.ok (.tuple #[Sl.nil.v,.bool false]) w:=by
 obtain ⟨M,hM,hL,hks⟩:=h.ex
 rcases hM.get (P:=Tryz.prog) (T:=127) Tryz.underlying127 Tryz.underlying3 (Tryz.zeroValue170 _) k true with ⟨_,hr⟩ | ⟨s,hs,_⟩
 ·exact hr
 ·have:k∈M.map Prod.fst:=List.mem_map.2 ⟨_,look_mem hs,rfl⟩
  rw [hks] at this
  simp at this;omega
def numFrom:Nat→List Int→List (Int×Int)
 | _,[]=>[]
 | i,t :: l=>(t,(i:Int)) :: numFrom (i+1) l
theorem numFrom_snoc (l:List Int) (t:Int):∀i,numFrom i (l++[t])=numFrom i l++[(t,((i+l.length:Nat):Int))]:=by
 induction l with
 | nil=>intro i;simp [numFrom]
 | cons x l ih=>intro i;simp only [List.cons_append,numFrom,ih,List.length_cons];congr 3;simp;omega
theorem numFrom_keys (l:List Int):∀i,(numFrom i l).map Prod.fst=l:=by
 induction l with
 | nil=>intro i;rfl
 | cons x l ih=>intro i;simp [numFrom,ih]
theorem numFrom_len (l:List Int):∀i,(numFrom i l).length=l.length:=by
 induction l with
 | nil=>intro i;rfl
 | cons x l ih=>intro i;simp [numFrom,ih]
theorem numFrom_look (l:List Int) (t:Int) (ht:t∈l):∀i,SE.look (numFrom i l) t=some ((i+posOf l t:Nat):Int):=by
 induction l with
 | nil=>cases ht
 | cons x l ih =>
  intro i
  rw [numFrom,SE.look]
  by_cases e:x=t
  ·subst e;rw [if_pos rfl];simp [posOf]
  ·rw [if_neg e]
   have ht':t∈l:=(List.mem_cons.1 ht).resolve_left (fun h=>e h.symm)
   rw [ih ht']
   have:posOf (x :: l) t=posOf l t+1:=by
    have e0:(x == t)=false:=by simpa using e
    simp [posOf,List.idxOf_cons,e0]
   rw [this];congr 2;omega
end Go.Proofs
end
section
open Go Go.SE
open Go.IntKind renaming i64 → q6
namespace Go.Proofs
set_option maxRecDepth 100000
set_option maxHeartbeats 4000000
attribute [local irreducible] wpL wpX opE wpE Calls
end Go.Proofs
end
section
open Go Go.SE
namespace Go.Proofs
attribute [local irreducible] Calls
def wayv (p:Int×Int):Value:=.agg #[.int .i64 p.1,.int .i64 p.2]
def wmap (S:List Sp.Way):List (Int×(Int×Int)):=S.map fun v=>(v.t,(v.rule,v.frm))
theorem wmap_keys (S:List Sp.Way):(wmap S).map Prod.fst=Sp.wkeys S:=by simp [wmap,Sp.wkeys]
theorem wmap_snoc (S:List Sp.Way) (v:Sp.Way):wmap (S++[v])=wmap S++[(v.t,(v.rule,v.frm))]:=by simp [wmap]
structure KnowS (w:World) (k p:Addr) (G:List Int) (S:List Sp.Way) (ks:List Int) (sg:Sl) (m:Nat) (sl:Sl):Prop where
 box:Box w k [.pointer (some p),sg.v,.map (some m),sl.v] 109
 giv:Rws w 30 1 sg (tmr G)
 seen:IMap wayv w m (wmap S)
 list:Rws w 30 1 sl (tmr ks)
 n1:m≠k.block
 n2:¬ sg.blk k.block
 n3:¬ sl.blk k.block
 n4:¬ sg.blk m
 n5:¬ sl.blk m
 n6:∀b,sg.blk b→¬ sl.blk b
def KF (k:Addr) (sg:Sl) (m:Nat) (sl:Sl) (b:Nat):Prop:=b=k.block∨sg.blk b∨b=m∨sl.blk b
def KnowAt (w:World) (k p:Addr) (G:List Int) (S:List Sp.Way) (F:NP):Prop:=∃sg m sl,KnowS w k p G S (Sp.wkeys S) sg m sl∧∀b,F b↔KF k sg m sl b
section
variable {w w':World} {k p:Addr} {G:List Int} {S:List Sp.Way} {ks:List Int} {sg sl:Sl} {m:Nat} {F:NP}
theorem KnowS.ext {X:NP} (h:KnowS w k p G S ks sg m sl) (hE:Ext X w w') (hd:∀b,KF k sg m sl b→¬ X b):KnowS w' k p G S ks sg m sl :=
 ⟨h.box.ext hE (hd _ (.inl rfl)),h.giv.ext hE (fun b hb=>hd _ (.inr (.inl hb))),h.seen.ext hE (hd _ (.inr (.inr (.inl rfl)))),h.list.ext hE (fun b hb=>hd _ (.inr (.inr (.inr hb)))),h.n1,h.n2,h.n3,h.n4,h.n5,h.n6⟩
theorem KnowS.pure (h:KnowS w k p G S ks sg m sl) (hE:Pure w w'):KnowS w' k p G S ks sg m sl:=h.ext hE (fun _ _ h=>h)
theorem KnowS.lt (h:KnowS w k p G S ks sg m sl) {b:Nat} (hb:KF k sg m sl b):b<w.heap.size:=by
 rcases hb with rfl | hb | rfl | hb
 ·exact h.box.lt
 ·exact h.giv.lt hb
 ·exact h.seen.lt
 ·exact h.list.lt hb
theorem KnowAt.ext {X:NP} (h:KnowAt w k p G S F) (hE:Ext X w w') (hd:∀b,F b→¬ X b):KnowAt w' k p G S F:=by
 obtain ⟨sg,m,sl,h,hF⟩:=h
 exact ⟨sg,m,sl,h.ext hE (fun b hb=>hd b ((hF b).2 hb)),hF⟩
theorem KnowAt.pure (h:KnowAt w k p G S F) (hE:Pure w w'):KnowAt w' k p G S F:=h.ext hE (fun _ _ h=>h)
theorem KnowAt.lt (h:KnowAt w k p G S F) {b:Nat} (hb:F b):b<w.heap.size:=by
 obtain ⟨sg,m,sl,h,hF⟩:=h;exact h.lt ((hF b).1 hb)
theorem KnowS.look (h:KnowS w k p G S ks sg m sl) (t:Int):∃r f:Int,(Instr.lookup 107 (.map (some m)) (.int .i64 t) true).run Tryz.prog w=.ok (.tuple #[.agg #[.int .i64 r,.int .i64 f],.bool (decide (t∈Sp.wkeys S))]) w∧(t∈Sp.wkeys S→SE.look (wmap S) t=some (r,f)):=by
 rcases h.seen.get (P:=Tryz.prog) (T:=107) Tryz.underlying107 Tryz.underlying30 (Tryz.zeroValue113 _) t true with ⟨h1,h2⟩ | ⟨⟨r,f⟩,h1,h2⟩
 ·have hn:t ∉ Sp.wkeys S:=by have:=look_none.1 h1;rwa [wmap_keys] at this
  exact ⟨0,0,by rw [decide_eq_false hn];exact h2,fun h=>absurd h hn⟩
 ·have hy : t ∈ Sp.wkeys S := by
   have:=look_mem h1
   rw [← wmap_keys];exact List.mem_map.2 ⟨_,this,rfl⟩
  exact ⟨r,f,by rw [decide_eq_true hy];exact h2,fun _=>h1⟩
theorem KnowS.put (h:KnowS w k p G S ks sg m sl) {v:Sp.Way} (hn:v.t ∉ Sp.wkeys S):∃w',(Instr.mapUpdate 107 (.map (some m)) (.int .i64 v.t) (.agg #[.int .i64 v.rule,.int .i64 v.frm])).run Tryz.prog w=.ok () w'∧KnowS w' k p G (S++[v]) ks sg m sl∧Ext (·=m) w w':=by
 obtain ⟨w',h1,h2,h3⟩:=h.seen.put (P:=Tryz.prog) (T:=107) (K:=30) Tryz.underlying107 Tryz.underlying30 (k:=v.t) (look_none.2 (by rw [wmap_keys];exact hn)) (v.rule,v.frm)
 exact ⟨w',h1,⟨h.box.ext h3 (fun e=>h.n1 e.symm),h.giv.ext h3 (fun b hb e=>h.n4 (e▸hb)),by rw [wmap_snoc];exact h2,h.list.ext h3 (fun b hb e=>h.n5 (e▸hb)),h.n1,h.n2,h.n3,h.n4,h.n5,h.n6⟩,h3⟩
theorem KnowS.app (h : KnowS w k p G S ks sg m sl) {t : Int} {q : Addr} {w1 : World} (hq : New w (.cells #[.int .i64 t] 30) q w1) (hn : ks.length ≤ 1000000) : ∃ s1 w2, (Builtin.append_ #[52, 52] 52 #[sl.v, (Sl.mk (some q) 1 1).v]).run Tryz.prog w1 = .ok s1.v w2 ∧ Ext sl.blk w1 w2 ∧ Box w2 k [.pointer (some p), sg.v, .map (some m), sl.v] 109 ∧
  KnowS (w2.setCell (k.add 3) s1.v) k p G S (ks++[t]) sg m s1∧Ext (KF k sg m sl) w (w2.setCell (k.add 3) s1.v)∧∀b,KF k sg m s1 b→KF k sg m sl b∨w.heap.size≤b:=by
 have E1:Pure w w1:=Ext.new hq
 have h1:=h.pure E1
 obtain ⟨s1,w2,hr,hR,hE,hb⟩:=h1.list.append (P:=Tryz.prog) (ty:=52) (c:=1) slT_tm (r:=[.int .i64 t]) (Box.of_new hq).row rfl rfl (by rw [tmr_len];omega) (by rw [tmr_len];simp [maxLen];omega)
 have hbx:=h1.box.ext hE h1.n3
 have hs1:∀b,s1.blk b→sl.blk b∨w.heap.size≤b:=fun b h=>(hb b h).imp_right (fun h=>by have:=E1.size;omega)
 have nk:¬ s1.blk k.block:=fun hh=>(hs1 _ hh).elim h.n3 (fun hh=>by have:=h.box.lt;omega)
 have nm:¬ s1.blk m:=fun hh=>(hs1 _ hh).elim h.n5 (fun hh=>by have:=h.seen.lt;omega)
 have E3:=Ext.setCell (w:=w2) (k.add 3) s1.v
 rw [add_block] at E3
 refine ⟨s1,w2,hr,hE,hbx,⟨hbx.set 3 s1.v,((h1.giv.ext hE h.n6).ext E3 (fun b hb e=>h.n2 (e▸hb))),((h1.seen.ext hE h.n5).ext E3 h.n1),by rw [show tmr (ks++[t])=tmr ks++[[.int .i64 t]] by simp [tmr]];exact hR.ext E3 (fun b hb e=>nk (e▸hb)),h.n1,h.n2,nk,h.n4,nm,fun b h1 h2=>(hs1 b h2).elim (h.n6 b h1) (fun hh=>by have:=h.giv.lt h1;omega)⟩,?_,?_⟩
 ·exact ((E1.pure (F:=KF k sg m sl)).trans (hE.mono (fun b _ hb=>.inr (.inr (.inr hb))))).trans (E3.mono (fun b _ hb=>.inl hb))
 ·rintro b (hb | hb | hb | hb)
  ·exact .inl (.inl hb)
  ·exact .inl (.inr (.inl hb))
  ·exact .inl (.inr (.inr (.inl hb)))
  ·exact (hs1 b hb).imp_left (fun h=>.inr (.inr (.inr h)))
end
end Go.Proofs
end
section
open Go Go.SE
namespace Go.Proofs
attribute [local irreducible] Calls
section
variable {w w':World} {k p:Addr} {G:List Int} {S:List Sp.Way} {F:NP}
theorem KnowAt.hst {w0:World} {H H':NP} (h:KnowAt w k p G S F) (hs:Hst w0 H w H' w') (hd:∀b,F b→¬ H b):KnowAt w' k p G S F∧∀b,F b→¬ H' b:=by
 have hd':=hs.disj (G:=F) (fun b hb=>⟨h.lt hb,hd b hb⟩)
 exact ⟨h.ext hs.ext hd',hd'⟩
end
structure SeesAt (w0:World) (H:NP) (w:World) (k p p1:Addr) (L:Sp.Pool) (G:List Int) (S:List Sp.Way) (F F0 FP:NP):Prop where
 know:KnowAt w k p G S F
 pool:PoolAt w p L FP
 cap:w.cell? p1=some (.pointer (some k))
 ext:Ext F0 w0 w
 own:∀b,F b→F0 b∨w0.heap.size≤b
 h1:∀b,F b→¬ H b
 h2:∀b,FP b→¬ H b
 h3:¬ H p1.block
 d1:¬ F p1.block
 d2:∀b,F b→¬ FP b
section
variable {w0 w w':World} {H H':NP} {k p p1:Addr} {L:Sp.Pool} {G:List Int} {S S':List Sp.Way} {F F' F0 FP:NP}
theorem SeesAt.pure (h:SeesAt w0 H w k p p1 L G S F F0 FP) (E:Pure w w'):SeesAt w0 H w' k p p1 L G S F F0 FP :=
 ⟨h.know.pure E,h.pool.pure E,E.cell h.cap (fun h=>h),h.ext.thenPure E,h.own,h.h1,h.h2,h.h3,h.d1,h.d2⟩
theorem SeesAt.hst (h:SeesAt w0 H w k p p1 L G S F F0 FP) (hs:Hst w0 H w H' w'):SeesAt w0 H' w' k p p1 L G S F F0 FP:=by
 have x1:=hs.disj (G:=F) (fun b hb=>⟨h.know.lt hb,h.h1 b hb⟩)
 have x2:=hs.disj (G:=FP) (fun b hb=>⟨h.pool.lt hb,h.h2 b hb⟩)
 have x3:=hs.disj (G:=(·=p1.block)) (fun b hb=>by subst hb;exact ⟨World.block_lt_of_cell? w p1 h.cap,h.h3⟩) _ rfl
 exact ⟨h.know.ext hs.ext x1,h.pool.ext hs.ext x2,hs.ext.cell h.cap x3,h.ext.trans' hs.ext (fun i hi hb=>by have:=hs.old i hb;omega),h.own,x1,x2,x3,h.d1,h.d2⟩
theorem SeesAt.step (h:SeesAt w0 H w k p p1 L G S F F0 FP) (hH:∀b,H b→b<w.heap.size) (hK:KnowAt w' k p G S' F') (E:Ext F w w') (hF:∀b,F' b→F b∨w.heap.size≤b):SeesAt w0 H w' k p p1 L G S' F' F0 FP:=by
 have hb:=h.ext.size
 refine ⟨hK,h.pool.ext E (fun b hb hf=>h.d2 b hf hb),E.cell h.cap h.d1,h.ext.trans' E (fun i hi hf=>(h.own i hf).elim id (fun hh=>by omega)),fun b hb=>?_,fun b hb hh=>?_,h.h2,h.h3,fun hh=>?_,fun b hb hh=>?_⟩
 ·rcases hF b hb with h1 | h1
  ·exact h.own b h1
  ·right;omega
 ·rcases hF b hb with h1 | h1
  ·exact h.h1 b h1 hh
  ·have:=hH b hh;omega
 ·rcases hF _ hh with h1 | h1
  ·exact h.d1 h1
  ·have:=World.block_lt_of_cell? w p1 h.cap;omega
 ·rcases hF b hb with h1 | h1
  ·exact h.d2 b h1 hh
  ·have:=h.pool.lt hh;omega
end
end Go.Proofs
end
section
open Go Go.SE
namespace Go.Proofs
attribute [local irreducible] Calls
theorem run_cut2 (p:Addr) (k:Int) (w:World) (hk:k=0∨k=1∨k=2):(Instr.sliceAt 52 (Sl.mk (some p) 2 2).v .none (some (.int .i64 k)) .none).run Tryz.prog w=.ok (Sl.mk (some p) k.toNat 2).v w:=by
 rcases hk with rfl | rfl | rfl <;> kernel_rfl
theorem c_check (p : Addr) (k f t u : Int) (x : ByteArray) (a b : Int) (w : World) {L : Sp.Pool} {F : NP} (hP : PoolAt w p L F) (hok : Sp.Ok L) :
  Calls Tryz.prog 102 #[.pointer (some p),.agg #[.int .i64 k,.int .i64 f,.int .i64 t,.int .u64 u,.string x,.int .i64 a,.int .i64 b]] w
   (fun e w'=>∃r1:Int,∃r2:Int,∃r3:Int,e=.returned (.tuple #[.int .i64 r1,.int .i64 r2,.int .i64 r3])∧((r1,r2,r3)=Sp.check L ⟨k,f,t,u,x,a,b⟩∧Pure w w')):=by
 suffices key:∀K:Int→Int→Int→WP,(∀r1 r2 r3 w',(r1,r2,r3)=Sp.check L ⟨k,f,t,u,x,a,b⟩∧Pure w w'→K r1 r2 r3 w')→m_F (some p) k f t u x a b w K from
  w_F _ _ _ _ _ _ _ _ w _ (key _ (fun _ _ _ _ h=>h))
 intro K hK
 unfold m_F
 intro p2 w1 h1
 have b1:=Box.of_new h1
 have E1:Pure w w1:=Ext.new h1
 refine ⟨_,_,_,_,_,_,_,b1.row,?_⟩
 refine (c_plain _ _ _ _ _ _ _ _).mono ?_
 rintro _ w2 ⟨s1,s2,s3,s4,s5,pe,rfl,⟨hs,hpe⟩,E2⟩
 refine ⟨_,_,_,_,_,_,rfl,?_⟩
 intro p3 w3 h3
 have b2:=(b1.pure E2).pure (Ext.new h3)
 have n23:p2.block≠p3.block:=New.ne h3 (b1.pure E2).blk
 have E3:Pure w w3:=(E1.trans E2).trans (Ext.new h3)
 have o3:=New.own (E1.trans E2) h3
 refine bx 5 (Box.of_new h3) rfl rfl (fun w4 b3 E=>?_)
 have b2:=b2.ext E n23
 have E4:Pure w w4:=E3.own o3 E
 clear E E3 E2 E1 b1 h1 h3
 have hsh:Sp.shapeOf k=⟨s1,s2,s3,s4,s5⟩:=hs.symm
 have hk5:s5=0∨s5=1∨s5=2:=by have:=Sp.kids_le k;rw [hsh] at this;exact this
 generalize hn:(⟨k,f,t,u,x,a,b⟩:Sp.Node)=n at *
 have hnk:n.kind=k:=by rw [← hn]
 have hna:n.a=a:=by rw [← hn]
 have hnb:n.b=b:=by rw [← hn]
 have J2:∀e2 w',Pure w4 w'→(e2≠0→Sp.check L n=(0,0,e2))→(e2=0→pe=0∧((decide (s5<1) && a != 0) || (decide (s5<2) && b != 0))=false∧Sp.fieldsErr ⟨s1,s2,s3,s4,s5⟩ n=0)→m_F_j2 (some p) p2 p3 e2 w' K:=by
  intro e2 w' E' hne heq
  have b2:=b2.pure E'
  have b3:=b3.pure E'
  have E5:=E4.trans E'
  have hP':=hP.pure E5
  unfold m_F_j2
  refine ⟨fun h=>hK _ _ _ _ ⟨(hne (by simpa using h)).symm,E5⟩,fun h=>⟨_,b2.cell rfl,_,b2.cell rfl,?_⟩⟩
  intro p4 w5 h5
  obtain ⟨hp0,hc0,hf0⟩:=heq (by simpa using h)
  have b4:=Box.of_new h5
  have E6:=E5.trans (Ext.new h5)
  have hP6:=hP.pure E6
  refine ⟨_,(b3.pure (Ext.new h5)).cell rfl,_,run_cut2 p4 s5 w5 hk5,?_⟩
  have hks:Sp.kidsOf n=[a,b].take s5.toNat:=by simp [Sp.kidsOf,hnk,hsh,hna,hnb]
  have hlen:(Sp.kidsOf n).length=s5.toNat:=by rw [hks];rcases hk5 with rfl | rfl | rfl <;> rfl
  have hget:∀j (hj:j<(Sp.kidsOf n).length),w5.cell? (p4.add (j*1))=some (.int .i64 (Sp.kidsOf n)[j]):=by
   intro j hj
   have hj2:j<s5.toNat:=by omega
   have:(Sp.kidsOf n)[j]=[a,b][j]'(by simp;omega):=by simp only [hks,List.getElem_take]
   rw [this,Nat.mul_one]
   refine b4.cell ?_
   have h2:j=0∨j=1:=by omega
   rcases h2 with rfl | rfl <;> rfl
  have hrest:Sp.check L n=if (Sp.kidsOf n).any (fun t=>!Sp.inP L t) then (0,0,51) else if 1+((Sp.kidsOf n).map (Sp.sizeOf L)).sum>4096∨(Sp.kidsOf n).foldl (fun d t=>max d (Sp.depthOf L t)) 0+1>64 then (0,0,52) else (1+((Sp.kidsOf n).map (Sp.sizeOf L)).sum,(Sp.kidsOf n).foldl (fun d t=>max d (Sp.depthOf L t)) 0+1,0):=by
   unfold Sp.check
   simp only [hnk,hsh,hna,hnb,← hpe,hp0,hc0,hf0]
   simp
  generalize hkk:Sp.kidsOf n=ks at *
  have hl2:ks.length≤2:=by omega
  have hsum:∀j,0≤((ks.take j).map (Sp.sizeOf L)).sum∧((ks.take j).map (Sp.sizeOf L)).sum≤4096*(ks.take j).length:=by
   intro j
   generalize ks.take j=l
   induction l with
   | nil=>simp
   | cons y l ih=>have:=hok.sizeOf y;simp only [List.map_cons,List.sum_cons,List.length_cons];omega
  have hdep:∀(l:List Int) (d:Int),0≤d→d≤64→0≤l.foldl (fun d t=>max d (Sp.depthOf L t)) d∧l.foldl (fun d t=>max d (Sp.depthOf L t)) d≤64:=by
   intro l
   induction l with
   | nil=>intro d h1 h2;exact ⟨h1,h2⟩
   | cons y l ih=>intro d h1 h2;have:=hok.depthOf y;exact ih (max d (Sp.depthOf L y)) (by omega) (by omega)
  refine ⟨fun sz d x w'=>∃j:Nat,x=j∧j≤ks.length∧sz=1+((ks.take j).map (Sp.sizeOf L)).sum∧d=(ks.take j).foldl (fun d t=>max d (Sp.depthOf L t)) 0∧(ks.take j).any (fun t=>!Sp.inP L t)=false∧w5=w',fun _ _ x _=>(2 - x).toNat,⟨0,rfl,Nat.zero_le _,by simp,by simp,by simp,rfl⟩,?_⟩
  rintro sz d _ _ ⟨j,rfl,hj,rfl,rfl,hin,rfl⟩
  unfold m_F_l3
  have hs1:=hsum j
  have hd1:=hdep (ks.take j) 0 (by omega) (by omega)
  have htl:(ks.take j).length≤2:=by rw [List.length_take];omega
  refine ⟨fun h=>?_,fun h=>?_⟩
  ·have hlt:j<ks.length:=by have h:=of_decide_eq_true h;simp only at h;omega
   refine ⟨p4.add (j*1),⟨by omega,of_decide_eq_true h,p4,rfl,by simp⟩,ks[j],hget j hlt,?_⟩
   have htk:ks.take (j+1)=ks.take j++[ks[j]]:=List.take_succ_eq_append_getElem hlt
   refine (c_in p _ w5 hP6).mono ?_
   rintro _ _ ⟨_,rfl,rfl,rfl⟩
   refine ⟨_,rfl,fun h=>?_,fun h=>?_⟩
   ·refine hK _ _ _ _ ⟨?_,E6⟩
    rw [hrest,if_pos]
    exact List.any_eq_true.2 ⟨ks[j],List.getElem_mem hlt,h⟩
   ·refine (c_Size p _ w5 hP6 hok).mono ?_
    rintro _ _ ⟨_,rfl,rfl,rfl⟩
    refine ⟨_,rfl,?_⟩
    refine (c_Depth p _ w5 hP6 hok).mono ?_
    rintro _ _ ⟨_,rfl,rfl,rfl⟩
    refine ⟨_,rfl,_,run_max_int2 _ _ _ _ _ _ _,⟨j+1,?_,hlt,?_,?_,?_,rfl⟩,?_⟩
    ·rw [i64 (by omega) (by omega)];omega
    ·have:=hok.sizeOf ks[j]
     rw [i64 (by omega) (by omega),htk,List.map_append,List.sum_append];simp only [List.map_cons,List.map_nil,List.sum_cons,List.sum_nil];omega
    ·rw [htk,List.foldl_append];simp only [List.foldl_cons,List.foldl_nil];split <;> omega
    ·rw [htk,List.any_append,hin];simpa using h
    ·show (2 - IntKind.i64.wrap ((j:Int)+1)).toNat<(2 - (j:Int)).toNat
     rw [i64 (by omega) (by omega)];omega
  ·have hge:j=ks.length:=by have h:=of_decide_eq_false h;simp only at h;omega
   subst hge
   rw [List.take_length] at hs1 hd1 hin ⊢
   have hlt:(ks.length:Int)≤2:=by omega
   refine ⟨fun h=>hK _ _ _ _ ⟨?_,E6⟩,fun h=>?_⟩
   ·rw [hrest,hin,if_neg (by simp),if_pos (.inl (by simpa using h))]
   ·rw [i64 (by omega) (by omega)]
    refine ⟨fun h'=>hK _ _ _ _ ⟨?_,E6⟩,fun h'=>hK _ _ _ _ ⟨?_,E6⟩⟩
    ·rw [hrest,hin,if_neg (by simp),if_pos (.inr (by simpa using h'))]
    ·rw [hrest,hin,if_neg (by simp),if_neg (by simp at h h';omega)]
 have J1:∀e1,(e1≠0→Sp.check L n=(0,0,e1))→(e1=0→pe=0∧((decide (s5<1) && a != 0) || (decide (s5<2) && b != 0))=false)→m_F_j1 (some p) p2 p3 e1 w4 K:=by
  intro e1 hne heq
  unfold m_F_j1
  refine ⟨fun h=>⟨_,_,_,_,_,b3.row,_,_,_,_,_,_,_,b2.row,?_⟩,fun h=>J2 _ _ (Ext.refl _) hne (fun e=>by rw [e] at h;cases h)⟩
  obtain ⟨hp0,hc0⟩:=heq (by simpa using h)
  refine (c_fields _ _ _ _ _ _ _ _ _ _ _ _ _).mono ?_
  rintro _ w9 ⟨_,rfl,rfl,E9⟩
  rw [hn]
  refine ⟨_,rfl,J2 _ _ E9 (fun hf=>?_) (fun hf=>⟨hp0,hc0,hf⟩)⟩
  unfold Sp.check
  simp only [hnk,hsh,hna,hnb,← hpe,hp0,hc0]
  simp [hf]
 have J53:pe=0→((decide (s5<1) && a != 0) || (decide (s5<2) && b != 0))=true→m_F_j1 (some p) p2 p3 53 w4 K:=fun hp0 hc=>J1 53 (fun _=>by
  unfold Sp.check
  simp only [hnk,hsh,hna,hnb,← hpe,hp0,hc]
  simp) (fun e=>by cases e)
 have Jpe:pe≠0→m_F_j1 (some p) p2 p3 pe w4 K:=fun hp=>J1 pe (fun _=>by
  unfold Sp.check
  simp only [← hpe]
  rw [if_pos hp]) (fun e=>absurd e hp)
 have J5:∀x2 x3,x2=(decide (s5<1) && a != 0)→x3=(decide (s5<2) && b != 0)→m_F_j5 (some p) p2 pe p3 x2 x3 w4 K:=by
  intro x2 x3 h2 h3
  unfold m_F_j5
  refine ⟨fun h=>⟨fun hx=>J53 (by simpa using h) (by rw [← h2,hx];rfl),fun hx=>⟨fun hy=>J53 (by simpa using h) (by rw [← h2,← h3,hy];simp),fun hy=>J1 pe (fun e=>absurd (by simpa using h) e) (fun e=>⟨e,by rw [← h2,← h3,hx,hy];rfl⟩)⟩⟩,fun h=>Jpe (by simpa using h)⟩
 have J4:∀x2,x2=(decide (s5<1) && a != 0)→m_F_j4 (some p) p2 pe p3 x2 w4 K:=by
  intro x2 h2
  unfold m_F_j4
  refine ⟨fun h=>⟨fun hx=>J53 (by simpa using h) (by rw [← h2,hx];rfl),fun hx=>⟨_,b3.cell rfl,fun h5=>⟨_,b2.cell rfl,J5 _ _ h2 (by rw [h5];rfl)⟩,fun h5=>J5 _ _ h2 (by rw [h5];rfl)⟩⟩,fun h=>Jpe (by simpa using h)⟩
 exact ⟨fun h=>⟨_,b3.cell rfl,fun h5=>⟨_,b2.cell rfl,J4 _ (by rw [h5];rfl)⟩,fun h5=>J4 _ (by rw [h5];rfl)⟩,fun h=>Jpe (by simpa using h)⟩
end Go.Proofs
end
section
open Go Go.SE
namespace Go.Proofs
attribute [local irreducible] Calls
def IsNodeKey (v:Value):Prop:=∃n,v=nkey n
theorem nkey_inj {n n':Sp.Node}:nkey n=nkey n'↔n=n':=by
 constructor
 ·intro h
  cases n;cases n'
  simp [nkey,nrow] at h
  simp [h]
 ·rintro rfl;rfl
theorem sameBits_node (n:Sp.Node):Instr.sameBits 10000 (nkey n) (nkey n)=true:=by
 have h:∀d,Instr.sameBits (d+1) (nkey n) (nkey n)=true:=fun d=>by
  have e:(n.text == n.text)=true:=by rw [beq_toListBytes];simp
  cases d <;> simp [Instr.sameBits,nkey,nrow,e]
 exact h 9999
theorem keyOK_node:KeyOK Tryz.prog 86 IsNodeKey:=by
 refine KeyOK.of_struct Tryz.underlying86 ?_ ?_ ?_
 ·rintro _ ⟨n,rfl⟩ em w;kernel_rfl
 ·rintro _ _ w ⟨n,rfl⟩ ⟨n',rfl⟩
  refine ⟨decide (n=n'),?_,by simp only [nkey_inj,decide_eq_true_eq];exact eq_comm⟩
  obtain ⟨k,f,t,u,x,a,b⟩:=n
  obtain ⟨k',f',t',u',x',a',b'⟩:=n'
  simp [Op.equal,Op.maxDepth,go_sem,streq,nkey,nrow]
  repeat' split
  all_goals simp_all
 ·rintro _ ⟨n,rfl⟩;exact sameBits_node n
theorem slT_entry:SlType Tryz.prog 91 147 9 (16*5):=by
 refine ⟨Tryz.underlying91,⟨Tryz.t147,_,by kernel_rfl,(by kernel_rfl:Tryz.t147.zero=some (.agg #[.int .i64 0,.int .i64 0,.int .i64 0,.int .u64 0,.string ⟨#[]⟩,.int .i64 0,.int .i64 0,.int .i64 0,.int .i64 0])),by kernel_rfl,by kernel_rfl,rfl⟩,by omega⟩
theorem pmap_get {L:Sp.Pool} {i:Nat} {n:Sp.Node} {v:Value} (h:(pmap L)[i]?=some (nkey n,v)):∃e,L[i]?=some e∧e.node=n∧v=.int .i64 (i+1:Nat):=by
 simp only [pmap,List.getElem?_map,List.getElem?_zipIdx,Option.map_map,Option.map_eq_some_iff] at h
 obtain ⟨e,he,h⟩:=h
 simp only [Function.comp,Prod.mk.injEq] at h
 exact ⟨e,he,nkey_inj.1 h.1,by rw [← h.2];simp⟩
theorem pmap_not {L:Sp.Pool} {n:Sp.Node} (h:∀q∈pmap L,q.1≠nkey n):∀e∈L,e.node≠n:=by
 intro e he hn
 obtain ⟨i,hi,rfl⟩:=List.mem_iff_getElem.1 he
 refine h (nkey L[i].node,.int .i64 (i+1:Nat)) ?_ (by rw [hn])
 exact List.mem_map.2 ⟨(L[i],i),by rw [List.mem_zipIdx_iff_getElem?];simp [hi],rfl⟩
theorem pmap_keys {L:Sp.Pool}:∀q∈pmap L,IsNodeKey q.1:=by
 intro q hq
 obtain ⟨x,_,rfl⟩:=List.mem_map.1 hq
 exact ⟨_,rfl⟩
theorem pmap_snoc (L:Sp.Pool) (e:Sp.Ent):pmap (L++[e])=pmap L++[(nkey e.node,.int .i64 (L.length+1:Nat))]:=by
 simp [pmap,List.zipIdx_append]
theorem find_of {L:Sp.Pool} (hok:Sp.Ok L) {i:Nat} {e:Sp.Ent} (h:L[i]?=some e):Sp.find L e.node=some i:=by
 obtain ⟨hi,rfl⟩:=List.getElem?_eq_some_iff.1 h
 unfold Sp.find
 rw [List.findIdx?_eq_some_iff_getElem]
 refine ⟨hi,by simp,fun j hj=>?_⟩
 have hnd:=hok.nodup
 simp only [decide_eq_true_eq]
 intro e
 exact List.pairwise_iff_getElem.1 hnd j i (by simp;omega) (by simpa using hi) hj (by simpa using e)
theorem find_none {L:Sp.Pool} {n:Sp.Node} (h:∀e∈L,e.node≠n):Sp.find L n=none:=by
 unfold Sp.find
 rw [List.findIdx?_eq_none_iff]
 intro e he;simpa using h e he
theorem c_Make (p : Addr) (k f t u : Int) (x : ByteArray) (a b : Int) (w : World) {L : Sp.Pool} {F : NP} (hP : PoolAt w p L F) (hok : Sp.Ok L) :
  Calls Tryz.prog 66 #[.pointer (some p),.agg #[.int .i64 k,.int .i64 f,.int .i64 t,.int .u64 u,.string x,.int .i64 a,.int .i64 b]] w
   (fun e w'=>∃r1:Int,∃r2:Int,e=.returned (.tuple #[.int .i64 r1,.int .i64 r2])∧((r1,r2)=((Sp.make L ⟨k,f,t,u,x,a,b⟩).1,(Sp.make L ⟨k,f,t,u,x,a,b⟩).2.1)∧∃F',PoolAt w' p (Sp.make L ⟨k,f,t,u,x,a,b⟩).2.2 F'∧Ext F w w'∧∀b,F' b→F b∨w.heap.size≤b)):=by
 suffices key:∀K:Int→Int→WP,(∀r1 r2 w',((r1,r2)=((Sp.make L ⟨k,f,t,u,x,a,b⟩).1,(Sp.make L ⟨k,f,t,u,x,a,b⟩).2.1)∧∃F',PoolAt w' p (Sp.make L ⟨k,f,t,u,x,a,b⟩).2.2 F'∧Ext F w w'∧∀b,F' b→F b∨w.heap.size≤b)→K r1 r2 w')→m_W1 (some p) k f t u x a b w K from
  w_W1 _ _ _ _ _ _ _ _ w _ (key _ (fun _ _ _ h=>h))
 intro K hK
 unfold m_W1
 intro p2 w1 h1
 have b1:=Box.of_new h1
 have E1:Pure w w1:=Ext.new h1
 have o2:¬ F p2.block:=fun h=>by have:=hP.lt h;have:=h1.at_size;omega
 refine Br.f rfl ⟨_,_,_,_,_,_,_,b1.row,?_⟩
 refine (c_check p k f t u x a b w1 (hP.pure E1) hok).mono ?_
 rintro _ w2 ⟨sz,dp,er,rfl,hck,E2⟩
 refine ⟨_,_,_,rfl,?_⟩
 generalize hn:(⟨k,f,t,u,x,a,b⟩:Sp.Node)=n at *
 have E3:Pure w w2:=E1.trans E2
 have same:∀w',Pure w w'→∃F',PoolAt w' p L F'∧Ext F w w'∧∀b,F' b→F b∨w.heap.size≤b:=fun w' E=>⟨F,hP.pure E,E.pure,fun _ h=>.inl h⟩
 refine ⟨fun h=>hK _ _ _ ?_,fun h=>?_⟩
 ·have he:er≠0:=by simpa using h
  have:Sp.make L n=(0,er,L):=by unfold Sp.make;simp [← hck,he]
  rw [this];exact ⟨rfl,same _ E3⟩
 ·have he:er=0:=by simpa using h
  subst he
  intro w3 hw3
  have E4:Pure w w3:=by rw [hw3];exact E3.trans (Ext.drew w2)
  have b3:=(b1.pure E2).pure (show Pure w2 w3 by rw [hw3];exact Ext.drew w2)
  clear hw3
  obtain ⟨s,m,hS,hF⟩:=hP.pure E4
  refine ⟨p,rfl,_,hS.box.cell (i:=1) rfl,_,_,_,_,_,_,_,b3.row,?_⟩
  have hkey:(Value.agg #[.int .i64 k,.int .i64 f,.int .i64 t,.int .u64 u,.string x,.int .i64 a,.int .i64 b])=nkey n:=by rw [← hn];rfl
  rw [hkey]
  rcases hS.map.lookup (P:=Tryz.prog) (T:=92) (E:=30) Tryz.underlying92 keyOK_node pmap_keys ⟨n,rfl⟩ (Tryz.zeroValue30 _) true with ⟨hnot,hrun⟩ | ⟨i,v,hi,hrun⟩
  ·refine ⟨_,_,hrun,Br.f rfl ⟨p,rfl,s,hS.box.cell0,?_⟩⟩
   have hno:=pmap_not hnot
   have hfn:=find_none hno
   have hlen:(s.len:Int)=L.length:=by rw [hS.rows.len];simp
   refine ⟨fun h=>hK _ _ _ ?_,fun h=>?_⟩
   ·have h2:65536≤L.length:=by have h:=of_decide_eq_true h;omega
    have:Sp.make L n=(0,6,L):=by unfold Sp.make;simp [← hck,hfn,h2]
    rw [this];exact ⟨rfl,same _ E4⟩
   ·have h2:¬ 65536≤L.length:=by have h:=of_decide_eq_false h;omega
    have hmk:Sp.make L n=((L.length:Int)+1,0,L++[⟨n,sz,dp⟩]):=by unfold Sp.make;simp [← hck,hfn,h2]
    refine ⟨fun w'=>w'.cell? p=some s.v∧Row w' p2 (nrow n),⟨?_,?_⟩,?_⟩
    ·exact Ext.cell (F:=None) (Ext.drew w3) hS.box.cell0 id
    ·rw [← hn];exact Ext.row (F:=None) (Ext.drew w3) b3.row id
    intro w4 hw4
    have E5:Pure w3 w4:=by rw [hw4];exact Ext.drew w3
    clear hw4
    have hS4:PoolS w4 p L s m:=by
     exact ⟨hS.box.pure E5,hS.rows.pure E5,hS.map.ext E5 id,hS.n1,hS.n2,hS.n3⟩
    have b4:=b3.pure E5
    refine ⟨p,rfl,s,fun w' h=>h.1,k,f,t,u,x,a,b,fun w' h=>by have:=h.2;rw [← hn] at this;exact this,?_⟩
    intro p3 w5 h5
    have E6:Pure w4 w5:=Ext.new h5
    have o3:w.heap.size≤p3.block:=New.own (E4.trans E5) h5
    have b5:=Box.of_new h5
    have hrows5:=hS4.rows.pure E6
    have hbox5:=hS4.box.pure E6
    have hmap5:CMap w5 m (pmap L):=hS4.map.ext E6 id
    have b45:=b4.pure E6
    have hrow:Row w5 p3 (erow ⟨n,sz,dp⟩):=by rw [← hn];exact b5.row
    refine ⟨⟨hbox5.cell0,by rw [← hn];exact b45.row⟩,?_⟩
    obtain ⟨s1,w6,hr6,hrows6,E7,hb6⟩:=hrows5.append (P:=Tryz.prog) (ty:=91) slT_entry (c:=1) hrow (by simp [erow,nrow]) (by simp [erow,nrow,oneCell]) (by simp;omega) (by simp [maxLen];omega)
    have nb:∀b,s.blk b→b≠p2.block:=fun b hb e=>o2 (by rw [← e];exact (hF b).2 (.inr (.inl hb)))
    have hbox6:=hbox5.ext E7 hS.n2
    have hmap6:=hmap5.ext E7 hS.n3
    have b6:=b45.ext E7 (fun h=>nb _ h rfl)
    refine ⟨s1,w6,hr6,⟨hbox6.cell0,by rw [← hn];exact b6.row⟩,p,rfl,hbox6.canW0 (by simp),?_⟩
    intro w7 hw7
    have hbox7:Box w7 p [s1.v,.map (some m)] 94:=by rw [hw7];exact hbox6.set0
    have E8:Ext (·=p.block) w6 w7:=by rw [hw7];exact Ext.setCell p _
    clear hw7
    have hs1p:¬ s1.blk p.block:=fun h=>(hb6 _ h).elim hS.n2 (fun h=>by have:=hbox5.lt;omega)
    have hs1m:¬ s1.blk m:=fun h=>(hb6 _ h).elim hS.n3 (fun h=>by have:=hmap5.lt;omega)
    have hrows7:=hrows6.ext E8 (fun b hb e=>hs1p (by rw [← e];exact hb))
    have hmap7:=hmap6.ext E8 hS.n1
    have b7:=b6.ext E8 (fun e=>o2 (by rw [e];exact (hF _).2 (.inl rfl)))
    have hl1:(s1.len:Int)=L.length+1:=by rw [hrows6.len];simp
    refine ⟨p,rfl,s1,hbox7.cell0,?_⟩
    refine ⟨fun w'=>w'.cell? (p.add 1)=some (.map (some m))∧Row w' p2 (nrow n),⟨?_,?_⟩,?_⟩
    ·exact Ext.cell (F:=None) (Ext.drew w7) (hbox7.cell (i:=1) rfl) id
    ·rw [← hn];exact Ext.row (F:=None) (Ext.drew w7) b7.row id
    intro w8 hw8
    have E9:Pure w7 w8:=by rw [hw8];exact Ext.drew w7
    clear hw8
    refine ⟨p,rfl,some m,fun w' h=>h.1,k,f,t,u,x,a,b,fun w' h=>by have:=h.2;rw [← hn] at this;exact this,?_⟩
    rw [hkey,hl1]
    have hmap8:CMap w8 m (pmap L):=hmap7.ext E9 id
    obtain ⟨w9,hr9,hmap9,E10⟩:=hmap8.insert (P:=Tryz.prog) (v:=.int .i64 ((L.length:Int)+1)) Tryz.underlying92 keyOK_node pmap_keys ⟨n,rfl⟩ hnot
    refine ⟨w9,hr9,hK _ _ _ ?_⟩
    rw [hmk]
    have hbox9:=(hbox7.pure E9).ext E10 (fun e=>hS.n1 e.symm)
    have hrows9:=(hrows7.pure E9).ext E10 (fun b hb e=>hs1m (by rw [← e];exact hb))
    refine ⟨rfl,fun b=>b=p.block∨s1.blk b∨b=m,⟨s1,m,⟨hbox9,?_,?_,hS.n1,hs1p,hs1m⟩,fun _=>Iff.rfl⟩,?_,?_⟩
    ·simpa using hrows9
    ·rw [pmap_snoc];simpa using hmap9
    ·have hF':∀b,F b↔(b=p.block∨s.blk b∨b=m):=hF
     have Ea:Ext F w w5:=((E4.trans E5).trans E6).pure
     have Eb:Ext F w w6:=Ea.trans' E7 (fun i _ h=>(hF' i).2 (.inr (.inl h)))
     have Ec:Ext F w w7:=Eb.trans' E8 (fun i _ h=>(hF' i).2 (.inl h))
     have Ed:Ext F w w8:=Ec.thenPure E9
     exact Ed.trans' E10 (fun i _ h=>(hF' i).2 (.inr (.inr h)))
    ·intro b hb
     rcases hb with rfl | hb | rfl
     ·exact .inl ((hF _).2 (.inl rfl))
     ·rcases hb6 b hb with h | h
      ·exact .inl ((hF _).2 (.inr (.inl h)))
      ·right;have:=((E4.trans E5).trans E6).size;omega
     ·exact .inl ((hF _).2 (.inr (.inr rfl)))
  ·obtain ⟨e,he,hen,rfl⟩:=pmap_get hi
   refine ⟨_,_,hrun,Br.t rfl (hK _ _ _ ?_)⟩
   have hfd:=find_of hok he
   rw [hen] at hfd
   have:Sp.make L n=((i:Int)+1,0,L):=by unfold Sp.make;simp [← hck,hfd]
   rw [this];exact ⟨by simp,same _ E4⟩
end Go.Proofs
end
section
open Go Go.SE
namespace Go.Sp
def madeS (L:Pool) (S:List Way) (t:Int):Int×Int×Bool×Bool :=
 if inP L t=false then (0,0,false,false)
 else if freeK (nodeOf L t).kind=true then (0,0,true,true)
 else if (nodeOf L t).kind=4 then ((nodeOf L t).a,(nodeOf L t).b,false,true)
 else if (nodeOf L t).kind=5 then ((nodeOf L t).a,0,false,true)
 else if (nodeOf L t).kind=6 then (0,0,false,false)
 else ((nodeOf L t).a,(keyOf L (whoOf (nodeOf L t))).1,false,(keyOf L (whoOf (nodeOf L t))).2 && decide ((keyOf L (whoOf (nodeOf L t))).1∈wkeys S))
end Go.Sp
namespace Go.Proofs
attribute [local irreducible] Calls
theorem c_Has (p : Addr) (n : Sp.Node) (w0 : World) {L : Sp.Pool} {F : NP} (hP : PoolAt w0 p L F) (hok : Sp.Ok L) :
  Calls Tryz.prog 129 #[.pointer (some p),nkey n] w0 (fun e w'=>∃r:Int,∃ok:Bool,e=.returned (.tuple #[.int .i64 r,.bool ok])∧((match Sp.find L n with | some i=>r=(i:Int)+1∧ok=true | none=>r=0∧ok=false)∧Pure w0 w')):=by
 obtain ⟨k,f,t,u,x,a,b⟩:=n
 generalize hn:(⟨k,f,t,u,x,a,b⟩:Sp.Node)=n
 have hkey:(Value.agg #[.int .i64 k,.int .i64 f,.int .i64 t,.int .u64 u,.string x,.int .i64 a,.int .i64 b])=nkey n:=by rw [← hn];rfl
 rw [← hkey]
 refine w_V3 _ _ _ _ _ _ _ _ w0 (fun r ok w'=>(match Sp.find L n with | some i=>r=(i:Int)+1∧ok=true | none=>r=0∧ok=false)∧Pure w0 w') ?_
 unfold m_V3
 intro p2 w1 h1
 have b1:=Box.of_new h1
 have E1:Pure w0 w1:=Ext.new h1
 refine Br.f rfl ?_
 rintro _ rfl
 have Ed:Pure w1 w1.drew:=Ext.drew w1
 have E2:=E1.trans Ed
 obtain ⟨s,m,hS,hF⟩:=hP.pure E2
 refine ⟨p,rfl,_,hS.box.cell (i:=1) rfl,_,_,_,_,_,_,_,(b1.pure Ed).row,?_⟩
 rw [hkey]
 rcases hS.map.lookup (P:=Tryz.prog) (T:=92) (E:=30) Tryz.underlying92 keyOK_node pmap_keys ⟨n,rfl⟩ (Tryz.zeroValue30 _) true with ⟨hnot,hrun⟩ | ⟨i,v,hi,hrun⟩
 ·refine ⟨_,_,hrun,?_,E2⟩
  rw [find_none (pmap_not hnot)];exact ⟨rfl,rfl⟩
 ·obtain ⟨e,he,hen,rfl⟩:=pmap_get hi
  refine ⟨_,_,hrun,?_,E2⟩
  rw [← hen,find_of hok he];exact ⟨by simp,rfl⟩
abbrev MakePost (p:Addr) (L:Sp.Pool) (F:NP) (w:World) (n:Sp.Node) (e:Ending) (w':World):Prop :=
 ∃r1:Int,∃r2:Int,e=.returned (.tuple #[.int .i64 r1,.int .i64 r2])∧((r1,r2)=((Sp.make L n).1,(Sp.make L n).2.1)∧∃F',PoolAt w' p (Sp.make L n).2.2 F'∧Ext F w w'∧∀b,F' b→F b∨w.heap.size≤b)
section
variable (p:Addr) (w0:World) {L:Sp.Pool} {F:NP} (hP:PoolAt w0 p L F) (hok:Sp.Ok L)
include hP hok
theorem c_Name (n:Int):Calls Tryz.prog 28 #[.pointer (some p),.int .i64 n] w0 (MakePost p L F w0 ⟨1,n,0,0,⟨#[]⟩,0,0⟩):=by
 refine w_O3 _ _ w0 (fun r1 r2 w'=>(r1,r2)=((Sp.make L ⟨1,n,0,0,⟨#[]⟩,0,0⟩).1,(Sp.make L ⟨1,n,0,0,⟨#[]⟩,0,0⟩).2.1)∧∃F',PoolAt w' p (Sp.make L ⟨1,n,0,0,⟨#[]⟩,0,0⟩).2.2 F'∧Ext F w0 w'∧∀b,F' b→F b∨w0.heap.size≤b) ?_
 unfold m_O3
 refine (c_Make p _ _ _ _ _ _ _ w0 hP hok).mono ?_
 rintro _ w1 ⟨r1,r2,rfl,h⟩
 exact ⟨r1,r2,rfl,h⟩
theorem c_Pair (a b:Int):Calls Tryz.prog 29 #[.pointer (some p),.int .i64 a,.int .i64 b] w0 (MakePost p L F w0 ⟨4,0,0,0,⟨#[]⟩,a,b⟩):=by
 refine w_P3 _ _ _ w0 (fun r1 r2 w'=>(r1,r2)=((Sp.make L ⟨4,0,0,0,⟨#[]⟩,a,b⟩).1,(Sp.make L ⟨4,0,0,0,⟨#[]⟩,a,b⟩).2.1)∧∃F',PoolAt w' p (Sp.make L ⟨4,0,0,0,⟨#[]⟩,a,b⟩).2.2 F'∧Ext F w0 w'∧∀b,F' b→F b∨w0.heap.size≤b) ?_
 unfold m_P3
 refine (c_Make p _ _ _ _ _ _ _ w0 hP hok).mono ?_
 rintro _ w1 ⟨r1,r2,rfl,h⟩
 exact ⟨r1,r2,rfl,h⟩
end
end Go.Proofs
end
section
open Go Go.SE
namespace Go.Proofs
attribute [local irreducible] Calls
theorem kind_cases (k:Int):(k=1∨k=2∨k=3∨k=4∨k=5∨k=6∨k=7∨k=8∨k=9)∨(Sp.shapeOf k=Sp.noShape∧Sp.isKind k=false∧∀m:Int,1≤m→m≤9→(k == m)=false):=by
 by_cases h:k=1∨k=2∨k=3∨k=4∨k=5∨k=6∨k=7∨k=8∨k=9
 ·exact .inl h
 ·right
  refine ⟨?_,?_,fun m h1 h2=>?_⟩
  ·unfold Sp.shapeOf;repeat rw [if_neg (by omega)]
  ·unfold Sp.isKind;apply Bool.eq_false_iff.2;intro h3;simp at h3;omega
  ·rw [beq_eq_false_iff_ne];omega
theorem ref05_kids (k:Int):s_A k=(Sp.shapeOf k).kids:=by
 rcases kind_cases k with h | ⟨h,_,hm⟩
 ·rcases h with rfl | rfl | rfl | rfl | rfl | rfl | rfl | rfl | rfl <;> decide
 ·rw [h];unfold s_A;simp [hm,Sp.noShape]
theorem ref05_named (k:Int):s_C k=(Sp.shapeOf k).frm:=by
 rcases kind_cases k with h | ⟨h,_,hm⟩
 ·rcases h with rfl | rfl | rfl | rfl | rfl | rfl | rfl | rfl | rfl <;> decide
 ·rw [h];unfold s_C;simp [hm,Sp.noShape]
theorem shape_two (k:Int):((k == 8) || (k == 9))=(Sp.shapeOf k).to:=by
 rcases kind_cases k with h | ⟨h,_,hm⟩
 ·rcases h with rfl | rfl | rfl | rfl | rfl | rfl | rfl | rfl | rfl <;> decide
 ·rw [h];simp [hm,Sp.noShape]
theorem shape_num (k:Int):(k == 2)=(Sp.shapeOf k).num:=by
 rcases kind_cases k with h | ⟨h,_,hm⟩
 ·rcases h with rfl | rfl | rfl | rfl | rfl | rfl | rfl | rfl | rfl <;> decide
 ·rw [h];simp [hm,Sp.noShape]
theorem shape_text (k:Int):(k == 3)=(Sp.shapeOf k).text:=by
 rcases kind_cases k with h | ⟨h,_,hm⟩
 ·rcases h with rfl | rfl | rfl | rfl | rfl | rfl | rfl | rfl | rfl <;> decide
 ·rw [h];simp [hm,Sp.noShape]
theorem shape_kind (k:Int):(!(decide (k<1) || decide (k>9)))=Sp.isKind k:=by
 unfold Sp.isKind
 by_cases h1:k<1 <;> by_cases h2:k>9 <;> simp [h1,h2] <;> omega
theorem ite53 (q:Bool):decide ((if q=true then (53:Int) else 0)=0)=!q:=by cases q <;> rfl
def Sp.nodeErr (n:Sp.Node):Int :=
 if Sp.plainErr n≠0 then 53 else if (decide ((Sp.shapeOf n.kind).kids<1) && n.a != 0) || (decide ((Sp.shapeOf n.kind).kids<2) && n.b != 0) then 53 else Sp.fieldsErr (Sp.shapeOf n.kind) n
theorem ref05_plain (n:Sp.Node):s_V n.kind n.frm n.to n.num n.text n.a n.b=(decide (Sp.plainErr n=0) && !((decide ((Sp.shapeOf n.kind).kids<1) && n.a != 0) || (decide ((Sp.shapeOf n.kind).kids<2) && n.b != 0))):=by
 obtain ⟨k,f,t,u,x,a,b⟩:=n
 unfold s_V Sp.plainErr
 simp only [ref05_kids,ref05_named,shape_two k,shape_num k,shape_text k,shape_kind]
 have hk:=Sp.kids_le k
 generalize Sp.shapeOf k=s at *
 obtain ⟨s1,s2,s3,s4,s5⟩:=s
 generalize Sp.isKind k=i
 have e1:decide (s5≥1)=!decide (s5<1):=by by_cases h:s5<1 <;> simp [h] <;> omega
 have e2:(s5 == 2)=!decide (s5<2):=by
  by_cases h:s5<2
  ·simp [h];omega
  ·simp [h];simp at hk;omega
 simp only [e1,e2,bne,ite53]
 generalize (f == 0)=c1;generalize (t == 0)=c2;generalize (u == 0)=c3;generalize decide (x=⟨#[]⟩)=c4;generalize (a == 0)=c5;generalize (b == 0)=c6;generalize decide (s5<1)=c7;generalize decide (s5<2)=c8
 cases i <;> cases s1 <;> cases s2 <;> cases s3 <;> cases s4 <;> cases c1 <;> cases c2 <;> cases c3 <;> cases c4 <;> simp
theorem ref05_shape (n:Sp.Node):s_H n.kind n.frm n.to n.num n.text n.a n.b=Sp.nodeErr n:=by
 unfold s_H Sp.nodeErr
 rw [ref05_plain,ref05_named,shape_two]
 by_cases h1:Sp.plainErr n=0
 ·by_cases h2:((decide ((Sp.shapeOf n.kind).kids<1) && n.a != 0) || (decide ((Sp.shapeOf n.kind).kids<2) && n.b != 0))=true
  ·rw [h2];simp [h1]
  ·have h2:((decide ((Sp.shapeOf n.kind).kids<1) && n.a != 0) || (decide ((Sp.shapeOf n.kind).kids<2) && n.b != 0))=false:=by simpa using h2
   rw [h2]
   simp only [h1,ne_eq,not_true_eq_false,if_false,Bool.false_eq_true,decide_true,Bool.not_false,Bool.and_true,Bool.not_true,cond_false]
   unfold Sp.fieldsErr Sp.isName
   have e1:(decide (n.frm≥0) && decide (n.frm<16))=(decide (0≤n.frm) && decide (n.frm<16)):=rfl
   have e2:(decide (n.to≥0) && decide (n.to<16))=(decide (0≤n.to) && decide (n.to<16)):=rfl
   have e3:(n.frm == n.to)=(n.to == n.frm):=by rw [Bool.eq_iff_iff];simp only [beq_iff_eq];exact eq_comm
   rw [e1,e2,e3]
   have e4:decide (((n.text.size:Int))>64)=decide (n.text.size>64):=decide_eq_decide.2 (by omega)
   rw [e4]
   generalize ((Sp.shapeOf n.kind).frm && !(decide (0≤n.frm) && decide (n.frm<16)) || (Sp.shapeOf n.kind).to && (!(decide (0≤n.to) && decide (n.to<16)) || n.to == n.frm))=c
   cases c
   ·by_cases h:n.text.size>64 <;> simp [h]
   ·rfl
 ·simp [h1]
end Go.Proofs
end
section
open Go Go.SE
namespace Go.Proofs
attribute [local irreducible] Calls
theorem slT_node:SlType Tryz.prog 42 86 7 64:=by
 refine ⟨Tryz.underlying42,⟨Tryz.t86,_,by kernel_rfl,(by kernel_rfl:Tryz.t86.zero=some (.agg #[.int .i64 0,.int .i64 0,.int .i64 0,.int .u64 0,.string ⟨#[]⟩,.int .i64 0,.int .i64 0])),by kernel_rfl,by kernel_rfl,rfl⟩,by omega⟩
theorem slT_int:SlType Tryz.prog 43 3 1 8:=by
 refine ⟨Tryz.underlying43,⟨Tryz.t3,_,by kernel_rfl,(by kernel_rfl:Tryz.t3.zero=some (.int .i64 0)),by kernel_rfl,by kernel_rfl,rfl⟩,by omega⟩
def rnode (e:Sp.Ent):List Value:=nrow e.node
def rsize (e:Sp.Ent):List Value:=[.int .i64 e.size]
def rdepth (e:Sp.Ent):List Value:=[.int .i64 e.depth]
structure PoolRS (w:World) (p:Addr) (L:Sp.Pool) (s1 s2 s3:Sl):Prop where
 box:Box w p [s1.v,s2.v,s3.v] 45
 r1:Rws w 86 7 s1 (L.map rnode)
 r2:Rws w 3 1 s2 (L.map rsize)
 r3:Rws w 3 1 s3 (L.map rdepth)
 n1:¬ s1.blk p.block
 n2:¬ s2.blk p.block
 n3:¬ s3.blk p.block
 d12:∀b,s1.blk b→¬ s2.blk b
 d13:∀b,s1.blk b→¬ s3.blk b
 d23:∀b,s2.blk b→¬ s3.blk b
def PoolR (w:World) (p:Addr) (L:Sp.Pool) (F:NP):Prop:=∃s1 s2 s3,PoolRS w p L s1 s2 s3∧∀b,F b↔(b=p.block∨s1.blk b∨s2.blk b∨s3.blk b)
theorem PoolR.ext {G:NP} {w w':World} {p:Addr} {L:Sp.Pool} {F:NP} (h:PoolR w p L F) (hE:Ext G w w') (hd:∀b,F b→¬ G b):PoolR w' p L F:=by
 obtain ⟨s1,s2,s3,h,hF⟩:=h
 exact ⟨s1,s2,s3,⟨h.box.ext hE (hd _ ((hF _).2 (.inl rfl))),h.r1.ext hE (fun b hb=>hd _ ((hF _).2 (.inr (.inl hb)))),h.r2.ext hE (fun b hb=>hd _ ((hF _).2 (.inr (.inr (.inl hb))))),h.r3.ext hE (fun b hb=>hd _ ((hF _).2 (.inr (.inr (.inr hb))))),h.n1,h.n2,h.n3,h.d12,h.d13,h.d23⟩,hF⟩
theorem PoolR.pure {w w':World} {p:Addr} {L:Sp.Pool} {F:NP} (h:PoolR w p L F) (hE:Pure w w'):PoolR w' p L F:=h.ext hE (fun _ _ h=>h)
theorem PoolR.lt {w:World} {p:Addr} {L:Sp.Pool} {F:NP} (h:PoolR w p L F) {b:Nat} (hb:F b):b<w.heap.size:=by
 obtain ⟨s1,s2,s3,h,hF⟩:=h
 rcases (hF b).1 hb with rfl | hb | hb | hb
 ·exact h.box.lt
 ·exact h.r1.lt hb
 ·exact h.r2.lt hb
 ·exact h.r3.lt hb
theorem c_ref05_New (w0:World):Calls Tryz.prog 31 #[] w0 (fun e w'=>∃r:Option Addr,e=.returned (.pointer r)∧∃p F,r=some p∧PoolR w' p [] F∧Pure w0 w'∧∀b,F b→w0.heap.size≤b):=by
 refine w_A2 w0 (fun r w'=>∃p F,r=some p∧PoolR w' p [] F∧Pure w0 w'∧∀b,F b→w0.heap.size≤b) ?_
 unfold m_A2
 have hnil:∀b,¬ Sl.nil.blk b:=fun b hb=>by obtain ⟨a,h,_⟩:=hb;cases h
 intro p w1 h1
 have b1:=Box.of_new h1
 have E1:Pure w0 w1:=Ext.new h1
 first
  | exact ⟨p,(·=p.block),rfl,⟨Sl.nil,Sl.nil,Sl.nil,⟨b1,Rws.nil _ _ _,Rws.nil _ _ _,Rws.nil _ _ _,hnil _,hnil _,hnil _,fun b h=>(hnil b h).elim,fun b h=>(hnil b h).elim,fun b h=>(hnil b h).elim⟩,fun b=>by simp [hnil]⟩,E1,fun b hb=>by subst hb;exact New.own (Ext.refl w0) h1⟩
  | skip
theorem c_ref05_In (p:Addr) (t:Int) (w0:World) {L:Sp.Pool} {F:NP} (hP:PoolR w0 p L F):Calls Tryz.prog 60 #[.pointer (some p),.int .i64 t] w0 (fun e w'=>∃r:Bool,e=.returned (.bool r)∧(r=Sp.inP L t∧w'=w0)):=by
 refine w_Y1 _ _ w0 (fun r w'=>r=Sp.inP L t∧w'=w0) ?_
 unfold m_Y1
 obtain ⟨s1,s2,s3,h,hF⟩:=hP
 have hl:s1.len=L.length:=by rw [h.r1.len];simp
 refine ⟨fun hc=>⟨p,rfl,s1,h.box.cell0,?_,rfl⟩,fun hc=>⟨?_,rfl⟩⟩
 ·have:=of_decide_eq_true hc
  rw [hl];simp [Sp.inP,this]
 ·have:=of_decide_eq_false hc
  simp [Sp.inP];omega
theorem PoolRS.at1 {w : World} {p : Addr} {L : Sp.Pool} {s1 s2 s3 : Sl} (h : PoolRS w p L s1 s2 s3) {t : Int} (ht : Sp.inP L t = true) (hok : Sp.Ok L) : ∃ e, Sp.get L t = some e ∧
  (∃a,At s1 (IntKind.i64.wrap (t - 1)) 7 a∧Row w a (rnode e))∧(∃a,At s2 (IntKind.i64.wrap (t - 1)) 1 a∧Row w a (rsize e))∧(∃a,At s3 (IntKind.i64.wrap (t - 1)) 1 a∧Row w a (rdepth e)):=by
 obtain ⟨e,he,_,hi,hLe⟩:=Sp.get_some ht
 have hin:=Sp.inP_iff.1 ht
 have hf:=hok.few
 have hw:IntKind.i64.wrap (t - 1)=((t - 1).toNat:Int):=by rw [i64 (by omega) (by omega)];omega
 obtain ⟨a1,h1,g1⟩:=h.r1.nth (j:=(t - 1).toNat) hi
 obtain ⟨a2,h2,g2⟩:=h.r2.nth (j:=(t - 1).toNat) hi
 obtain ⟨a3,h3,g3⟩:=h.r3.nth (j:=(t - 1).toNat) hi
 rw [hLe] at g1 g2 g3
 rw [hw]
 exact ⟨e,he,⟨a1,h1,g1⟩,⟨a2,h2,g2⟩,⟨a3,h3,g3⟩⟩
theorem c_ref05_Size (p:Addr) (t:Int) (w0:World) {L:Sp.Pool} {F:NP} (hP:PoolR w0 p L F) (hok:Sp.Ok L):Calls Tryz.prog 87 #[.pointer (some p),.int .i64 t] w0 (fun e w'=>∃r:Int,e=.returned (.int .i64 r)∧(r=Sp.sizeOf L t∧w'=w0)):=by
 refine w_C2 _ _ w0 (fun r w'=>r=Sp.sizeOf L t∧w'=w0) ?_
 unfold m_C2
 refine (c_ref05_In p t w0 hP).mono ?_
 rintro _ _ ⟨_,rfl,rfl,rfl⟩
 refine ⟨_,rfl,fun h=>⟨?_,rfl⟩,fun h=>?_⟩
 ·have h:Sp.inP L t=false:=by simpa using h
  simp [Sp.sizeOf,Sp.get_none h]
 ·have h:Sp.inP L t=true:=by simpa using h
  obtain ⟨s1,s2,s3,hS,hF⟩:=hP
  obtain ⟨e,he,_,⟨a,hat,hr⟩,_⟩:=hS.at1 h hok
  exact ⟨p,rfl,s2,hS.box.cell rfl,a,hat,_,row_cell hr,by simp [Sp.sizeOf,he],rfl⟩
theorem c_ref05_Depth (p:Addr) (t:Int) (w0:World) {L:Sp.Pool} {F:NP} (hP:PoolR w0 p L F) (hok:Sp.Ok L):Calls Tryz.prog 88 #[.pointer (some p),.int .i64 t] w0 (fun e w'=>∃r:Int,e=.returned (.int .i64 r)∧(r=Sp.depthOf L t∧w'=w0)):=by
 refine w_D2 _ _ w0 (fun r w'=>r=Sp.depthOf L t∧w'=w0) ?_
 unfold m_D2
 refine (c_ref05_In p t w0 hP).mono ?_
 rintro _ _ ⟨_,rfl,rfl,rfl⟩
 refine ⟨_,rfl,fun h=>⟨?_,rfl⟩,fun h=>?_⟩
 ·have h:Sp.inP L t=false:=by simpa using h
  simp [Sp.depthOf,Sp.get_none h]
 ·have h:Sp.inP L t=true:=by simpa using h
  obtain ⟨s1,s2,s3,hS,hF⟩:=hP
  obtain ⟨e,he,_,_,⟨a,hat,hr⟩⟩:=hS.at1 h hok
  exact ⟨p,rfl,s3,hS.box.cell rfl,a,hat,_,row_cell hr,by simp [Sp.depthOf,he],rfl⟩
theorem c_ref05_Node (p : Addr) (t : Int) (w0 : World) {L : Sp.Pool} {F : NP} (hP : PoolR w0 p L F) (hok : Sp.Ok L) : Calls Tryz.prog 45 #[.pointer (some p), .int .i64 t] w0
  (fun e w'=>∃k f t' u:Int,∃x:ByteArray,∃a b:Int,∃r:Bool,e=.returned (.tuple #[.agg #[.int .i64 k,.int .i64 f,.int .i64 t',.int .u64 u,.string x,.int .i64 a,.int .i64 b],.bool r])∧(((⟨k,f,t',u,x,a,b⟩:Sp.Node)=Sp.nodeOf L t∧r=Sp.inP L t)∧Pure w0 w')):=by
 refine w_Z1 _ _ w0 (fun k f t' u x a b r w'=>((⟨k,f,t',u,x,a,b⟩:Sp.Node)=Sp.nodeOf L t∧r=Sp.inP L t)∧Pure w0 w') ?_
 unfold m_Z1
 intro H1 w1 hs1
 have hP1:=hP.pure hs1.first
 refine (c_ref05_In p t w1 hP1).mono ?_
 rintro _ _ ⟨_,rfl,rfl,rfl⟩
 refine ⟨_,rfl,Kept.refl _,fun h=>?_,fun h=>?_⟩
 ·intro w3 hs3
  have h:Sp.inP L t=false:=by simpa using h
  exact ⟨⟨by simp [Sp.nodeOf,Sp.get_none h,Sp.noNode],h.symm⟩,hs1.first.hst hs3⟩
 ·have h:Sp.inP L t=true:=by simpa using h
  obtain ⟨s1,s2,s3,hS,hF⟩:=hP1
  obtain ⟨e,he,⟨a,hat,hr⟩,_,_⟩:=hS.at1 h hok
  refine ⟨p,rfl,s1,hS.box.cell0,a,hat,_,_,_,_,_,_,_,hr,?_⟩
  intro w4 hs4
  exact ⟨⟨by simp [Sp.nodeOf,he],h.symm⟩,hs1.first.hst hs4⟩
theorem node_eqB (m n:Sp.Node):((m.kind == n.kind) && ((m.frm == n.frm) && ((m.to == n.to) && ((m.num == n.num) && ((decide (m.text=n.text)) && ((m.a == n.a) && (m.b == n.b)))))))=decide (m=n):=by
 obtain ⟨k,f,t,u,x,a,b⟩:=m;obtain ⟨k',f',t',u',x',a',b'⟩:=n
 rw [Bool.eq_iff_iff];simp
theorem c_ref05_Has (p : Addr) (n : Sp.Node) (w0 : World) {L : Sp.Pool} {F : NP} (hP : PoolR w0 p L F) (hok : Sp.Ok L) : Calls Tryz.prog 89 #[.pointer (some p), nkey n] w0
  (fun e w'=>∃r:Int,∃ok:Bool,e=.returned (.tuple #[.int .i64 r,.bool ok])∧((match Sp.find L n with | some i=>r=(i:Int)+1∧ok=true | none=>r=0∧ok=false)∧Pure w0 w')):=by
 obtain ⟨k,f,t,u,x,a,b⟩:=n
 generalize hn:(⟨k,f,t,u,x,a,b⟩:Sp.Node)=n
 have hnk:nkey n=.agg #[.int .i64 k,.int .i64 f,.int .i64 t,.int .u64 u,.string x,.int .i64 a,.int .i64 b]:=by rw [← hn];rfl
 rw [hnk]
 suffices key:∀K:Int→Bool→WP,(∀r ok w',((match Sp.find L n with | some i=>r=(i:Int)+1∧ok=true | none=>r=0∧ok=false)∧Pure w0 w')→K r ok w')→m_B1 (some p) k f t u x a b w0 K from
  w_B1 _ _ _ _ _ _ _ _ w0 _ (key _ (fun _ _ _ h=>h))
 intro K hK
 unfold m_B1
 intro H1 w1 hs1
 refine ⟨fun i H w'=>∃j:Nat,i=j∧j≤L.length∧Pure w0 w'∧∀q,q<j→∀e,L[q]?=some e→e.node≠n,fun i _=>((L.length:Int) - i).toNat,⟨0,rfl,Nat.zero_le _,hs1.first,fun q hq=>absurd hq (by omega)⟩,?_⟩
 rintro _ Hl wl hl ⟨j,rfl,hj,El,hno⟩
 unfold m_B1_l1
 obtain ⟨s1,s2,s3,hS,hF⟩:=hP.pure El
 have hf:=hok.few
 have hlen:s1.len=L.length:=by rw [hS.r1.len];simp
 refine ⟨p,rfl,s1,hS.box.cell0,fun h=>?_,fun h=>?_⟩
 ·have hlt:=lt_of_dec hlen h
  refine ⟨p,rfl,?_⟩
  intro w2 hs2
  have E2:=El.hst hs2
  obtain ⟨s1',s2',s3',hS',_⟩:=hP.pure E2
  obtain ⟨a',hat,hr⟩:=hS'.r1.nth hlt
  refine ⟨s1',hS'.box.cell0,a',hat,_,_,_,_,_,_,_,hr,?_⟩
  have hB:=node_eqB L[j].node n
  rw [← hn] at hB
  simp only at hB
  rw [hB,hn]
  refine ⟨fun h=>?_,fun h=>?_⟩
  ·have h:=of_decide_eq_true h
   rw [wrap_succ hlt (by omega)]
   refine hK _ _ _ ⟨?_,E2⟩
   have hfd:Sp.find L n=some j:=by
    unfold Sp.find
    rw [List.findIdx?_eq_some_iff_getElem]
    exact ⟨hlt,by simp [h],fun q hq=>by simpa using hno q hq _ (List.getElem?_eq_getElem (by omega))⟩
   rw [hfd];exact ⟨by omega,rfl⟩
  ·have h:=of_decide_eq_false h
   rw [wrap_succ hlt (by omega)]
   refine ⟨⟨j+1,rfl,hlt,E2,fun q hq e he=>?_⟩,lt_dec hlt⟩
   by_cases hqj:q=j
   ·subst hqj;rw [List.getElem?_eq_getElem hlt] at he;cases he;exact h
   ·exact hno q (by omega) e he
 ·have hge:=eq_of_dec hlen hj h
  subst hge
  refine hK _ _ _ ⟨?_,El⟩
  have hfd:Sp.find L n=none:=find_none (fun e he=>by
   obtain ⟨q,hq,rfl⟩:=List.mem_iff_getElem.1 he
   exact hno q hq _ (List.getElem?_eq_getElem hq))
  rw [hfd];exact ⟨rfl,rfl⟩
end Go.Proofs
end
section
open Go Go.SE
namespace Go.Proofs
attribute [local irreducible] Calls
theorem append_in {P : Program} {t ty e : TypeId} {sz bytes : Nat} (T : SlType P t e sz bytes) {w : World} {p : Addr} {c : List Value} {Tp : TypeId} (hB : Box w p c Tp) {s : Sl} {rs : List (List Value)} (hR : Rws w e sz s rs) (hp : ¬ s.blk p.block) {a : Addr} {r : List Value} (hr : Row w a r) (hl : r.length = sz) (h1 : r.all oneCell = true) (hb : (rs.length + 1) * bytes ≤ 140737488355328) (hm : rs.length + 1 ≤ maxLen) :
  ∃s' w',(Builtin.append_ #[t,t] ty #[s.v,(Sl.mk (some a) 1 1).v]).run P w=.ok s'.v w'∧Rws w' e sz s' (rs++[r])∧Box w' p c Tp∧¬ s'.blk p.block∧Ext s.blk w w'∧(∀b,s'.blk b→s.blk b∨w.heap.size≤b):=by
 obtain ⟨s',w',hr',hR',hE,hb'⟩:=hR.append T (ty:=ty) (c:=1) hr hl h1 hb hm
 exact ⟨s',w',hr',hR',hB.ext hE hp,fun h=>(hb' _ h).elim hp (fun h=>by have:=hB.lt;omega),hE,hb'⟩
theorem plainErr_val (n:Sp.Node):Sp.plainErr n=53∨Sp.plainErr n=0:=by
 unfold Sp.plainErr;simp only;split
 ·exact .inl rfl
 ·exact .inr rfl
theorem c_ref05_Make (p : Addr) (n : Sp.Node) (w0 : World) {L : Sp.Pool} {F : NP} (hP : PoolR w0 p L F) (hok : Sp.Ok L) : Calls Tryz.prog 41 #[.pointer (some p), nkey n] w0
  (fun e w'=>∃r1 r2:Int,e=.returned (.tuple #[.int .i64 r1,.int .i64 r2])∧((r1,r2)=((Sp.make L n).1,(Sp.make L n).2.1)∧∃F',PoolR w' p (Sp.make L n).2.2 F'∧Ext F w0 w'∧∀b,F' b→F b∨w0.heap.size≤b)):=by
 obtain ⟨k,f,t,u,x,a,b⟩:=n
 generalize hn:(⟨k,f,t,u,x,a,b⟩:Sp.Node)=n
 have hnk:nkey n=.agg #[.int .i64 k,.int .i64 f,.int .i64 t,.int .u64 u,.string x,.int .i64 a,.int .i64 b]:=by rw [← hn];rfl
 rw [hnk]
 suffices key:∀K:Int→Int→WP,(∀r1 r2 w',((r1,r2)=((Sp.make L n).1,(Sp.make L n).2.1)∧∃F',PoolR w' p (Sp.make L n).2.2 F'∧Ext F w0 w'∧∀b,F' b→F b∨w0.heap.size≤b)→K r1 r2 w')→m_M (some p) k f t u x a b w0 K from
  w_M _ _ _ _ _ _ _ _ w0 _ (key _ (fun _ _ _ h=>h))
 intro K hK
 have hsh:=ref05_shape n
 have hkd:=ref05_kids k
 rw [← hn] at hsh
 simp only at hsh
 rw [hn] at hsh
 have hna:n.a=a:=by rw [← hn]
 have hnb:n.b=b:=by rw [← hn]
 have hnkk:n.kind=k:=by rw [← hn]
 have hk:=Sp.kids_le k
 have same:∀(r1 r2:Int) (w':World),Pure w0 w'→Sp.make L n=(r1,r2,L)→K r1 r2 w':=fun r1 r2 w' E h=>hK _ _ _ ⟨by rw [h],F,by rw [h];exact hP.pure E,E.pure,fun b h=>.inl h⟩
 have bad:∀(er:Int) (w':World),er≠0→Pure w0 w'→Sp.check L n=(0,0,er)→K 0 er w':=fun er w' h0 E h=>same 0 er w' E (by unfold Sp.make;simp [h,h0])
 unfold m_M
 rw [hsh,hkd]
 have good:Sp.nodeErr n=0→Sp.check L n=(if (Sp.kidsOf n).any (fun t=>!Sp.inP L t) then (0,0,51) else if 1+((Sp.kidsOf n).map (Sp.sizeOf L)).sum>4096∨(Sp.kidsOf n).foldl (fun d t=>max d (Sp.depthOf L t)) 0+1>64 then (0,0,52) else (1+((Sp.kidsOf n).map (Sp.sizeOf L)).sum,(Sp.kidsOf n).foldl (fun d t=>max d (Sp.depthOf L t)) 0+1,0)):=by
  intro h
  unfold Sp.nodeErr at h
  unfold Sp.check
  split at h
  ·cases h
  ·rename_i h1
   simp only
   rw [if_neg h1]
   split at h
   ·cases h
   ·rename_i h2
    rw [if_neg h2,if_neg (by simpa using h)]
 refine ⟨fun h=>?_,fun h=>?_⟩
 ·intro H1 w2 hs2
  have h:Sp.nodeErr n≠0:=by simpa using h
  refine bad _ _ h hs2.first ?_
  unfold Sp.nodeErr at h ⊢
  unfold Sp.check
  by_cases h1:Sp.plainErr n≠0
  ·rw [if_pos h1,if_pos h1]
   have:Sp.plainErr n=53:=(plainErr_val n).resolve_right h1
   rw [this]
  ·rw [if_neg h1] at h ⊢
   simp only
   rw [if_neg h1]
   by_cases h2:((decide ((Sp.shapeOf n.kind).kids<1) && n.a != 0) || (decide ((Sp.shapeOf n.kind).kids<2) && n.b != 0))=true
   ·rw [if_pos h2,if_pos h2]
   ·rw [if_neg h2] at h ⊢;rw [if_neg h2,if_pos h]
 have h0:Sp.nodeErr n=0:=by simpa using h
 have hchk:=good h0
 have hzero:((Sp.shapeOf k).kids<1→a=0)∧((Sp.shapeOf k).kids<2→b=0):=by
  unfold Sp.nodeErr at h0
  split at h0
  ·cases h0
  ·split at h0
   ·cases h0
   ·rename_i _ h2
    rw [hnkk,hna,hnb] at h2
    simp at h2
    exact h2
 have hz0:Sp.inP L 0=false:=by simp [Sp.inP]
 have hs0:Sp.sizeOf L 0=0:=by simp [Sp.sizeOf,Sp.get,hz0]
 have hd0:Sp.depthOf L 0=0:=by simp [Sp.depthOf,Sp.get,hz0]
 have hsa:=hok.sizeOf a
 have hsb:=hok.sizeOf b
 have hda:=hok.depthOf a
 have hdb:=hok.depthOf b
 have hany:(Sp.kidsOf n).any (fun t=>!Sp.inP L t)=((decide (1≤(Sp.shapeOf k).kids) && !Sp.inP L a) || (decide ((Sp.shapeOf k).kids=2) && !Sp.inP L b)):=by
  unfold Sp.kidsOf;rw [hnkk,hna,hnb]
  rcases hk with h | h | h <;> rw [h] <;> simp
 have hsum:((Sp.kidsOf n).map (Sp.sizeOf L)).sum=Sp.sizeOf L a+Sp.sizeOf L b:=by
  unfold Sp.kidsOf;rw [hnkk,hna,hnb]
  rcases hk with h | h | h <;> rw [h] <;> simp
  ·rw [hzero.1 (by omega),hzero.2 (by omega),hs0];rfl
  ·rw [hzero.2 (by omega),hs0];omega
 have hmax:(Sp.kidsOf n).foldl (fun d t=>max d (Sp.depthOf L t)) 0=max (Sp.depthOf L a) (Sp.depthOf L b):=by
  unfold Sp.kidsOf;rw [hnkk,hna,hnb]
  rcases hk with h | h | h <;> rw [h] <;> simp
  ·rw [hzero.1 (by omega),hzero.2 (by omega),hd0];omega
  ·rw [hzero.2 (by omega),hd0];omega
  ·omega
 rw [hany,hsum,hmax] at hchk
 have J1:∀(x1:Bool) (H:NP) (w:World),Hst w0 H w H w→Pure w0 w→x1=((decide (1≤(Sp.shapeOf k).kids) && !Sp.inP L a) || (decide ((Sp.shapeOf k).kids=2) && !Sp.inP L b))→m_M_j1 (some p) k f t u x a b x1 w0 H w K:=by
  intro x1 H w hs E hx
  rw [← hx] at hchk
  unfold m_M_j1
  refine ⟨fun h=>bad 51 w (by omega) E (by rw [hchk,h];rfl),fun h=>?_⟩
  rw [h,if_neg (by simp)] at hchk
  refine ⟨fun _=>True,trivial,?_⟩
  rintro _ rfl
  have Ed:Pure w0 w.drew:=E.trans (Ext.drew w)
  refine (c_ref05_Size p a w.drew (hP.pure Ed) hok).mono ?_
  rintro _ _ ⟨_,rfl,rfl,rfl⟩
  refine ⟨_,rfl,trivial,Kept.refl _,?_⟩
  refine (c_ref05_Size p b w.drew (hP.pure Ed) hok).mono ?_
  rintro _ _ ⟨_,rfl,rfl,rfl⟩
  refine ⟨_,rfl,trivial,Kept.refl _,fun _=>True,trivial,?_⟩
  rintro _ rfl
  have Ed2:Pure w0 w.drew.drew:=Ed.trans (Ext.drew w.drew)
  refine (c_ref05_Depth p a w.drew.drew (hP.pure Ed2) hok).mono ?_
  rintro _ _ ⟨_,rfl,rfl,rfl⟩
  refine ⟨_,rfl,trivial,Kept.refl _,?_⟩
  refine (c_ref05_Depth p b w.drew.drew (hP.pure Ed2) hok).mono ?_
  rintro _ _ ⟨_,rfl,rfl,rfl⟩
  refine ⟨_,rfl,trivial,Kept.refl _,_,fun w' _=>run_max_int2 _ _ _ _ _ _ _,?_⟩
  have hmx:(if Sp.depthOf L b>Sp.depthOf L a then Sp.depthOf L b else Sp.depthOf L a)=max (Sp.depthOf L a) (Sp.depthOf L b):=by
   split <;> omega
  generalize hz:(if Sp.depthOf L b>Sp.depthOf L a then Sp.depthOf L b else Sp.depthOf L a)=z at *
  have hz64:0≤z∧z≤64:=by rw [hmx];omega
  have e1:IntKind.i64.wrap (IntKind.i64.wrap (1+Sp.sizeOf L a)+Sp.sizeOf L b)=1+(Sp.sizeOf L a+Sp.sizeOf L b):=by
   rw [i64 (n:=1+Sp.sizeOf L a) (by omega) (by omega),i64 (by omega) (by omega)];omega
  have e2:IntKind.i64.wrap (1+z)=z+1:=by rw [i64 (by omega) (by omega)];omega
  rw [e1,e2]
  rw [← hmx] at hchk
  rintro y1 rfl
  have hsx:Hst w0 H w.drew.drew H w.drew.drew:=(hs.drew.here.drew).here
  refine ⟨fun h=>?_,fun h=>?_⟩
  ·intro H2 w10 hs10
   refine bad 52 w10 (by omega) (Ed2.hst hs10) ?_
   rw [hchk,if_pos (by simpa using h)]
  ·intro H2 w10 hs10
   have hck:Sp.check L n=(1+(Sp.sizeOf L a+Sp.sizeOf L b),z+1,0):=by rw [hchk,if_neg (by simp at h;omega)]
   have E10:=Ed2.hst hs10
   rw [← hnk]
   refine (c_ref05_Has p n w10 (hP.pure E10) hok).mono ?_
   rintro _ w11 ⟨r,ok,rfl,hfd,E11⟩
   refine ⟨_,_,rfl,E11.keptP,?_⟩
   have E11':=E10.trans E11
   have hs11:Hst w0 H2 w11 H2 w11:=hs10.again E11.keptP
   cases hf:Sp.find L n with
   | some i =>
    rw [hf] at hfd
    obtain ⟨rfl,rfl⟩:=hfd
    exact Br.t rfl (same _ _ _ E11' (by unfold Sp.make;simp [hck,hf]))
   | none =>
    rw [hf] at hfd
    obtain ⟨rfl,rfl⟩:=hfd
    refine Br.f rfl ?_
    obtain ⟨s1,s2,s3,hS,hF⟩:=hP.pure E11'
    have hlen:s1.len=L.length:=by rw [hS.r1.len];simp
    refine ⟨p,rfl,s1,hS.box.cell0,fun h=>?_,fun h=>?_⟩
    ·have h2:65536≤L.length:=by have h:=of_decide_eq_true h;omega
     exact same _ _ _ E11' (by unfold Sp.make;simp [hck,hf,h2])
    ·have h2:¬ 65536≤L.length:=by have h:=of_decide_eq_false h;omega
     have hmk:Sp.make L n=((L.length:Int)+1,0,L++[⟨n,1+(Sp.sizeOf L a+Sp.sizeOf L b),z+1⟩]):=by unfold Sp.make;simp [hck,hf,h2]
     have hvis:∀b,F b→¬ H2 b:=fun b hb h2=>by have:=hP.lt hb;have:=hs11.old b h2;omega
     have hpF:F p.block:=(hF _).2 (.inl rfl)
     refine ⟨fun w'=>w'.cell? p=some s1.v,hS.box.cell0,?_⟩
     rintro _ rfl
     have E12:Pure w11 w11.drew:=Ext.drew w11
     refine ⟨p,rfl,s1,fun w' h'=>h',?_⟩
     intro p3 w13 h13
     have E13:Pure w11 w13:=E12.trans (Ext.new h13)
     have B13:=hS.box.pure E13
     refine ⟨B13.cell0,?_⟩
     obtain ⟨t1,w14,hr14,R14,B14,np1,X14,nb1⟩:=append_in (P:=Tryz.prog) (ty:=42) slT_node B13 (hS.r1.pure E13) hS.n1 (a:=p3) (r:=nrow n) (by rw [← hn];exact (Box.of_new h13).row) rfl rfl (by simp;omega) (by simp [maxLen];omega)
     refine ⟨t1,w14,hr14,B14.cell0,X14.kept (fun b hb h=>hvis b ((hF b).2 (.inr (.inl h))) hb),p,rfl,B14.canW0 (by simp),hvis _ hpF,?_⟩
     rintro w15 hw15
     have B15:Box w15 p [t1.v,s2.v,s3.v] 45:=by rw [hw15];exact B14.set0
     have X15:Ext (·=p.block) w14 w15:=by rw [hw15];exact Ext.setCell p _
     clear hw15
     have R15:=R14.ext X15 (fun b hb e=>np1 (e▸hb))
     have R2:=((hS.r2.pure E13).ext X14 (fun b h2 h1=>hS.d12 b h1 h2)).ext X15 (fun b hb e=>hS.n2 (e▸hb))
     have R3:=((hS.r3.pure E13).ext X14 (fun b h2 h1=>hS.d13 b h1 h2)).ext X15 (fun b hb e=>hS.n3 (e▸hb))
     have d12':∀b,t1.blk b→¬ s2.blk b:=fun b hb h2=>(nb1 b hb).elim (fun h=>hS.d12 b h h2) (fun h=>by have:=hS.r2.lt h2;have:=E13.size;omega)
     have d13':∀b,t1.blk b→¬ s3.blk b:=fun b hb h2=>(nb1 b hb).elim (fun h=>hS.d13 b h h2) (fun h=>by have:=hS.r3.lt h2;have:=E13.size;omega)
     refine ⟨p,rfl,s2,B15.cell rfl,?_⟩
     intro p4 w16 h16
     have E16:Pure w15 w16:=Ext.new h16
     have B16:=B15.pure E16
     obtain ⟨t2,w17,hr17,R17,B17,np2,X17,nb2⟩:=append_in (P:=Tryz.prog) (ty:=43) slT_int B16 (R2.pure E16) hS.n2 (a:=p4) (r:=[.int .i64 (1+(Sp.sizeOf L a+Sp.sizeOf L b))]) (Box.of_new h16).row rfl rfl (by simp;omega) (by simp [maxLen];omega)
     refine ⟨t2,w17,hr17,X17.kept (fun b hb h=>hvis b ((hF b).2 (.inr (.inr (.inl h)))) hb),p,rfl,B17.canW (by simp),by rw [add_block];exact hvis _ hpF,?_⟩
     rintro w18 hw18
     have B18:Box w18 p [t1.v,t2.v,s3.v] 45:=by rw [hw18];exact B17.set 1 _
     have X18:Ext (·=p.block) w17 w18:=by rw [hw18];have:=Ext.setCell (w:=w17) (p.add 1) t2.v;rw [add_block] at this;exact this
     clear hw18
     have Q1:=((R15.pure E16).ext X17 (fun b h1 h2=>d12' b h1 h2)).ext X18 (fun b hb e=>np1 (e▸hb))
     have Q2:=R17.ext X18 (fun b hb e=>np2 (e▸hb))
     have Q3:=((R3.pure E16).ext X17 (fun b h3 h2=>hS.d23 b h2 h3)).ext X18 (fun b hb e=>hS.n3 (e▸hb))
     have d12'':∀b,t1.blk b→¬ t2.blk b:=fun b hb h2=>(nb2 b h2).elim (fun h=>d12' b hb h) (fun h=>by have:=(R15.pure E16).lt hb;omega)
     have d23':∀b,t2.blk b→¬ s3.blk b:=fun b hb h2=>(nb2 b hb).elim (fun h=>hS.d23 b h h2) (fun h=>by have:=(R3.pure E16).lt h2;omega)
     refine ⟨p,rfl,s3,B18.cell rfl,?_⟩
     intro p5 w19 h19
     have E19:Pure w18 w19:=Ext.new h19
     have B19:=B18.pure E19
     obtain ⟨t3,w20,hr20,R20,B20,np3,X20,nb3⟩:=append_in (P:=Tryz.prog) (ty:=43) slT_int B19 (Q3.pure E19) hS.n3 (a:=p5) (r:=[.int .i64 (z+1)]) (Box.of_new h19).row rfl rfl (by simp;omega) (by simp [maxLen];omega)
     refine ⟨t3,w20,hr20,X20.kept (fun b hb h=>hvis b ((hF b).2 (.inr (.inr (.inr h)))) hb),p,rfl,B20.canW (by simp),by rw [add_block];exact hvis _ hpF,?_⟩
     rintro w21 hw21
     have B21:Box w21 p [t1.v,t2.v,t3.v] 45:=by rw [hw21];exact B20.set 2 _
     have X21:Ext (·=p.block) w20 w21:=by rw [hw21];have:=Ext.setCell (w:=w20) (p.add 2) t3.v;rw [add_block] at this;exact this
     clear hw21
     have d13'':∀b,t1.blk b→¬ t3.blk b:=fun b hb h2=>(nb3 b h2).elim (fun h=>d13' b hb h) (fun h=>by have:=(Q1.pure E19).lt hb;omega)
     have d23'':∀b,t2.blk b→¬ t3.blk b:=fun b hb h2=>(nb3 b h2).elim (fun h=>d23' b hb h) (fun h=>by have:=(Q2.pure E19).lt hb;omega)
     have Z1:=((Q1.pure E19).ext X20 (fun b h1 h2=>d13' b h1 h2)).ext X21 (fun b hb e=>np1 (e▸hb))
     have Z2:=((Q2.pure E19).ext X20 (fun b h1 h2=>d23' b h1 h2)).ext X21 (fun b hb e=>np2 (e▸hb))
     have Z3:=R20.ext X21 (fun b hb e=>np3 (e▸hb))
     have hl1:(t1.len:Int)=L.length+1:=by rw [R14.len];simp
     refine ⟨p,rfl,t1,B21.cell0,?_⟩
     rw [hl1]
     refine hK _ _ _ ⟨by rw [hmk],fun b=>b=p.block∨t1.blk b∨t2.blk b∨t3.blk b,?_,?_,?_⟩
     ·rw [hmk]
      exact ⟨t1,t2,t3,⟨B21,by simpa [rnode] using Z1,by simpa [rsize] using Z2,by simpa [rdepth] using Z3,np1,np2,np3,d12'',d13'',d23''⟩,fun _=>Iff.rfl⟩
     ·have a1:Ext F w0 w14:=(E11'.trans E13).pure.trans' X14 (fun i _ h=>(hF i).2 (.inr (.inl h)))
      have a2:Ext F w0 w15:=a1.trans' X15 (fun i _ h=>(hF i).2 (.inl h))
      have a3:Ext F w0 w17:=(a2.thenPure E16).trans' X17 (fun i _ h=>(hF i).2 (.inr (.inr (.inl h))))
      have a4:Ext F w0 w18:=a3.trans' X18 (fun i _ h=>(hF i).2 (.inl h))
      have a5:Ext F w0 w20:=(a4.thenPure E19).trans' X20 (fun i _ h=>(hF i).2 (.inr (.inr (.inr h))))
      exact a5.trans' X21 (fun i _ h=>(hF i).2 (.inl h))
     ·have z13:w0.heap.size≤w13.heap.size:=(E11'.trans E13).size
      have z16:w0.heap.size≤w16.heap.size:=by have:=X14.size;have:=X15.size;have:=E16.size;omega
      have z19:w0.heap.size≤w19.heap.size:=by have:=X17.size;have:=X18.size;have:=E19.size;omega
      rintro b (rfl | hb | hb | hb)
      ·exact .inl hpF
      ·exact (nb1 b hb).imp (fun h=>(hF b).2 (.inr (.inl h))) (fun h=>by omega)
      ·exact (nb2 b hb).imp (fun h=>(hF b).2 (.inr (.inr (.inl h)))) (fun h=>by omega)
      ·exact (nb3 b hb).imp (fun h=>(hF b).2 (.inr (.inr (.inr h)))) (fun h=>by omega)
 have J2:∀(x2:Bool) (H:NP) (w:World),Hst w0 H w H w→Pure w0 w→x2=(decide (1≤(Sp.shapeOf k).kids) && !Sp.inP L a)→m_M_j2 (some p) k f t u x a b x2 w0 H w K:=by
  intro x2 H w hs E hx
  unfold m_M_j2
  rw [hkd]
  refine ⟨fun h=>J1 true H w hs E (by rw [← hx,h];rfl),fun h=>⟨fun h2=>?_,fun h2=>J1 false H w hs E ?_⟩⟩
  ·refine (c_ref05_In p b w (hP.pure E)).mono ?_
   rintro _ _ ⟨_,rfl,rfl,rfl⟩
   refine ⟨_,rfl,Kept.refl _,J1 _ H _ hs E ?_⟩
   have h2:(Sp.shapeOf k).kids=2:=by simpa using h2
   rw [← hx,h];simp [h2]
  ·have h2:(Sp.shapeOf k).kids≠2:=by simpa using h2
   rw [← hx,h];simp [h2]
 refine ⟨fun h=>?_,fun h=>?_⟩
 ·intro H1 w3 hs3
  refine (c_ref05_In p a w3 (hP.pure hs3.first)).mono ?_
  rintro _ _ ⟨_,rfl,rfl,rfl⟩
  refine ⟨_,rfl,Kept.refl _,J2 _ H1 _ hs3.here hs3.first ?_⟩
  have:1≤(Sp.shapeOf k).kids:=by have:=of_decide_eq_true h;omega
  simp [this]
 ·intro H1 w3 hs3
  refine J2 _ H1 _ hs3.here hs3.first ?_
  have:¬ 1≤(Sp.shapeOf k).kids:=by have:=of_decide_eq_false h;omega
  simp [this]
end Go.Proofs
end
section
open Go Go.SE
namespace Go.Proofs
attribute [local irreducible] Calls
def trow (t:Sp.Tree) (s:Sl):List Value:=[.int .i64 t.node.kind,.int .i64 t.node.frm,.int .i64 t.node.to,.int .u64 t.node.num,.string t.node.text,s.v]
inductive TreeAt (S:NP) (w:World):Sl→Sp.Tree→Prop
 | mk (k f t u : Int) (x : ByteArray) (ks : List Sp.Tree) (s : Sl) (rs : Nat → Sl) (len : s.len = ks.length) (fit : ks.length ≤ 9223372036854775807)
   (row:∀i (h:i<ks.length),∃a,At s i 6 a∧S a.block∧Row w a (trow ks[i] (rs i))) (kid:∀i (h:i<ks.length),TreeAt S w (rs i) ks[i]):TreeAt S w s (.mk k f t u x ks)
theorem TreeAt.ext {S F:NP} {w w':World} {s:Sl} {t:Sp.Tree} (h:TreeAt S w s t) (hE:Ext F w w') (hd:∀b,S b→¬ F b):TreeAt S w' s t:=by
 induction h with
 | mk k f t u x ks s rs len fit row kid ih =>
  exact .mk k f t u x ks s rs len fit (fun i h=>let ⟨a,h1,h2,h3⟩:=row i h;⟨a,h1,h2,hE.row h3 (hd _ h2)⟩) ih
theorem TreeAt.pure {S:NP} {w w':World} {s:Sl} {t:Sp.Tree} (h:TreeAt S w s t) (hE:Pure w w'):TreeAt S w' s t:=h.ext hE (fun _ _ h=>h)
theorem TreeAt.mono {S S':NP} {w:World} {s:Sl} {t:Sp.Tree} (h:TreeAt S w s t) (hd:∀b,S b→S' b):TreeAt S' w s t:=by
 induction h with
 | mk k f t u x ks s rs len fit row kid ih =>
  exact .mk k f t u x ks s rs len fit (fun i h=>let ⟨a,h1,h2,h3⟩:=row i h;⟨a,h1,hd _ h2,h3⟩) ih
theorem TreeAt.lt {S:NP} {w:World} {s:Sl} {t:Sp.Tree} (h:TreeAt S w s t):TreeAt (fun b=>S b∧b<w.heap.size) w s t:=by
 induction h with
 | mk k f t u x ks s rs len fit row kid ih =>
  refine .mk k f t u x ks s rs len fit (fun i h=>let ⟨a,h1,h2,h3⟩:=row i h;⟨a,h1,⟨h2,?_⟩,h3⟩) ih
  have:=h3 0 (by simp [trow])
  unfold World.cell? at this
  refine Classical.byContradiction fun hge=>?_
  have:w.heap[(a.add 0).block]?=none:=by rw [add_block];exact Array.getElem?_eq_none (by omega)
  simp_all [trow]
theorem c_nodeOf (k f t u : Int) (x : ByteArray) (s : Sl) (w : World) :
  Calls Tryz.prog 103 #[.agg #[.int .i64 k,.int .i64 f,.int .i64 t,.int .u64 u,.string x,s.v]] w
   (fun e w'=>∃k':Int,∃f':Int,∃t':Int,∃u':Int,∃x':ByteArray,∃a:Int,∃b:Int,e=.returned (.agg #[.int .i64 k',.int .i64 f',.int .i64 t',.int .u64 u',.string x',.int .i64 a,.int .i64 b])∧((⟨k',f',t',u',x',a,b⟩:Sp.Node)=⟨k,f,t,u,x,0,0⟩∧Pure w w')):=by
 refine w_U3 _ _ _ _ _ _ w (fun k' f' t' u' x' a b w'=>(⟨k',f',t',u',x',a,b⟩:Sp.Node)=⟨k,f,t,u,x,0,0⟩∧Pure w w') ?_
 unfold m_U3
 intro p1 w1 h1 p2 w2 h2
 have E1:Pure w w1:=Ext.new h1
 have b1:=(Box.of_new h1).pure (Ext.new h2)
 refine ⟨_,b1.cell0,_,b1.cell rfl,_,b1.cell rfl,_,b1.cell rfl,_,b1.cell rfl,?_⟩
 exact bx 7 (Box.of_new h2) rfl rfl (fun w' b E=>⟨_,_,_,_,_,_,_,b.row,rfl,(E1.trans (Ext.new h2)).own (New.own E1 h2) E⟩)
theorem looks_mono (t:Sp.Tree):∀i n:Int,0≤n→0≤(Sp.looks i n t).2:=by
 induction t using Sp.Tree.ind with
 | h k f t u x ks ih =>
  have:∀(ks:List Sp.Tree),(∀i (hi:i<ks.length),∀j n:Int,0≤n→0≤(Sp.looks j n ks[i]).2)→∀i e n:Int,0≤n→0≤(Sp.looksAll i e n ks).2:=by
   intro ks
   induction ks with
   | nil=>intro _ i e n h;simpa [Sp.looksAll] using h
   | cons t ts iht =>
    intro hh i e n h
    unfold Sp.looksAll
    split
    ·exact iht (fun i hi=>hh (i+1) (by simpa using hi)) _ _ _ (hh 0 (by simp) i n h)
    ·exact h
  intro i n h
  unfold Sp.looks
  split
  ·exact h
  ·split
   ·exact h
   ·exact this ks ih _ _ _ (by omega)
theorem looksAll_drop {ks:List Sp.Tree} {j:Nat} (hj:j<ks.length) (i n:Int):Sp.looksAll i 0 n (ks.drop j)=Sp.looksAll i (Sp.looks i n ks[j]).1 (Sp.looks i n ks[j]).2 (ks.drop (j+1)):=by
 rw [List.drop_eq_getElem_cons hj,Sp.looksAll,if_pos rfl]
theorem looksAll_bad {ks:List Sp.Tree} {e:Int} (h:e≠0) (i n:Int):Sp.looksAll i e n ks=(e,n):=by
 cases ks <;> simp [Sp.looksAll,h]
theorem c_looks {S : NP} (q : Addr) (hq : ¬ S q.block) (T : TypeId) (t : Sp.Tree) : ∀ (s : Sl) (inside seen : Int) (w : World), 0 ≤ inside → 0 ≤ seen → TreeAt S w s t → Box w q [.int .i64 seen] T →
  Calls Tryz.prog 68 #[.agg (trow t s).toArray,.int .i64 inside,.pointer (some q)] w
   (fun e w'=>∃r:Int,e=.returned (.int .i64 r)∧(r=(Sp.looks inside seen t).1∧Box w' q [.int .i64 (Sp.looks inside seen t).2] T∧Ext (·=q.block) w w')):=by
 induction t using Sp.Tree.ind with
 | h k f t u x ks ih =>
 intro s inside seen w hi0 hn0 hT hB
 suffices key:∀K:Int→WP,(∀r w',(r=(Sp.looks inside seen (.mk k f t u x ks)).1∧Box w' q [.int .i64 (Sp.looks inside seen (.mk k f t u x ks)).2] T∧Ext (·=q.block) w w')→K r w')→m_I k f t u x s inside (some q) w K from
  w_I _ _ _ _ _ _ _ _ w _ (key _ (fun _ _ h=>h))
 intro K hK
 unfold m_I
 intro p1 w1 h1
 have b1:=Box.of_new h1
 have E1:Pure w w1:=Ext.new h1
 have n1:q.block≠p1.block:=New.ne h1 hB.blk
 have hB1:=hB.pure E1
 have hT1:=hT.pure E1
 refine ⟨q,rfl,seen,hB1.cell0,fun h=>?_,fun h=>⟨fun h'=>?_,fun h'=>?_⟩⟩
 ·have h:=of_decide_eq_true h
  have:Sp.looks inside seen (.mk k f t u x ks)=(52,seen):=by rw [Sp.looks,if_pos (by omega)]
  rw [this] at hK;exact hK _ _ ⟨rfl,hB1,E1.pure⟩
 ·have h:=of_decide_eq_false h;have h':=of_decide_eq_true h'
  have:Sp.looks inside seen (.mk k f t u x ks)=(52,seen):=by rw [Sp.looks,if_neg (by omega),if_pos (by omega)]
  rw [this] at hK;exact hK _ _ ⟨rfl,hB1,E1.pure⟩
 have h:=of_decide_eq_false h;have h':=of_decide_eq_false h'
 have hsp:Sp.looks inside seen (.mk k f t u x ks)=Sp.looksAll (inside+1) (Sp.ownErr ⟨k,f,t,u,x,0,0⟩ ks.length) (seen+1) ks:=by rw [Sp.looks,if_neg (by omega),if_neg (by omega)]
 rw [hsp] at hK
 unfold m_I_j1
 refine ⟨q,rfl,seen,hB1.cell0,q,rfl,hB1.canW0 (by simp),?_⟩
 rw [i64 (n:=seen+1) (by omega) (by omega)]
 intro w2 hw2
 have hB2:Box w2 q [.int .i64 (seen+1)] T:=by rw [hw2];exact hB1.set0
 have E12:Ext (·=q.block) w1 w2:=by rw [hw2];exact Ext.setCell q _
 clear hw2
 have b2:=b1.ext E12 (fun e=>n1 e.symm)
 have hT2:=hT1.ext E12 (fun b hb e=>hq (e▸hb))
 have E2:Ext (·=q.block) w w2:=E1.pure.trans E12
 refine ⟨_,_,_,_,_,_,b2.row,?_⟩
 refine (c_nodeOf _ _ _ _ _ _ w2).mono ?_
 rintro _ w3 ⟨k',f',t',u',x',a',b',rfl,hn,E23⟩
 cases hn
 refine ⟨_,_,_,_,_,_,_,rfl,?_⟩
 intro p2 w4 h4
 have n2:p1.block≠p2.block:=New.ne h4 (b2.pure E23).blk
 have E24:Pure w2 w4:=E23.trans (Ext.new h4)
 have o2:=New.own E23 h4
 refine bx 7 (Box.of_new h4) rfl rfl (fun w5 c2 E45=>?_)
 have E25:Pure w2 w5:=E24.own o2 E45
 refine ⟨_,_,_,_,_,_,_,c2.row,?_⟩
 refine (c_plain _ _ _ _ _ _ _ w5).mono ?_
 rintro _ w6 ⟨s1,s2,s3,s4,s5,pe,rfl,⟨hs,hpe⟩,E56⟩
 refine ⟨_,_,_,_,_,_,rfl,?_⟩
 intro p3 w7 h7
 have n3:p2.block≠p3.block:=New.ne h7 (c2.pure E56).blk
 have E27:Pure w2 w7:=(E25.trans E56).trans (Ext.new h7)
 have o3:=New.own (E25.trans E56) h7
 refine bx 5 (Box.of_new h7) rfl rfl (fun w8 c3 E78=>?_)
 have E28:Pure w2 w8:=E27.own o3 E78
 have d2:=((c2.pure E56).pure (Ext.new h7)).ext E78 n3
 have d1:=b2.pure E28
 have hB8:=hB2.pure E28
 have hT8:=hT2.pure E28
 have E8:Ext (·=q.block) w w8:=E2.thenPure E28
 clear E78 E27 E56 E25 E45 E24 E23 E12 c2 b2 b1 hT2 hT1 hB1 h1 h4 h7
 have hlen:s.len=ks.length:=by cases hT;assumption
 have hfit:ks.length≤9223372036854775807:=by cases hT;assumption
 have hsh:Sp.shapeOf k=⟨s1,s2,s3,s4,s5⟩:=hs.symm
 have J3:∀e w',Pure w8 w'→e=Sp.ownErr ⟨k,f,t,u,x,0,0⟩ ks.length→m_I_j3 inside (some q) p1 e w' K:=by
  intro e w' E hown
  rw [← hown] at hK
  unfold m_I_j3
  refine ⟨fun e i w'=>∃j:Nat,i=j∧j≤ks.length∧∃n:Int,0≤n∧Ext (·=q.block) w8 w'∧Box w' q [.int .i64 n] T∧Sp.looksAll (inside+1) e n (ks.drop j)=Sp.looksAll (inside+1) (Sp.ownErr ⟨k,f,t,u,x,0,0⟩ ks.length) (seen+1) ks,fun _ i _=>((ks.length:Int) - i).toNat,⟨0,rfl,Nat.zero_le _,seen+1,by omega,E.pure,hB8.pure E,by rw [hown];rfl⟩,?_⟩
  rintro e1 _ wl ⟨j,rfl,hj,n,hn,El,hBl,heq⟩
  unfold m_I_l4
  have dl:=d1.ext El (fun e=>n1 e.symm)
  have hTl:=hT8.ext El (fun b hb e=>hq (e▸hb))
  rw [← hown] at heq
  have fin:∀n',Sp.looksAll (inside+1) e ((seen:Int)+1) ks=(e1,n')→n'=n→K e1 wl:=by
   rintro n' h rfl
   refine hK _ _ ⟨by rw [h],by rw [h];exact hBl,E8.trans El⟩
  refine ⟨s,dl.cell rfl,fun hlt=>⟨fun he=>?_,fun he=>?_⟩,fun hlt=>?_⟩
  ·have hlt:j<ks.length:=by have h:=of_decide_eq_true hlt;omega
   have he:e1=0:=by simpa using he
   subst he
   cases hTl with
   | mk _ _ _ _ _ _ _ rs len fit row kid =>
   obtain ⟨a,hat,ha,hr⟩:=row j hlt
   refine ⟨s,dl.cell rfl,a,hat,_,_,_,_,_,rs j,hr,?_⟩
   rw [i64 (n:=inside+1) (by omega) (by omega)]
   refine (ih j hlt (rs j) (inside+1) n wl (by omega) hn (kid j hlt) hBl).mono ?_
   rintro _ w9 ⟨r,rfl,rfl,hB9,E9⟩
   rw [looksAll_drop hlt] at heq
   refine ⟨_,rfl,⟨j+1,?_,hlt,_,looks_mono _ _ _ hn,El.trans E9,hB9,by rw [← hown];exact heq⟩,?_⟩
   ·rw [i64 (by omega) (by omega)];omega
   ·show ((ks.length:Int) - IntKind.i64.wrap ((j:Int)+1)).toNat<((ks.length:Int) - (j:Int)).toNat
    rw [i64 (by omega) (by omega)];omega
  ·have he:e1≠0:=by simpa using he
   rw [looksAll_bad he] at heq
   exact fin _ heq.symm rfl
  ·have hge:j=ks.length:=by have h:=of_decide_eq_false hlt;omega
   rw [hge,List.drop_length,Sp.looksAll] at heq
   exact fin _ heq.symm rfl
 have J2:∀e1,e1=(if pe=0 then if (ks.length:Int)≠s5 then 53 else 0 else pe)→m_I_j2 inside (some q) p1 p2 p3 e1 w8 K:=by
  intro e1 he1
  have hown:Sp.ownErr ⟨k,f,t,u,x,0,0⟩ ks.length=if e1=0 then Sp.fieldsErr ⟨s1,s2,s3,s4,s5⟩ ⟨k,f,t,u,x,0,0⟩ else e1:=by
   unfold Sp.ownErr
   simp only [hsh,← hpe,he1]
  unfold m_I_j2
  refine ⟨fun h=>⟨_,_,_,_,_,c3.row,_,_,_,_,_,_,_,d2.row,?_⟩,fun h=>J3 _ _ (Ext.refl _) ?_⟩
  ·have h:e1=0:=by simpa using h
   refine (c_fields _ _ _ _ _ _ _ _ _ _ _ _ _).mono ?_
   rintro _ w9 ⟨_,rfl,rfl,E9⟩
   exact ⟨_,rfl,J3 _ _ E9 (by rw [hown,if_pos h])⟩
  ·have h:e1≠0:=by simpa using h
   rw [hown,if_neg h]
 refine ⟨fun h=>⟨s,d1.cell rfl,s5,c3.cell rfl,fun h5=>J2 _ ?_,fun h5=>J2 _ ?_⟩,fun h=>J2 _ ?_⟩
 ·have h:pe=0:=by simpa using h
  have h5:(s.len:Int)≠s5:=by simpa using h5
  rw [if_pos h,if_pos (by omega)]
 ·have h:pe=0:=by simpa using h
  have h5:(s.len:Int)=s5:=by simpa using h5
  rw [if_pos h,if_neg (by omega),h]
 ·have h:pe≠0:=by simpa using h
  rw [if_neg h]
end Go.Proofs
end
section
open Go Go.SE
namespace Go.Proofs
attribute [local irreducible] Calls
theorem c_New (w:World):Calls Tryz.prog 27 #[] w (fun e w'=>∃r:Option Addr,e=.returned (.pointer r)∧∃p,r=some p∧Pure w w'∧∃F,PoolAt w' p [] F∧∀b,F b→w.heap.size≤b):=by
 refine w_N3 w (fun r w'=>∃p,r=some p∧Pure w w'∧∃F,PoolAt w' p [] F∧∀b,F b→w.heap.size≤b) ?_
 unfold m_N3
 intro p1 w1 h1 p2 w2 h2
 have E1:Pure w w1:=Ext.new h1
 have m2:CMap w2 p1.block []:=(CMap.of_new h1).ext (Ext.new h2:Pure w1 w2) id
 have n12:p1.block≠p2.block:=New.ne h2 h1.block_new
 refine ⟨p2,rfl,E1.trans (Ext.new h2),fun b=>b=p2.block∨Sl.nil.blk b∨b=p1.block,⟨Sl.nil,p1.block,⟨Box.of_new h2,by simpa using Rws.nil _ _ _,by simpa [pmap] using m2,n12,?_,?_⟩,fun _=>Iff.rfl⟩,?_⟩
 ·rintro ⟨a,h,_⟩;cases h
 ·rintro ⟨a,h,_⟩;cases h
 ·rintro b (rfl | ⟨a,h,_⟩ | rfl)
  ·exact New.own E1 h2
  ·cases h
  ·exact New.own (Ext.refl w) h1
theorem pmap_take (L:Sp.Pool) (n:Nat):pmap (L.take n)=(pmap L).take n:=by
 apply List.ext_getElem?;intro i
 simp only [pmap,List.getElem?_map,List.getElem?_zipIdx,List.getElem?_take]
 split <;> simp
theorem pmap_fst (L:Sp.Pool):(pmap L).map (·.1)=(L.map (·.node)).map nkey:=by
 apply List.ext_getElem?;intro i
 simp only [pmap,List.getElem?_map,List.getElem?_zipIdx]
 cases L[i]? <;> simp
theorem c_cut (p : Addr) (n : Nat) (w : World) {L : Sp.Pool} {F : NP} (hP : PoolAt w p L F) (hok : Sp.Ok L) (hn : n ≤ L.length) :
  Calls Tryz.prog 70 #[.pointer (some p),.int .i64 n] w (fun e w'=>e=.returned (.tuple #[])∧PoolAt w' p (L.take n) F∧Ext F w w'):=by
 suffices key:∀K:WP,(∀w',PoolAt w' p (L.take n) F∧Ext F w w'→K w')→m_I1 (some p) n w K from
  w_I1 _ _ w _ (key _ (fun _ h=>h))
 intro K hK
 unfold m_I1
 obtain ⟨s,m,hS,hF⟩:=hP
 have hfew:=hok.few
 have hcap:s.len≤s.cap:=by
  have:=hS.rows.len
  rcases hS.rows.own with ⟨rfl,_⟩ | ⟨g,cur,_,_,hc,_⟩
  ·simp [Sl.nil]
  ·omega
 obtain ⟨s1,hr1,hl1⟩:=hS.rows.lst.lo (P:=Tryz.prog) slT_entry hcap (k:=.i64) (n:=n) (by omega) (by simpa using hn)
 have hlen1:s1.len=L.length - n:=by rw [hl1.len];simp
 refine ⟨p,rfl,s,hS.box.cell0,s1,hr1,?_⟩
 refine ⟨fun x w'=>∃j:Nat,x=j∧j≤L.length - n∧Ext (·=m) w w'∧CMap w' m ((pmap L).take n++(pmap L).drop (n+j)),fun x _=>((L.length:Int) - x).toNat,⟨0,rfl,Nat.zero_le _,Ext.refl w,by simpa using hS.map⟩,?_⟩
 rintro _ wl ⟨j,rfl,hj,El,hml⟩
 have hboxl:=hS.box.ext El hS.n1.symm
 have hrowsl:=hS.rows.ext El (fun b hb e=>hS.n3 (e▸hb))
 unfold m_I1_l1
 refine ⟨fun h=>?_,fun h=>?_⟩
 ·have hlt:n+j<L.length:=by have h:=of_decide_eq_true h;omega
  have hll:=hl1.ext El (fun b hb e=>hS.n3 (e▸hb))
  obtain ⟨a,hat,_,hrow⟩:=hll.at_ j (by simp;omega)
  generalize he:L[n+j]=e at *
  have hrow':Row wl a (erow e):=by
   have:((L.map erow).drop ((n:Int).toNat))[j]'(by simp;omega)=erow e:=by simp [he]
   rw [this] at hrow;exact hrow
  obtain ⟨nd,sz,dp⟩:=e
  obtain ⟨k,f,t,u,x,a1,b1⟩:=nd
  refine ⟨a,hat,_,_,_,_,_,_,_,_,_,hrow',?_⟩
  intro p2 w1 h1
  have E1:Pure wl w1:=Ext.new h1
  have o1:=New.own (Ext.refl wl) h1
  refine bx 9 (Box.of_new h1) rfl rfl (fun w2 b2 E=>?_)
  have E2:Pure wl w2:=E1.own o1 E
  refine ⟨fun w'=>w'.cell? (p.add 1)=some (.map (some m))∧Row w' p2 (nrow ⟨k,f,t,u,x,a1,b1⟩),⟨(hboxl.pure (E2.thenPure (Ext.drew w2))).cell (i:=1) rfl,?_⟩,?_⟩
  ·have : Row w2 p2 (nrow ⟨k, f, t, u, x, a1, b1⟩) := fun i hi => by
    have:=b2.row i (by simp [nrow] at hi ⊢;omega)
    rw [this]
    have h7:i<7:=by simpa [nrow] using hi
    have:i=0∨i=1∨i=2∨i=3∨i=4∨i=5∨i=6:=by omega
    rcases this with rfl | rfl | rfl | rfl | rfl | rfl | rfl <;> rfl
   exact Ext.row (F:=None) (Ext.drew w2) this id
  intro w3 hw3
  have E3:Pure wl w3:=by rw [hw3];exact E2.thenPure (Ext.drew w2)
  clear hw3
  refine ⟨p,rfl,some m,fun w' h=>h.1,k,f,t,u,x,a1,b1,fun w' h=>h.2,?_⟩
  have hm3:=hml.ext E3 id
  have hpl:(pmap L).length=L.length:=by simp [pmap]
  have hget:(pmap L)[n+j]?=some (nkey ⟨k,f,t,u,x,a1,b1⟩,.int .i64 (n+j+1:Nat)):=by
   simp only [pmap,List.getElem?_map,List.getElem?_zipIdx,List.getElem?_eq_getElem hlt,he];simp
  have hidx:((pmap L).take n++(pmap L).drop (n+j))[n]?=some (nkey ⟨k,f,t,u,x,a1,b1⟩,.int .i64 (n+j+1:Nat)):=by
   have e0:n+j+(n - ((pmap L).take n).length)=n+j:=by rw [List.length_take];omega
   rw [List.getElem?_append_right (by rw [List.length_take];omega),List.getElem?_drop,e0,hget]
  have hnd:((pmap L).map (·.1)).Nodup:=by
   rw [pmap_fst,List.nodup_iff_pairwise_ne,List.pairwise_map]
   exact hok.nodup.imp (fun h e=>h (nkey_inj.1 e))
  have hsub:List.Sublist ((pmap L).take n++(pmap L).drop (n+j)) (pmap L):=by
   conv=>rhs;rw [← List.take_append_drop n (pmap L)]
   refine (List.Sublist.refl _).append ?_
   have e0:(pmap L).drop (n+j)=((pmap L).drop n).drop j:=by rw [List.drop_drop]
   rw [e0];exact List.drop_sublist _ _
  have hnd2:(((pmap L).take n++(pmap L).drop (n+j)).map (·.1)).Nodup:=hnd.sublist (hsub.map _)
  obtain ⟨w4,hr4,hm4,E4⟩:=hm3.delete (P:=Tryz.prog) (Q:=86) (z:=0) Tryz.underlying92 keyOK_node (fun q hq=>pmap_keys q (hsub.subset hq)) ⟨_,rfl⟩ hidx (fun i u hi=>by
   obtain ⟨hi1,hi2⟩:=List.getElem?_eq_some_iff.1 hi
   obtain ⟨hn1,hn2⟩:=List.getElem?_eq_some_iff.1 hidx
   refine Classical.byContradiction fun hne=>?_
   have hne:=List.pairwise_iff_getElem.1 hnd2
   rcases Nat.lt_or_gt_of_ne ‹_› with hlt | hlt
   ·exact hne i n (by simpa using hi1) (by simpa using hn1) hlt (by rw [List.getElem_map,List.getElem_map,hi2,hn2])
   ·exact hne n i (by simpa using hn1) (by simpa using hi1) hlt (by rw [List.getElem_map,List.getElem_map,hi2,hn2]))
  refine ⟨w4,hr4,⟨j+1,?_,by omega,(El.trans E3.pure).trans E4,?_⟩,?_⟩
  ·rw [i64 (by omega) (by omega)];omega
  ·rw [List.eraseIdx_append_of_length_le (by rw [List.length_take];omega)] at hm4
   have:n - ((pmap L).take n).length=0:=by rw [List.length_take];omega
   rw [this] at hm4
   have hd:((pmap L).drop (n+j)).eraseIdx 0=(pmap L).drop (n+(j+1)):=by
    rw [List.drop_eq_getElem_cons (by omega)];simp;rfl
   rw [hd] at hm4;exact hm4
  ·show ((L.length:Int) - IntKind.i64.wrap ((j:Int)+1)).toNat<((L.length:Int) - (j:Int)).toNat
   rw [i64 (by omega) (by omega)];omega
 ·have hge:n+j=L.length:=by have h:=of_decide_eq_false h;omega
  have hpl:(pmap L).length=L.length:=by simp [pmap]
  rw [hge,← hpl,List.drop_length,List.append_nil] at hml
  obtain ⟨s2,hr2,hrows2,hb2⟩:=hrowsl.hi (P:=Tryz.prog) slT_entry (k:=.i64) (n:=n) (by omega) (by simpa using hn)
  refine ⟨p,rfl,s,hboxl.cell0,s2,hr2,p,rfl,hboxl.canW0 (by simp),?_⟩
  rintro w5 hw5
  have hbox5:Box w5 p [s2.v,.map (some m)] 94:=by rw [hw5];exact hboxl.set0
  have E5:Ext (·=p.block) wl w5:=by rw [hw5];exact Ext.setCell p _
  clear hw5
  refine hK _ ⟨⟨s2,m,⟨hbox5,?_,?_,hS.n1,fun h=>hS.n2 ((hb2 _).1 h),fun h=>hS.n3 ((hb2 _).1 h)⟩,fun b=>by rw [hF b,hb2 b]⟩,?_⟩
  ·have:=hrows2.ext E5 (fun b hb e=>hS.n2 (by rw [← e];exact (hb2 _).1 hb))
   simpa using this
  ·rw [pmap_take];exact hml.ext E5 hS.n1
  ·exact (El.mono (fun i _ h=>(hF i).2 (.inr (.inr h)))).trans' E5 (fun i _ h=>(hF i).2 (.inl h))
end Go.Proofs
end
section
open Go Go.SE
namespace Go.Proofs
attribute [local irreducible] Calls
theorem growAll_bad {n:Sp.Node} {i:Nat} {L:Sp.Pool} {t:Sp.Tree} {ts:List Sp.Tree} (h:(Sp.grow L t).2.1≠0):Sp.growAll n i L (t :: ts)=(0,(Sp.grow L t).2.1,(Sp.grow L t).2.2):=by rw [Sp.growAll,if_pos h]
theorem growAll_good {n:Sp.Node} {i:Nat} {L:Sp.Pool} {t:Sp.Tree} {ts:List Sp.Tree} (h:(Sp.grow L t).2.1=0):Sp.growAll n i L (t :: ts)=Sp.growAll (if i=0 then { n with a:=(Sp.grow L t).1 } else { n with b:=(Sp.grow L t).1 }) (i+1) (Sp.grow L t).2.2 ts:=by rw [Sp.growAll,if_neg (by simp [h])]
def Sp.Tree.two (t:Sp.Tree):Prop:=Sp.Tree.rec (motive_1:=fun _=>Prop) (motive_2:=fun _=>Prop) (fun _ _ _ _ _ ks h=>ks.length≤2∧h) True (fun _ _ h1 h2=>h1∧h2) t
def twoAll:List Sp.Tree→Prop
 | []=>True
 | t :: ts=>Sp.Tree.two t∧twoAll ts
theorem two_mk {k f t u:Int} {x:ByteArray} {ks:List Sp.Tree}:Sp.Tree.two (.mk k f t u x ks)↔ks.length≤2∧twoAll ks:=by
 have:∀ks:List Sp.Tree,(Sp.Tree.rec_1 (motive_1:=fun _=>Prop) (motive_2:=fun _=>Prop) (fun _ _ _ _ _ ks h=>ks.length≤2∧h) True (fun _ _ h1 h2=>h1∧h2) ks:Prop)=twoAll ks:=by
  intro ks
  induction ks with
  | nil=>rfl
  | cons t ts ih=>show (Sp.Tree.two t∧_)=(Sp.Tree.two t∧_);rw [ih]
 show (ks.length≤2∧_)↔_
 rw [this]
theorem twoAll_get {ks:List Sp.Tree} (h:twoAll ks) {i:Nat} (hi:i<ks.length):Sp.Tree.two ks[i]:=by
 induction ks generalizing i with
 | nil=>simp at hi
 | cons t ts ih =>
  cases i with
  | zero=>exact h.1
  | succ i=>exact ih h.2 (by simpa using hi)
theorem c_grow {S : NP} (p : Addr) (t : Sp.Tree) : ∀ (s : Sl) (w : World) (L : Sp.Pool) (F : NP), Sp.Tree.two t → TreeAt S w s t → PoolAt w p L F → Sp.Ok L → (∀ b, F b → ¬ S b) → (∀ b, S b → b < w.heap.size) →
  Calls Tryz.prog 69 #[.pointer (some p),.agg (trow t s).toArray] w
   (fun e w'=>∃r1:Int,∃r2:Int,e=.returned (.tuple #[.int .i64 r1,.int .i64 r2])∧((r1,r2)=((Sp.grow L t).1,(Sp.grow L t).2.1)∧∃F',PoolAt w' p (Sp.grow L t).2.2 F'∧Ext F w w'∧∀b,F' b→F b∨w.heap.size≤b)):=by
 induction t using Sp.Tree.ind with
 | h k f t u x ks ih =>
 intro s w L F h2 hT hP hok hFS hSw
 suffices key:∀K:Int→Int→WP,(∀r1 r2 w',((r1,r2)=((Sp.grow L (.mk k f t u x ks)).1,(Sp.grow L (.mk k f t u x ks)).2.1)∧∃F',PoolAt w' p (Sp.grow L (.mk k f t u x ks)).2.2 F'∧Ext F w w'∧∀b,F' b→F b∨w.heap.size≤b)→K r1 r2 w')→m_H1 (some p) k f t u x s w K from
  w_H1 _ _ _ _ _ _ _ w _ (key _ (fun _ _ _ h=>h))
 intro K hK
 obtain ⟨hk2,hall⟩:=two_mk.1 h2
 unfold m_H1
 intro p2 w1 h1
 have b1:=Box.of_new h1
 have E1:Pure w w1:=Ext.new h1
 refine ⟨_,_,_,_,_,_,b1.row,?_⟩
 refine (c_nodeOf _ _ _ _ _ _ w1).mono ?_
 rintro _ w2 ⟨k',f',t',u',x',a',b',rfl,hn,E12⟩
 cases hn
 refine ⟨_,_,_,_,_,_,_,rfl,?_⟩
 intro p3 w3 h3
 have E3:Pure w w3:=(E1.trans E12).trans (Ext.new h3)
 have o3:=New.own (E1.trans E12) h3
 have n23:p2.block≠p3.block:=New.ne h3 (b1.pure E12).blk
 refine bx 7 (Box.of_new h3) rfl rfl (fun w4 b3 E34=>?_)
 have E4:Pure w w4:=E3.own o3 E34
 have b2:=((b1.pure E12).pure (Ext.new h3)).ext E34 n23
 intro p4 w5 h5
 have E5:Pure w w5:=E4.trans (Ext.new h5)
 have o4:=New.own E4 h5
 have n34:p3.block≠p4.block:=New.ne h5 b3.blk
 have c3:=b3.pure (Ext.new h5:Pure w4 w5)
 have c4:=Box.of_new h5
 have c2:=b2.pure (Ext.new h5:Pure w4 w5)
 refine ⟨s,c2.cell rfl,?_⟩
 have hsp:Sp.grow L (.mk k f t u x ks)=Sp.growAll ⟨k,f,t,u,x,0,0⟩ 0 L ks:=by rw [Sp.grow]
 rw [hsp] at hK
 have hlen:s.len=ks.length:=by cases hT;assumption
 refine ⟨fun i w'=>∃j:Nat,i=j∧j≤ks.length∧∃(nd:Sp.Node) (L':Sp.Pool) (F':NP),Sp.growAll ⟨k,f,t,u,x,0,0⟩ 0 L ks=Sp.growAll nd j L' (ks.drop j)∧Sp.Ok L'∧PoolAt w' p L' F'∧(∀b,F' b→F b∨w.heap.size≤b)∧¬ F' p3.block∧¬ F' p4.block∧Ext F w w'∧Box w' p3 (nrow nd) 86∧Box w' p4 [.pointer (some (p3.add 5)),.pointer (some (p3.add 6))] 179,fun i _=>((ks.length:Int) - i).toNat,
  ⟨0,rfl,Nat.zero_le _,⟨k,f,t,u,x,0,0⟩,L,F,by simp,hok,hP.pure E5,fun b h=>.inl h,fun h=>by have:=hP.lt h;omega,fun h=>by have:=hP.lt h;omega,E5.pure,c3,c4⟩,?_⟩
 rintro _ wl ⟨j,rfl,hj,nd,L',F',heq,hok',hPl,hF',hn3,hn4,El,d3,d4⟩
 unfold m_H1_l1
 refine ⟨fun h=>?_,fun h=>?_⟩
 ·have hlt:j<ks.length:=by have h:=of_decide_eq_true h;omega
  have hTl:TreeAt S wl s (.mk k f t u x ks):=hT.ext El (fun b hs hf=>hFS b hf hs)
  have hkid:∀i (h:i<ks.length),∃a r,At s i 6 a∧Row wl a (trow ks[i] r)∧TreeAt S wl r ks[i]:=by
   cases hTl with
   | mk _ _ _ _ _ _ _ rs len fit row kid=>exact fun i h=>let ⟨a,h1,_,h3⟩:=row i h;⟨a,rs i,h1,h3,kid i h⟩
  obtain ⟨a,r,hat,hrow,hTk⟩:=hkid j hlt
  refine ⟨a,hat,_,_,_,_,_,r,hrow,?_⟩
  intro p5 w6 h6
  have o5:=New.own (Ext.refl wl) h6
  refine bx 6 (Box.of_new h6) rfl rfl (fun w7 b5 E67=>?_)
  have E7:Pure wl w7:=Ext.own (Ext.new h6) o5 E67
  refine ⟨_,_,_,_,_,r,b5.row,?_⟩
  have hsz:w.heap.size≤wl.heap.size:=El.size
  refine (ih j hlt r w7 L' F' (twoAll_get hall hlt) (hTk.pure E7) (hPl.pure E7) hok' (fun b hb hs=>(hF' b hb).elim (fun h=>hFS b h hs) (fun h=>by have:=hSw b hs;omega)) (fun b hs=>by have:=hSw b hs;have:=E7.size;omega)).mono ?_
  rintro _ w8 ⟨r1,r2,rfl,hr,F8,hP8,E8,hF8⟩
  have e1:r1=(Sp.grow L' ks[j]).1:=congrArg Prod.fst hr
  have e2:r2=(Sp.grow L' ks[j]).2.1:=congrArg Prod.snd hr
  rw [List.drop_eq_getElem_cons hlt] at heq
  have hF8':∀b,F8 b→F b∨w.heap.size≤b:=fun b hb=>(hF8 b hb).elim (hF' b) (fun h=>by right;have:=E7.size;omega)
  have Ew8:Ext F w w8:=(El.thenPure E7).trans' E8 (fun i hi h=>(hF' i h).elim id (fun h=>by omega))
  refine ⟨_,_,rfl,fun h=>?_,fun h=>?_⟩
  ·have h:(Sp.grow L' ks[j]).2.1≠0:=by rw [← e2];simpa using h
   rw [growAll_bad h] at heq
   refine hK _ _ _ ?_
   rw [heq];exact ⟨by rw [e2],F8,hP8,Ew8,hF8'⟩
  ·have h:(Sp.grow L' ks[j]).2.1=0:=by rw [← e2];simpa using h
   rw [growAll_good h] at heq
   have q3:=(d3.pure E7).ext E8 hn3
   have q4:=(d4.pure E7).ext E8 hn4
   have hs7:wl.heap.size≤w7.heap.size:=E7.size
   have n38:¬ F8 p3.block:=fun h=>(hF8 _ h).elim hn3 (fun h=>by have:=(d3.pure E7).lt;omega)
   have n48:¬ F8 p4.block:=fun h=>(hF8 _ h).elim hn4 (fun h=>by have:=(d4.pure E7).lt;omega)
   have hok8:=(Sp.grow_facts ks[j] L' hok').1
   have fin : ∀ (w9 : World) (nd' : Sp.Node), nd' = (if j = 0 then { nd with a := (Sp.grow L' ks[j]).1 } else { nd with b := (Sp.grow L' ks[j]).1 }) → Box w9 p3 (nrow nd') 86 → Ext (· = p3.block) w8 w9 →
     (∃j':Nat,IntKind.i64.wrap ((j:Int)+1)=j'∧j'≤ks.length∧∃(nd:Sp.Node) (L':Sp.Pool) (F':NP),Sp.growAll ⟨k,f,t,u,x,0,0⟩ 0 L ks=Sp.growAll nd j' L' (ks.drop j')∧Sp.Ok L'∧PoolAt w9 p L' F'∧(∀b,F' b→F b∨w.heap.size≤b)∧¬ F' p3.block∧¬ F' p4.block∧Ext F w w9∧Box w9 p3 (nrow nd) 86∧Box w9 p4 [.pointer (some (p3.add 5)),.pointer (some (p3.add 6))] 179)∧((ks.length:Int) - IntKind.i64.wrap ((j:Int)+1)).toNat<((ks.length:Int) - (j:Int)).toNat:=by
    intro w9 nd' hnd B9 E9
    rw [i64 (by omega) (by omega)]
    refine ⟨⟨j+1,by omega,hlt,nd',_,F8,by rw [heq,hnd],hok8,hP8.ext E9 (fun b hb e=>n38 (e▸hb)),hF8',n38,n48,Ew8.trans' E9 (fun i hi h=>by subst h;omega),B9,q4.ext E9 n34.symm⟩,by omega⟩
   have hj2:j=0∨j=1:=by omega
   rcases hj2 with rfl | rfl
   ·refine ⟨p4,⟨by omega,by simp,p4,rfl,rfl⟩,some (p3.add 5),q4.cell0,p3.add 5,rfl,q3.canW (by simp [nrow]),?_⟩
    intro w9 hw9
    refine fin w9 _ rfl ?_ ?_
    ·rw [hw9,e1];exact q3.set 5 _
    ·rw [hw9];have:=Ext.setCell (w:=w8) (p3.add 5) (.int .i64 r1);rw [add_block] at this;exact this
   ·refine ⟨p4.add 1,⟨by omega,by simp,p4,rfl,rfl⟩,some (p3.add 6),q4.cell rfl,p3.add 6,rfl,q3.canW (by simp [nrow]),?_⟩
    intro w9 hw9
    refine fin w9 _ rfl ?_ ?_
    ·rw [hw9,e1];exact q3.set 6 _
    ·rw [hw9];have:=Ext.setCell (w:=w8) (p3.add 6) (.int .i64 r1);rw [add_block] at this;exact this
 ·have hge:j=ks.length:=by have h:=of_decide_eq_false h;omega
  rw [hge,List.drop_length,Sp.growAll] at heq
  obtain ⟨k0,f0,t0,u0,x0,a0,b0⟩:=nd
  refine ⟨_,_,_,_,_,_,_,d3.row,?_⟩
  refine (c_Make p k0 f0 t0 u0 x0 a0 b0 wl hPl hok').mono ?_
  rintro _ w9 ⟨r1,r2,rfl,hr,F9,hP9,E9,hF9⟩
  have hsz:w.heap.size≤wl.heap.size:=El.size
  refine ⟨_,_,rfl,hK _ _ _ ?_⟩
  rw [heq]
  exact ⟨hr,F9,hP9,El.trans' E9 (fun i hi h=>(hF' i h).elim id (fun h=>by omega)),fun b hb=>(hF9 b hb).elim (hF' b) (fun h=>by right;omega)⟩
theorem looks_two (t:Sp.Tree):∀i n:Int,(Sp.looks i n t).1=0→Sp.Tree.two t:=by
 induction t using Sp.Tree.ind with
 | h k f t u x ks ih =>
  have hA:∀(ks:List Sp.Tree),(∀i (hi:i<ks.length),∀j n:Int,(Sp.looks j n ks[i]).1=0→Sp.Tree.two ks[i])→∀i e n:Int,(Sp.looksAll i e n ks).1=0→e=0∧twoAll ks:=by
   intro ks
   induction ks with
   | nil=>intro _ i e n h;exact ⟨by simpa [Sp.looksAll] using h,trivial⟩
   | cons t ts iht =>
    intro hh i e n h
    unfold Sp.looksAll at h
    split at h
    ·rename_i he
     have:=iht (fun i hi=>hh (i+1) (by simpa using hi)) _ _ _ h
     exact ⟨he,hh 0 (by simp) i n this.1,this.2⟩
    ·rename_i he;exact absurd h he
  intro i n h
  unfold Sp.looks at h
  split at h
  ·cases h
  ·split at h
   ·cases h
   ·have:=hA ks ih _ _ _ h
    refine two_mk.2 ⟨?_,this.2⟩
    have ho:=this.1
    unfold Sp.ownErr at ho
    simp only at ho
    have hk:=Sp.kids_le k
    by_cases hp:Sp.plainErr ⟨k,f,t,u,x,0,0⟩=0
    ·rw [if_pos hp] at ho
     by_cases hl:(ks.length:Int)≠(Sp.shapeOf k).kids
     ·rw [if_pos hl] at ho;simp at ho
     ·omega
    ·rw [if_neg hp,if_neg hp] at ho;exact absurd ho hp
theorem c_Of {S : NP} (p : Addr) (t : Sp.Tree) (s : Sl) (w : World) {L : Sp.Pool} {F : NP} (hT : TreeAt S w s t) (hP : PoolAt w p L F) (hok : Sp.Ok L) (hFS : ∀ b, F b → ¬ S b) (hSw : ∀ b, S b → b < w.heap.size) :
  Calls Tryz.prog 32 #[.pointer (some p),.agg (trow t s).toArray] w
   (fun e w'=>∃r1:Int,∃r2:Int,e=.returned (.tuple #[.int .i64 r1,.int .i64 r2])∧((r1,r2)=((Sp.of L t).1,(Sp.of L t).2.1)∧∃F',PoolAt w' p (Sp.of L t).2.2 F'∧Ext F w w'∧∀b,F' b→F b∨w.heap.size≤b)):=by
 obtain ⟨k,f,to,u,x,ks⟩:=t
 suffices key:∀K:Int→Int→WP,(∀r1 r2 w',((r1,r2)=((Sp.of L (.mk k f to u x ks)).1,(Sp.of L (.mk k f to u x ks)).2.1)∧∃F',PoolAt w' p (Sp.of L (.mk k f to u x ks)).2.2 F'∧Ext F w w'∧∀b,F' b→F b∨w.heap.size≤b)→K r1 r2 w')→m_V1 (some p) k f to u x s w K from
  w_V1 _ _ _ _ _ _ _ w _ (key _ (fun _ _ _ h=>h))
 intro K hK
 unfold m_V1
 intro p2 w1 h1
 have b1:=Box.of_new h1
 have E1:Pure w w1:=Ext.new h1
 refine Br.f rfl ?_
 intro p3 w2 h2
 have E2:Pure w w2:=E1.trans (Ext.new h2)
 have o3:=New.own E1 h2
 have c3:=Box.of_new h2
 have n23:p2.block≠p3.block:=New.ne h2 b1.blk
 refine ⟨c3.canW0 (by simp),?_⟩
 intro w3 hw3
 have c3':Box w3 p3 [.int .i64 0] 3:=by rw [hw3];exact c3.set0
 have E23:Ext (·=p3.block) w2 w3:=by rw [hw3];exact Ext.setCell p3 _
 clear hw3
 have E3:Pure w w3:=E2.own o3 E23
 have b3:=(b1.pure (Ext.new h2:Pure w1 w2)).ext E23 n23
 refine ⟨_,_,_,_,_,s,b3.row,?_⟩
 generalize ht:Sp.Tree.mk k f to u x ks=t at *
 have htr:(Value.agg #[.int .i64 k,.int .i64 f,.int .i64 to,.int .u64 u,.string x,s.v])=.agg (trow t s).toArray:=by rw [← ht];rfl
 rw [htr]
 refine (c_looks p3 (fun h=>by have:=hSw _ h;omega) _ t s 0 0 w3 (by omega) (by omega) (hT.pure E3) c3').mono ?_
 rintro _ w4 ⟨r1,rfl,rfl,_,E34⟩
 have E4:Pure w w4:=E3.own o3 E34
 have b4:=b3.ext E34 n23
 have same:∀w',Pure w w'→∃F',PoolAt w' p L F'∧Ext F w w'∧∀b,F' b→F b∨w.heap.size≤b:=fun w' E=>⟨F,hP.pure E,E.pure,fun _ h=>.inl h⟩
 refine ⟨_,rfl,fun h=>?_,fun h=>?_⟩
 ·have h:(Sp.looks 0 0 t).1≠0:=by simpa using h
  have:Sp.of L t=(0,(Sp.looks 0 0 t).1,L):=by rw [Sp.of,if_pos h]
  refine hK _ _ _ ?_
  rw [this];exact ⟨rfl,same _ E4⟩
 ·have h:(Sp.looks 0 0 t).1=0:=by simpa using h
  have hP4:=hP.pure E4
  obtain ⟨s0,m0,hS0,hF0⟩:=id hP4
  have hl0:s0.len=L.length:=by rw [hS0.rows.len];simp
  refine ⟨p,rfl,s0,hS0.box.cell0,_,_,_,_,_,s,b4.row,?_⟩
  rw [htr]
  refine (c_grow p t s w4 L F (looks_two t _ _ h) (hT.pure E4) hP4 hok hFS (fun b hb=>by have:=hSw b hb;have:=E4.size;omega)).mono ?_
  rintro _ w5 ⟨r1,r2,rfl,hr,F5,hP5,E45,hF5⟩
  have e1:r1=(Sp.grow L t).1:=congrArg Prod.fst hr
  have e2:r2=(Sp.grow L t).2.1:=congrArg Prod.snd hr
  have hs4:w.heap.size≤w4.heap.size:=E4.size
  have E5:Ext F w w5:=E4.pure.trans E45
  have hF5':∀b,F5 b→F b∨w.heap.size≤b:=fun b hb=>(hF5 b hb).elim .inl (fun h=>.inr (by omega))
  refine ⟨_,_,rfl,fun h'=>?_,fun h'=>?_⟩
  ·have h':(Sp.grow L t).2.1≠0:=by rw [← e2];simpa using h'
   obtain ⟨hok5,M,hM⟩:=Sp.grow_facts t L hok
   rw [hl0]
   refine (c_cut p L.length w5 hP5 hok5 (by rw [hM];simp)).mono ?_
   rintro _ w6 ⟨rfl,hP6,E56⟩
   have:Sp.of L t=(0,(Sp.grow L t).2.1,L):=by rw [Sp.of,if_neg (by simp [h]),if_pos h']
   refine ⟨rfl,hK _ _ _ ?_⟩
   rw [this]
   rw [hM,List.take_left] at hP6
   exact ⟨by rw [e2],F5,hP6,E5.trans' E56 (fun i hi h=>(hF5' i h).elim id (fun h=>by omega)),hF5'⟩
  ·have h':(Sp.grow L t).2.1=0:=by rw [← e2];simpa using h'
   have:Sp.of L t=((Sp.grow L t).1,0,(Sp.grow L t).2.2):=by rw [Sp.of,if_neg (by simp [h]),if_neg (by simp [h'])]
   refine hK _ _ _ ?_
   rw [this]
   exact ⟨by rw [e1],F5,hP5,E5,hF5'⟩
end Go.Proofs
end
section
open Go Go.SE
namespace Go.Proofs
attribute [local irreducible] Calls
theorem fieldsErr_ne (s:Sp.Shape) (n:Sp.Node):Sp.fieldsErr s n≠53:=by
 unfold Sp.fieldsErr
 split
 ·omega
 ·split <;> omega
theorem ownErr_eq (k f t u:Int) (x:ByteArray) (len:Nat):Sp.ownErr ⟨k,f,t,u,x,0,0⟩ len=(if (Sp.nodeErr ⟨k,f,t,u,x,0,0⟩≠53∧(len:Int)≠(Sp.shapeOf k).kids) then 53 else Sp.nodeErr ⟨k,f,t,u,x,0,0⟩):=by
 unfold Sp.ownErr Sp.nodeErr
 simp only
 rcases plainErr_val ⟨k,f,t,u,x,0,0⟩ with h | h
 ·rw [h];simp
 ·rw [h]
  have:=fieldsErr_ne (Sp.shapeOf k) ⟨k,f,t,u,x,0,0⟩
  by_cases h2:(len:Int)=(Sp.shapeOf k).kids <;> simp [h2,this]
theorem c_ref05_looked {S : NP} (q : Addr) (hq : ¬ S q.block) (T : TypeId) (t : Sp.Tree) : ∀ (s : Sl) (inside seen : Int) (w0 : World), 0 ≤ inside → 0 ≤ seen → TreeAt S w0 s t → (∀ b, S b → b < w0.heap.size) → Box w0 q [.int .i64 seen] T →
  Calls Tryz.prog 106 #[.agg (trow t s).toArray,.int .i64 inside,.pointer (some q)] w0
   (fun e w'=>∃r:Int,e=.returned (.int .i64 r)∧(r=(Sp.looks inside seen t).1∧Box w' q [.int .i64 (Sp.looks inside seen t).2] T∧Ext (·=q.block) w0 w')):=by
 induction t using Sp.Tree.ind with
 | h k f t u x ks ih =>
 intro s inside seen w0 hi0 hn0 hT hSw hB
 suffices key:∀K:Int→WP,(∀r w',(r=(Sp.looks inside seen (.mk k f t u x ks)).1∧Box w' q [.int .i64 (Sp.looks inside seen (.mk k f t u x ks)).2] T∧Ext (·=q.block) w0 w')→K r w')→m_P k f t u x s inside (some q) w0 K from
  w_P _ _ _ _ _ _ _ _ w0 _ (key _ (fun _ _ h=>h))
 intro K hK
 have hql:=hB.lt
 unfold m_P
 refine ⟨q,rfl,?_⟩
 intro H1 w1 hs1
 have hB1:=hB.pure hs1.first
 refine ⟨seen,hB1.cell0,?_⟩
 intro H5 w13 hs5
 have E13:=hs1.first.hst hs5
 have hB13:=hB.pure E13
 have hq0:∀{H w' H' w''},Hst w0 H w' H' w''→¬ H' q.block:=fun h hh=>by have:=h.old _ hh;omega
 unfold m_P_j1
 refine ⟨fun h=>?_,fun h=>?_⟩
 ·have : Sp.looks inside seen (.mk k f t u x ks) = (52, seen) := by
   rw [Sp.looks]
   simp only [Bool.or_eq_true,decide_eq_true_eq] at h
   by_cases h1:4096≤seen
   ·rw [if_pos h1]
   ·rw [if_neg h1,if_pos (by omega)]
  rw [this] at hK;exact hK _ _ ⟨rfl,hB13,E13.pure⟩
 ·have h1 : ¬ 4096 ≤ seen ∧ ¬ 64 ≤ inside := by
   simp only [Bool.or_eq_false_iff,decide_eq_false_iff_not] at h;omega
  have hsp:Sp.looks inside seen (.mk k f t u x ks)=Sp.looksAll (inside+1) (Sp.ownErr ⟨k,f,t,u,x,0,0⟩ ks.length) (seen+1) ks:=by rw [Sp.looks,if_neg h1.1,if_neg h1.2]
  rw [hsp] at hK
  have hlen:s.len=ks.length:=by cases hT;assumption
  have hfit:ks.length≤9223372036854775807:=by cases hT;assumption
  refine ⟨q,rfl,seen,hB13.cell0,q,rfl,hB13.canW0 (by simp),hq0 hs5,?_⟩
  rw [i64 (n:=seen+1) (by omega) (by omega)]
  rintro w2 hw2
  have hB2:Box w2 q [.int .i64 (seen+1)] T:=by rw [hw2];exact hB13.set0
  have E2:Ext (·=q.block) w0 w2:=by rw [hw2];exact E13.pure.trans (Ext.setCell q _)
  clear hw2
  rintro y1 rfl
  have hsh:=ref05_shape ⟨k,f,t,u,x,0,0⟩
  simp only at hsh
  rw [hsh,ref05_kids,hlen]
  have hown:cond ((Sp.nodeErr ⟨k,f,t,u,x,0,0⟩ != 53) && ((ks.length:Int) != (Sp.shapeOf k).kids)) 53 (Sp.nodeErr ⟨k,f,t,u,x,0,0⟩)=Sp.ownErr ⟨k,f,t,u,x,0,0⟩ ks.length:=by
   rw [ownErr_eq]
   by_cases h2:Sp.nodeErr ⟨k,f,t,u,x,0,0⟩=53
   ·simp [h2]
   ·by_cases h3:(ks.length:Int)=(Sp.shapeOf k).kids
    ·simp [h3]
    ·have e1:(Sp.nodeErr ⟨k,f,t,u,x,0,0⟩ != 53)=true:=by simpa using h2
     have e2:((ks.length:Int) != (Sp.shapeOf k).kids)=true:=by simpa using h3
     rw [e1,e2,if_pos ⟨h2,h3⟩];rfl
  rw [hown]
  intro H3 w10 hs3
  have E10:Ext (·=q.block) w0 w10:=E2.hst hs3
  have hB10:=hB2.ext hs3.ext (hq0 hs3)
  refine ⟨fun e i H w'=>∃j:Nat,i=j∧j≤ks.length∧∃n:Int,0≤n∧Ext (·=q.block) w0 w'∧Box w' q [.int .i64 n] T∧Sp.looksAll (inside+1) e n (ks.drop j)=Sp.looksAll (inside+1) (Sp.ownErr ⟨k,f,t,u,x,0,0⟩ ks.length) (seen+1) ks,fun _ i _=>((ks.length:Int) - i).toNat,⟨0,rfl,Nat.zero_le _,seen+1,by omega,E10,hB10,rfl⟩,?_⟩
  rintro e1 _ Hl wl hl ⟨j,rfl,hj,n,hn,El,hBl,heq⟩
  unfold m_P_l2
  have hTl:=hT.ext El (fun b hb e=>hq (e▸hb))
  refine ⟨fun hc=>?_,fun hc=>?_⟩
  ·simp only [Bool.and_eq_true,beq_iff_eq] at hc
   obtain ⟨he,hlt⟩:=hc
   have hlt:=lt_of_dec hlen hlt
   subst he
   cases hTl with
   | mk _ _ _ _ _ _ _ rs len fit row kid =>
   obtain ⟨a,hat,ha,hr⟩:=row j hlt
   refine ⟨a,hat,?_⟩
   intro H4 w11 hs4
   have E11:=El.hst hs4
   have hT11:=hT.ext E11 (fun b hb e=>hq (e▸hb))
   have hr11:Row w11 a (trow ks[j] (rs j)):=hs4.ext.row hr (fun hh=>by have:=hs4.old _ hh;have:=hSw _ ha;omega)
   have hk11:TreeAt S w11 (rs j) ks[j]:=(kid j hlt).ext hs4.ext (fun b hb hh=>by have:=hs4.old _ hh;have:=hSw _ hb;omega)
   have hB11:=hBl.ext hs4.ext (hq0 hs4)
   refine ⟨_,_,_,_,_,rs j,hr11,?_⟩
   rw [i64 (n:=inside+1) (by omega) (by omega)]
   refine (ih j hlt (rs j) (inside+1) n w11 (by omega) hn hk11 (fun b hb=>by have:=hSw b hb;have:=E11.size;omega) hB11).mono ?_
   rintro _ w12 ⟨r,rfl,rfl,hB12,E12⟩
   refine ⟨_,rfl,E12.kept (fun b hb e=>hq0 hs4 (e▸hb)),?_⟩
   rw [wrap_succ hlt (by omega)]
   refine ⟨⟨j+1,rfl,hlt,_,looks_mono ks[j] (inside+1) n hn,E11.trans E12,hB12,?_⟩,lt_dec hlt⟩
   rw [← heq];exact (looksAll_drop hlt (inside+1) n).symm
  ·intro H4 w11 hs4
   have hfin:Sp.looksAll (inside+1) e1 n (ks.drop j)=(e1,n):=by
    by_cases he:e1=0
    ·have hge : j = ks.length := by
      rw [he] at hc
      have hc:decide ((j:Int)<(s.len:Int))=false:=by simpa using hc
      exact eq_of_dec hlen hj hc
     rw [hge,List.drop_length];rfl
    ·exact looksAll_bad he _ _
   rw [hfin] at heq
   refine hK _ _ ⟨by rw [← heq],?_,El.hst hs4⟩
   rw [← heq];exact hBl.ext hs4.ext (hq0 hs4)
theorem c_ref05_Looks {S : NP} (t : Sp.Tree) (s : Sl) (w0 : World) (hT : TreeAt S w0 s t) (hSw : ∀ b, S b → b < w0.heap.size) :
  Calls Tryz.prog 71 #[.agg (trow t s).toArray] w0 (fun e w'=>∃r:Int,e=.returned (.int .i64 r)∧(r=(Sp.looks 0 0 t).1∧Pure w0 w')):=by
 obtain ⟨k,f,to,u,x,ks⟩:=t
 refine w_B2 _ _ _ _ _ _ w0 (fun r w'=>r=(Sp.looks 0 0 (.mk k f to u x ks)).1∧Pure w0 w') ?_
 unfold m_B2
 intro H1 w1 hs1 p w2 h2
 have b2:=Box.of_new h2
 have E2:Pure w0 w2:=hs1.first.trans (Ext.new h2)
 have o2:=New.own hs1.first h2
 have hpH:¬ H1 p.block:=fun hh=>by have:=hs1.lt _ hh;have:=h2.at_size;omega
 refine ⟨b2.canW0 (by simp),hpH,?_⟩
 rintro w3 hw3
 have b3:Box w3 p [.int .i64 0] 3:=by rw [hw3];exact b2.set0
 have E3:Pure w0 w3:=by rw [hw3];exact E2.own o2 (Ext.setCell p _)
 clear hw3
 refine (c_ref05_looked p (fun h=>by have:=hSw _ h;omega) _ _ s 0 0 w3 (Int.le_refl _) (Int.le_refl _) (hT.pure E3) (fun b hb=>by have:=hSw b hb;have:=E3.size;omega) b3).mono ?_
 rintro _ w4 ⟨r,rfl,rfl,_,E4⟩
 exact ⟨_,rfl,E4.kept (fun b hb e=>hpH (e▸hb)),rfl,E3.own o2 E4⟩
end Go.Proofs
end
