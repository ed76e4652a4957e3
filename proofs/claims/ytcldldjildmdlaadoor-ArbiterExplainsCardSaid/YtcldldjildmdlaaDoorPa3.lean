import Derived.Test.YtcldldjildmdlaaDoorProg
import Derived.KernelRfl
import Derived.Test.YtcldldjildmdlaaDoorPa1
import Derived.Test.YtcldldjildmdlaaDoorPa2
import Derived.RangeFuncSeq
import Derived.RangeFuncIn
import Derived.Laws.IdiomStrings
import Derived.Test.YtcldldjildmdlaaDoorPa0
import Derived.Laws.DeepStrings4
import Derived.ProofKit
import Derived.Carry
import Derived.OpenShut
import Derived.Stop.Joined
section
open Go Go.SE
open Go.IntKind renaming i64 → q6
namespace Go.Proofs
open Tryd
set_option maxRecDepth 100000
set_option maxHeartbeats 4000000
attribute [local irreducible] wpL wpX opE wpE Calls
def m_N1 (aN aR:Int) (aK aV aW:Int) (w0:World) (K:ByteArray→WP):Prop :=∀H1 w1,Hst w0 yF w0 H1 w1→Calls prog 7 #[(vu aR),(vi 10)] w1 (fun e w2=>∃r1,e=.returned (vs r1)∧Kept H1 w1 w2∧Br (aK == 1) (Calls prog 8 #[(vi aN)] w2 (fun e w3=>∃r2,e=.returned (vs r2)∧Kept H1 w2 w3∧∃s1,(Go.binOp .add 9 (vs (⟨#[112,97,114,116,121,32]⟩:ByteArray)) (vs r2)).run prog w3=.ok (vs s1) w3∧∃s2,(Go.binOp .add 9 (vs s1) (vs (⟨#[32,115,105,103,110,101,100,32,116,119,111,32,116,101,120,116,115,32,111,102,32]⟩:ByteArray))).run prog w3=.ok (vs s2) w3∧∃s3,(Go.binOp .add 9 (vs s2) (vs r1)).run prog w3=.ok (vs s3) w3∧K s3 w3)) (Br (aK == 2) (∃s4,(Go.binOp .add 9 (vs (⟨#[116,104,101,32,110,111,116,97,114,121,32,103,97,118,101,32,116,119,111,32,118,101,114,100,105,99,116,115,32,111,110,32]⟩:ByteArray)) (vs r1)).run prog w2=.ok (vs s4) w2∧K s4 w2) (Br (aK == 3) (∃s5,(Go.binOp .add 9 (vs (⟨#[116,104,101,32,111,114,105,103,105,110,97,116,111,114,32,115,105,103,110,101,100,32]⟩:ByteArray)) (vs r1)).run prog w2=.ok (vs s5) w2∧∃s6,(Go.binOp .add 9 (vs s5) (vs (⟨#[32,97,110,100,32,97,115,107,101,100,32,116,111,32,97,98,111,114,116,32,105,116]⟩:ByteArray))).run prog w2=.ok (vs s6) w2∧K s6 w2) (K ⟨#[]⟩ w2))))
theorem w_N1 (aN aR aK aV aW w0 K) (h:m_N1 aN aR aK aV aW w0 K):
  Calls prog 4 #[(.agg #[(vi aN),(vu aR),(vi aK),(vi aV),(vi aW)])] w0 (fun e w'=>∃r3,e=.returned (vs r3)∧K r3 w'):=by
 refine cw (args:=[(Ai aN aR aK aV aW)]) func4 ntmps4 ?_
 obtain ⟨hs,hb⟩:=st0 w0
 refine eg (nw3 (Ag aN aR aK aV aW) 24 hs hb xb fun p1 w1 H1 hs hb=>q (ln (eg (q (q3 (xl (isAgg22 _) (hb.d 0 1 gZ)) ?_)))))
 have ⟨h,hs⟩:=hs.hr (h H1 w1)
 refine sc call7 (h.mono fun e w2 ⟨r1,k,hk,h⟩=>have ⟨hs,hb⟩:=hk.hh hs hb;⟨_,k,?_⟩)
 refine q (ln (zA (eg (q (q3 (xl (isAgg3 _) (hb.d 0 2 gZ)) (ln (zH (zA (rg (qb (ln (cbr h ?_ ?_))))))))))))<;>intro h
 refine eg (q (q3 (xl (isAgg3 _) (hb.d0 0 gZ)) (sc call8 (h.mono fun e w3 ⟨r2,k,hk,h⟩=>have ⟨hs,hb⟩:=hk.hh hs hb;⟨_,k,?_⟩))))
 obtain ⟨s1,hv3,h⟩:=h
 refine q2 (vs s1) (yM (by kernel_rfl) (by kernel_rfl) (by kernel_rfl) hv3) ?_
 obtain ⟨s2,hv2,h⟩:=h
 refine q2 (vs s2) (yM (by kernel_rfl) (by kernel_rfl) (by kernel_rfl) hv2) (q ?_)
 obtain ⟨s3,hv1,h⟩:=h
 refine q2 (vs s3) (yM (by kernel_rfl) (by kernel_rfl) (by kernel_rfl) hv1) (q (ln (er (yL (vI (rs1 results4 ⟨s3,rfl,h⟩))))))
 refine eg (qb (ln (cbr h ?_ ?_)))<;>intro h
 refine eg (q ?_)
 obtain ⟨s4,hv4,h⟩:=h
 refine q2 (vs s4) (yM (by kernel_rfl) (by kernel_rfl) (by kernel_rfl) hv4) (q (ln (er (yL (vI (rs1 results4 ⟨s4,rfl,h⟩))))))
 refine eg (qb (ln (cbr h ?_ ?_)))<;>intro h
 refine eg (q ?_)
 obtain ⟨s5,hv6,h⟩:=h
 refine q2 (vs s5) (yM (by kernel_rfl) (by kernel_rfl) (by kernel_rfl) hv6) ?_
 obtain ⟨s6,hv5,h⟩:=h
 refine q2 (vs s6) (yM (by kernel_rfl) (by kernel_rfl) (by kernel_rfl) hv5) (q (ln (er (yL (vI (rs1 results4 ⟨s6,rfl,h⟩))))))
 refine zB (uX (zM (eg (q (ln (er (rs1 results4 ⟨⟨#[]⟩,rfl,h⟩)))))))
def m_N_j1 (aK:Int) (r1 w3:ByteArray) (w:World) (K:ByteArray→WP):Prop :=Br (aK == 1) (∃s1,(Go.binOp .add 9 (vs (⟨#[112,97,114,116,121,32]⟩:ByteArray)) (vs w3)).run prog w=.ok (vs s1) w∧∃s2,(Go.binOp .add 9 (vs s1) (vs (⟨#[32,115,105,103,110,101,100,32,116,119,111,32,116,101,120,116,115,32,111,102,32]⟩:ByteArray))).run prog w=.ok (vs s2) w∧∃s3,(Go.binOp .add 9 (vs s2) (vs r1)).run prog w=.ok (vs s3) w∧K s3 w) (Br (aK == 2) (∃s4,(Go.binOp .add 9 (vs (⟨#[116,104,101,32,110,111,116,97,114,121,32,103,97,118,101,32,116,119,111,32,118,101,114,100,105,99,116,115,32,111,110,32]⟩:ByteArray)) (vs r1)).run prog w=.ok (vs s4) w∧K s4 w) (Br (aK == 3) (∃s5,(Go.binOp .add 9 (vs (⟨#[116,104,101,32,111,114,105,103,105,110,97,116,111,114,32,115,105,103,110,101,100,32]⟩:ByteArray)) (vs r1)).run prog w=.ok (vs s5) w∧∃s6,(Go.binOp .add 9 (vs s5) (vs (⟨#[32,97,110,100,32,97,115,107,101,100,32,116,111,32,97,98,111,114,116,32,105,116]⟩:ByteArray))).run prog w=.ok (vs s6) w∧K s6 w) (K ⟨#[]⟩ w)))
def m_N (aN aR:Int) (aK aV aW:Int) (w0:World) (K:ByteArray→WP):Prop :=∀H1 w1,Hst w0 yF w0 H1 w1→Calls prog 9 #[(vu aR)] w1 (fun e w2=>∃r1,e=.returned (vs r1)∧Kept H1 w1 w2∧Br (decide (aN<0)) (Calls prog 9 #[(vu (IntKind.u64.wrap ((IntKind.u64.wrap (q6.wrap (0 - (q6.wrap (aN+1)))))+1)))] w2 (fun e w4=>∃r2,e=.returned (vs r2)∧Kept H1 w2 w4∧∃s7,(Go.binOp .add 9 (vs (⟨#[45]⟩:ByteArray)) (vs r2)).run prog w4=.ok (vs s7) w4∧m_N_j1 aK r1 s7 w4 K)) (Calls prog 9 #[(vu (IntKind.u64.wrap aN))] w2 (fun e w5=>∃r3,e=.returned (vs r3)∧Kept H1 w2 w5∧m_N_j1 aK r1 r3 w5 K)))
theorem w_N (aN aR aK aV aW w0 K) (h:m_N aN aR aK aV aW w0 K):
  Calls prog 5 #[(.agg #[(vi aN),(vu aR),(vi aK),(vi aV),(vi aW)])] w0 (fun e w'=>∃r4,e=.returned (vs r4)∧K r4 w'):=by
 refine cw (args:=[(Ai aN aR aK aV aW)]) func5 ntmps5 ?_
 obtain ⟨hs,hb⟩:=st0 w0
 refine eg (nw3 (Ag aN aR aK aV aW) 24 hs hb xb fun p1 w1 H1 hs hb=>q (ln (eg (q (q3 (xl (isAgg22 _) (hb.d 0 1 gZ)) ?_)))))
 have ⟨h,hs⟩:=hs.hr (h H1 w1)
 refine sc call9 (h.mono fun e w2 ⟨r1,k,hk,h⟩=>have ⟨hs,hb⟩:=hk.hh hs hb;⟨_,k,?_⟩)
 refine q (ln (eg (q (ln (zA (eg (q (q3 (xl (isAgg3 _) (hb.d0 0 gZ)) (q (ln (jAD (fun ρ w=>∃w3,∃H:NP,Has ρ [(1,(vp (some p1))),(3,(vs r1)),(4,(vs w3))]∧Hst w0 H w H w∧HB H w [(p1,(Ag aN aR aK aV aW),24)]∧m_N_j1 aK r1 w3 w K) ?_ ?_)))))))))))
 rintro ρ w ⟨w3,H,hH,hs,hb,h⟩
 refine zO hH (zA (eg (q (q3 (xl (isAgg3 _) (hb.d 0 2 gZ)) (ln (zH (eg (qb (ln (cbr h ?_ ?_))))))))))<;>intro h
 refine eg (q ?_)
 obtain ⟨s1,hv3,h⟩:=h
 refine q2 (vs s1) (yM (by kernel_rfl) (by kernel_rfl) (by kernel_rfl) hv3) ?_
 obtain ⟨s2,hv2,h⟩:=h
 refine q2 (vs s2) (yM (by kernel_rfl) (by kernel_rfl) (by kernel_rfl) hv2) (q ?_)
 obtain ⟨s3,hv1,h⟩:=h
 refine q2 (vs s3) (yM (by kernel_rfl) (by kernel_rfl) (by kernel_rfl) hv1) (q (ln (er (yL (vI (rs1 results5 ⟨s3,rfl,h⟩))))))
 refine eg (qb (ln (cbr h ?_ ?_)))<;>intro h
 refine eg (q ?_)
 obtain ⟨s4,hv4,h⟩:=h
 refine q2 (vs s4) (yM (by kernel_rfl) (by kernel_rfl) (by kernel_rfl) hv4) (q (ln (er (yL (vI (rs1 results5 ⟨s4,rfl,h⟩))))))
 refine eg (qb (ln (cbr h ?_ ?_)))<;>intro h
 refine eg (q ?_)
 obtain ⟨s5,hv6,h⟩:=h
 refine q2 (vs s5) (yM (by kernel_rfl) (by kernel_rfl) (by kernel_rfl) hv6) ?_
 obtain ⟨s6,hv5,h⟩:=h
 refine q2 (vs s6) (yM (by kernel_rfl) (by kernel_rfl) (by kernel_rfl) hv5) (q (ln (er (yL (vI (rs1 results5 ⟨s6,rfl,h⟩))))))
 refine zB (uX (zM (eg (q (ln (er (rs1 results5 ⟨⟨#[]⟩,rfl,h⟩)))))))
 refine cbr h ?_ ?_<;>intro h
 refine rg (q (q3 (xl (isAgg3 _) (hb.d0 0 gZ)) (qd (sc call9 (h.mono fun e w4 ⟨r2,k,hk,h⟩=>have ⟨hs,hb⟩:=hk.hh hs hb;⟨_,k,?_⟩)))))
 obtain ⟨s7,hv7,h⟩:=h
 refine q2 (vs s7) (yM (by kernel_rfl) (by kernel_rfl) (by kernel_rfl) hv7) (q (ln ⟨s7,H1,hm,hs,hb,h⟩))
 refine rg (q (q3 (xl (isAgg3 _) (hb.d0 0 gZ)) (q (sc call9 (h.mono fun e w5 ⟨r3,k,hk,h⟩=>have ⟨hs,hb⟩:=hk.hh hs hb;⟨_,k,?_⟩)))))
 refine q (ln ⟨r3,H1,hm,hs,hb,h⟩)
def m_J_l2 (aL aM:Int) (aO:ByteArray) (x1:Int) (r2:Sl) (x2:Int) (aS:Bool) (aT aU:Int) (w0:World) (Hl2:NP) (wl2:World) (Kc1:Int→Bool→Int→Int→NP→WP) (Kc2:Int→Bool→Int→Int→NP→WP) (K:Bool→Int→Int→WP):Prop :=Br (decide (x2<(r2.len:Int))) (∃a2:Addr,At r2 x2 5 a2∧∃aP aA aB aQ aX,Row wl2 a2 [(vi aP),(vu aA),(vs aB),(vi aQ),(vi aX)]∧Br (((aP == aL) && (aA == aM)) && (decide (aB=aO))) (∀H6 w12,Hst w0 Hl2 wl2 H6 w12→K true aQ x1 w12) (∀H6 w10,Hst w0 Hl2 wl2 H6 w10→Kc2 (q6.wrap (x2+1)) aS aT aU H6 w10)) (Kc1 (q6.wrap (x1+1)) aS aT aU Hl2 wl2)
def m_J_l1 (aL aM:Int) (aO:ByteArray) (r1:Sl) (x1:Int) (aY:Bool) (aZ bA:Int) (w0:World) (Hl1:NP) (wl1:World) (Kc1:Int→Bool→Int→Int→NP→WP) (K:Bool→Int→Int→WP):Prop :=Br (decide (x1<(r1.len:Int))) (∃a1:Addr,At r1 x1 5 a1∧∃aC aD aE aF aG,Row wl1 a1 (Ab aC aD aE aF aG)∧∀H3 w5,Hst w0 Hl1 wl1 H3 w5→Calls prog 27 #[(.agg #[(vi aC),(vi aD),(vu aE),(vs aF),(vb aG)]),(vi x1)] w5 (fun e w6=>∃r2:Sl,e=.returned r2.v∧Kept H3 w5 w6∧∃(I2:Int→Bool→Int→Int→NP→WP) (mu2:Int→Bool→Int→Int→World→Nat),I2 0 aY aZ bA H3 w6∧∀(x2:Int) (aS:Bool) (aT aU:Int) (Hl2:NP) (wl2:World),Hst w0 Hl2 wl2 Hl2 wl2→I2 x2 aS aT aU Hl2 wl2→m_J_l2 aL aM aO x1 r2 x2 aS aT aU w0 Hl2 wl2 Kc1 (fun y'0 y'1 y'2 y'3 H' w'=>I2 y'0 y'1 y'2 y'3 H' w'∧mu2 y'0 y'1 y'2 y'3 w'<mu2 x2 aS aT aU wl2) K)) (∀w13,Hst w0 Hl1 wl1 Hl1 w13→K false 0 (-1) w13)
def m_J (p1:Option Addr) (shown1:Sl) (aL aM:Int) (aO:ByteArray) (w0:World) (K:Bool→Int→Int→WP):Prop :=∀H2 w2,Hst w0 yF w0 H2 w2→Calls prog 26 #[(vp p1),shown1.v] w2 (fun e w3=>∃r1:Sl,e=.returned r1.v∧Kept H2 w2 w3∧∃(I1:Int→Bool→Int→Int→NP→WP) (mu1:Int→Bool→Int→Int→World→Nat),I1 0 false 0 0 H2 w3∧∀(x1:Int) (aY:Bool) (aZ bA:Int) (Hl1:NP) (wl1:World),Hst w0 Hl1 wl1 Hl1 wl1→I1 x1 aY aZ bA Hl1 wl1→m_J_l1 aL aM aO r1 x1 aY aZ bA w0 Hl1 wl1 (fun y'0 y'1 y'2 y'3 H' w'=>I1 y'0 y'1 y'2 y'3 H' w'∧mu1 y'0 y'1 y'2 y'3 w'<mu1 x1 aY aZ bA wl1) K)
theorem w_J (p1 shown1 aL aM aO w0 K) (h:m_J p1 shown1 aL aM aO w0 K):
  Calls prog 13 #[(vp p1),shown1.v,(.agg #[(vi aL),(vu aM),(vs aO)])] w0 (fun e w'=>∃bB bC bD,e=.returned (An bB bC bD)∧K bB bC bD w'):=by
 refine cw (args:=[(vp p1),shown1.v,(.agg #[(vi aL),(vu aM),(vs aO)])]) func13 ntmps13 ?_
 obtain ⟨hs,hb⟩:=st0 w0
 refine eg (nw3 [(vi aL),(vu aM),(vs aO)] 48 hs hb xb fun p2 w1 H1 hs hb=>nw3 (Am false 0 0) 44 hs hb (zF (zeroValue44 _) rfl) fun p3 w2 H2 hs hb=>ln (zA (eg (qb ?_))))
 have ⟨h,hs⟩:=hs.hr (h H2 w2)
 refine sc call26 (h.mono fun e w3 ⟨r1,k,hk,h⟩=>have ⟨hs,hb⟩:=hk.hh hs hb;⟨_,k,?_⟩)
 refine qb (ln (zH ?_))
 obtain ⟨I1,mu1,h0,hr⟩:=h
 refine qK (σ:=Int×Bool×Int×Int×NP×World) (fun s ρ w=>w=s.2.2.2.2.2∧Has ρ [(5,(vp (some p2))),(6,(vp (some p3))),(13,r1.v),(14,(vi (r1.len:Int))),(15,(vi s.1))]∧Hst w0 s.2.2.2.2.1 w s.2.2.2.2.1 w∧HB s.2.2.2.2.1 w [(p3,(Am (s.2.1) (s.2.2.1) (s.2.2.2.1)),44),(p2,[(vi aL),(vu aM),(vs aO)],48)]∧I1 s.1 s.2.1 s.2.2.1 s.2.2.2.1 s.2.2.2.2.1 s.2.2.2.2.2) (fun s=>mu1 s.1 s.2.1 s.2.2.1 s.2.2.2.1 s.2.2.2.2.2) (0,false,0,0,H2,w3) ⟨rfl,hm,hs,hb,h0⟩ ?_
 rintro ⟨x1,aY,aZ,bA,Hl1,wl1⟩ ρ w ⟨hw,hH,hs,hb,hI⟩
 dsimp only at hw hH hs hb;subst w
 have h:=hr x1 aY aZ bA Hl1 wl1 hs hI
 refine zO hH (eg (q (ln (zA (cbr h ?_ ?_)))))<;>intro h
 refine zB (zM (zA (zH (eg (q (qi (runUnderlying64 _) (sizeOf42 _) h fun a1 h=>?_))))))
 obtain ⟨aC,aD,aE,aF,aG,hv3,h⟩:=h
 refine qa (isAgg42 _) (sizeOf42 _) hv3 (nw3 (Aj 0 0 0 false) 42 hs hb (zF (zeroValue42 _) rfl) fun p4 w4 H3 hs hb=>q (jAI (zY rfl) (xo p4 (Ab aC aD aE aF aG) (sizeOf42 _) (hb.k0 0 5 gZ)) ?_))
 intro w5 hn4
 obtain ⟨hs,hb⟩:=hb.st1 0 hs hn4 gZ
 refine ln (eg (q2 (Ad aC aD aE aF aG) (xa p4 (Ab aC aD aE aF aG) (isAgg42 _) (sizeOf42 _) (hb.r0 0 5 gZ)) (q ?_)))
 have ⟨h,hs⟩:=hs.hr (h H3 w5)
 refine sc call27 (h.mono fun e w6 ⟨r2,k,hk,h⟩=>have ⟨hs,hb⟩:=hk.hh hs hb;⟨_,k,?_⟩)
 refine qb (ln (zH ?_))
 obtain ⟨I2,mu2,h0,hr⟩:=h
 refine qK (σ:=Int×Bool×Int×Int×NP×World) (fun s ρ w=>w=s.2.2.2.2.2∧Has ρ [(5,(vp (some p2))),(6,(vp (some p3))),(7,(vi x1)),(13,r1.v),(14,(vi (r1.len:Int))),(15,(vi x1)),(22,r2.v),(23,(vi (r2.len:Int))),(24,(vi s.1))]∧Hst w0 s.2.2.2.2.1 w s.2.2.2.2.1 w∧HB s.2.2.2.2.1 w [(p4,(Ab aC aD aE aF aG),42),(p3,(Am (s.2.1) (s.2.2.1) (s.2.2.2.1)),44),(p2,[(vi aL),(vu aM),(vs aO)],48)]∧I2 s.1 s.2.1 s.2.2.1 s.2.2.2.1 s.2.2.2.2.1 s.2.2.2.2.2) (fun s=>mu2 s.1 s.2.1 s.2.2.1 s.2.2.2.1 s.2.2.2.2.2) (0,aY,aZ,bA,H3,w6) ⟨rfl,hm,hs,hb,h0⟩ ?_
 rintro ⟨x2,aS,aT,aU,Hl2,wl2⟩ ρ w ⟨hw,hH,hs,hb,hI⟩
 dsimp only at hw hH hs hb;subst w
 have h:=hr x2 aS aT aU Hl2 wl2 hs hI
 refine zO hH (eg (q (ln (zA (cbr h ?_ ?_)))))<;>intro h
 refine zB (zM (zA (zH (eg (qi (runUnderlying66 _) (sizeOf69 _) h fun a2 h=>?_)))))
 obtain ⟨aP,aA,aB,aQ,aX,hv1,h⟩:=h
 refine qa (isAgg69 _) (sizeOf69 _) hv1 (nw3 [(vi 0),(vu 0),ve,(vi 0),(vi 0)] 69 hs hb (zF (zeroValue69 _) rfl) fun p5 w7 H4 hs hb=>sbx 0 [(vi aP),(vu aA),(vs aB),(vi aQ),(vi aX)] (sizeOf69 _) hs hb gZ fun w8 hs hb=>ln (zA (jDR (fun ρ wJ=>∃b2'0:Bool,∃HJ:NP,(((aP == aL) && (aA == aM))=b2'0)∧Hst w0 Hl2 wl2 HJ wJ∧HB HJ wJ [(p5,[(vi aP),(vu aA),(vs aB),(vi aQ),(vi aX)],69),(p4,(Ab aC aD aE aF aG),42),(p3,(Am aS aT aU),44),(p2,[(vi aL),(vu aM),(vs aO)],48)]∧Has ρ [(5,(vp (some p2))),(6,(vp (some p3))),(7,(vi x1)),(10,(vp (some p5))),(13,r1.v),(14,(vi (r1.len:Int))),(15,(vi x1)),(22,r2.v),(23,(vi (r2.len:Int))),(24,(vi x2)),(46,(vb (b2'0 && (decide (aB=aO)))))]) ?_ ?_)))
 refine rg (q (q3 (xl (isAgg3 _) (hb.d0 0 gZ)) (q (q3 (xl (isAgg3 _) (hb.d0 3 (gS (gS (gS gZ))))) (qb (zU 6 (fun ρ wJ=>∃b3'0:Bool,∃HJ:NP,((aP == aL)=b3'0)∧Hst w0 Hl2 wl2 HJ wJ∧HB HJ wJ [(p5,[(vi aP),(vu aA),(vs aB),(vi aQ),(vi aX)],69),(p4,(Ab aC aD aE aF aG),42),(p3,(Am aS aT aU),44),(p2,[(vi aL),(vu aM),(vs aO)],48)]∧Has ρ [(5,(vp (some p2))),(6,(vp (some p3))),(7,(vi x1)),(10,(vp (some p5))),(13,r1.v),(14,(vi (r1.len:Int))),(15,(vi x1)),(22,r2.v),(23,(vi (r2.len:Int))),(24,(vi x2)),(39,(vb (b3'0 && (aA == aM))))]) ?_ ?_))))))
 rintro ρ w11 ⟨b3'0,H7,he0,hs,hb,hH⟩
 subst he0
 refine vD hH (q ?_)
 rcases bte ((aP == aL) && (aA == aM)) with hg6 | hg6
 refine qk 40 hg6 (q4 40 hg6 (xl (isAgg9 _) (hb.d 0 2 gZ)) (qk 40 hg6 (q4 40 hg6 (xl (isAgg9 _) (hb.d 3 2 (gS (gS (gS gZ))))) (stq (v:=(vb (decide (aB=aO)))) (wy 40 hg6) (yQ (by kernel_rfl) (by kernel_rfl)) (q2 (vb (decide (aB=aO))) (xT hg6) (ln ⟨true,_,hg6,hs,hb,hm⟩))))))
 refine sj5 40 hg6 (q2 (vb false) (xF hg6) (ln ⟨false,_,hg6,hs,hb,hm⟩))
 rcases bte (aP == aL) with hg5 | hg5
 refine qk 33 hg5 (q4 33 hg5 (xl (isAgg22 _) (hb.d 0 1 gZ)) (qk 33 hg5 (q4 33 hg5 (xl (isAgg22 _) (hb.d 3 1 (gS (gS (gS gZ))))) (qk 33 hg5 (q2 (vb (aA == aM)) (xT hg5) (zC ⟨true,_,hg5,hs,hb,hm⟩))))))
 refine sj5 33 hg5 (q2 (vb false) (xF hg5) (zC ⟨false,_,hg5,hs,hb,hm⟩))
 rintro ρ w10 ⟨b2'0,H6,he0,hs,hb,hH⟩
 subst he0
 refine jCH hH (zM (cbr h ?_ ?_))<;>intro h
 refine eg (q (q3 (xl (isAgg3 _) (hb.d 0 3 gZ)) (qb (jAI (zY rfl) (xo p3 (Am true aQ x1) (sizeOf44 _) (hb.k0 2 3 (gS (gS gZ)))) ?_))))
 intro w12 hn7
 obtain ⟨hs,hb⟩:=hb.st1 2 hs hn7 (gS (gS gZ))
 refine ln (er (yL (vI (vI (yL (yL (vI (vI (yL (vI ?_))))))))))
 have ⟨h,hs⟩:=hs.hr (h H6 w12)
 refine resG (.inl rfl) (vs:=[(An true aQ x1)]) (v:=(An true aQ x1)) results13 ⟨(rva (isAgg44 _) (sizeOf44 _) (hb.r0 2 3 (gS (gS gZ)))),trivial⟩ (by kernel_rfl) ⟨true,aQ,x1,rfl,h⟩
 refine zB (uX (zM (rg (qb (zC ?_)))))
 have ⟨h,hs⟩:=hs.hr (h H6 w10)
 refine zM ⟨((q6.wrap (x2+1)),aS,aT,aU,H6,w10),⟨rfl,hm,hs,hb.drop 1,h.1⟩,h.2⟩
 refine vE (uG (uG (yO (uX (zM (rg (q0 (vi (q6.wrap (x1+1))) (q0 (vi (q6.wrap (x1+1))) (ln ⟨((q6.wrap (x1+1)),aS,aT,aU,Hl2,wl2),⟨rfl,hm,hs,hb.drop 1,h.1⟩,h.2⟩)))))))))
 refine vE (uG (uG (yO (zM (eg (q0 (An false 0 (-1)) (jAI (zY rfl) (xo p3 (Am false 0 (-1)) (sizeOf44 _) (hb.k0 0 3 gZ)) ?_)))))))
 intro w13 hn8
 obtain ⟨hs,hb⟩:=hb.st1 0 hs hn8 gZ
 refine ln (er ?_)
 have ⟨h,hs⟩:=hs.hr (h w13)
 refine resG (.inl rfl) (vs:=[(An false 0 (-1))]) (v:=(An false 0 (-1))) results13 ⟨(rva (isAgg44 _) (sizeOf44 _) (hb.r0 0 3 gZ)),trivial⟩ (by kernel_rfl) ⟨false,0,(-1),rfl,h⟩
def m_H_j3 (p2:Addr) (x1:Int) (out2:Sl) (k1 aC:Int) (aD aE:Int) (aF:ByteArray) (aG:Bool) (aH aI aA:Int) (aB:ByteArray) (aJ x2:Bool) (w0:World) (H:NP) (w:World) (Kc2:Sl→Int→NP→WP) (_K:Sl→WP):Prop :=Br x2 (Kc2 out2 (q6.wrap (k1+1)) H w) (∃C2:WP,C2 w.drew∧∀w17,w17=w.drew→∃v1,(∀w',C2 w'→(Instr.lookup 70 (.map (some p2.block)) (.agg #[(vi (s_A aC aD aE aF aG aH aI aA aB aJ).1),(vu (s_A aC aD aE aF aG aH aI aA aB aJ).2.1),(vi (s_A aC aD aE aF aG aH aI aA aB aJ).2.2.1),(vi (s_A aC aD aE aF aG aH aI aA aB aJ).2.2.2.1),(vi (s_A aC aD aE aF aG aH aI aA aB aJ).2.2.2.2)]) false).run prog w'=.ok (vi v1) w')∧∃v2 z1,∃w18:World,(Instr.mapEntry 70 (.map (some p2.block)) (.agg #[(vi (s_A aC aD aE aF aG aH aI aA aB aJ).1),(vu (s_A aC aD aE aF aG aH aI aA aB aJ).2.1),(vi (s_A aC aD aE aF aG aH aI aA aB aJ).2.2.1),(vi (s_A aC aD aE aF aG aH aI aA aB aJ).2.2.2.1),(vi (s_A aC aD aE aF aG aH aI aA aB aJ).2.2.2.2)])).run prog w17=.ok (.tuple #[(vi v2),(vi z1)]) w18∧C2 w18∧Kept H w17 w18∧∃w19:World,(Instr.entryStore 70 (.map (some p2.block)) (vi z1) (vi (q6.wrap (v1+1)))).run prog w18=.ok () w19∧Kept H w18 w19∧∀w21,Hst w0 H w19 H w21→∀p8 w22,New w21 (.cells #[(vi (s_A aC aD aE aF aG aH aI aA aB aJ).1),(vu (s_A aC aD aE aF aG aH aI aA aB aJ).2.1),(vi (s_A aC aD aE aF aG aH aI aA aB aJ).2.2.1),(vi x1),(vi k1)] 24) p8 w22→∃s1:Sl,∃w23:World,(Builtin.append_ #[49,49] 49 #[out2.v,(Sl.mk (some p8) 1 1).v]).run prog w22=.ok s1.v w23∧Kept H w22 w23∧Kc2 s1 (q6.wrap (k1+1)) H w23)
def m_H_l2 (p2:Addr) (r1:Sl) (x1:Int) (out2:Sl) (k1:Int) (w0:World) (Hl2:NP) (wl2:World) (Kc1:Sl→Int→NP→WP) (Kc2:Sl→Int→NP→WP) (K:Sl→WP):Prop :=Br (decide (k1<(r1.len:Int))) (∃a1:Addr,At r1 x1 5 a1∧∃aC aD aE aF aG,Row wl2 a1 (Ab aC aD aE aF aG)∧¬ Hl2 a1.block∧∃a2:Addr,At r1 k1 5 a2∧∃aH aI aA aB aJ,Row wl2 a2 (Ab aH aI aA aB aJ)∧¬ Hl2 a2.block∧Br (((s_A aC aD aE aF aG aH aI aA aB aJ).2.2.1:Int) == 0) (∀H3 w10,Hst w0 Hl2 wl2 H3 w10→m_H_j3 p2 x1 out2 k1 aC aD aE aF aG aH aI aA aB aJ true w0 H3 w10 Kc2 K) (∀H3 w10,Hst w0 Hl2 wl2 H3 w10→∃v3,(Instr.lookup 70 (.map (some p2.block)) (.agg #[(vi (s_A aC aD aE aF aG aH aI aA aB aJ).1),(vu (s_A aC aD aE aF aG aH aI aA aB aJ).2.1),(vi (s_A aC aD aE aF aG aH aI aA aB aJ).2.2.1),(vi (s_A aC aD aE aF aG aH aI aA aB aJ).2.2.2.1),(vi (s_A aC aD aE aF aG aH aI aA aB aJ).2.2.2.2)]) false).run prog w10=.ok (vi v3) w10∧m_H_j3 p2 x1 out2 k1 aC aD aE aF aG aH aI aA aB aJ (decide (v3>0)) w0 H3 w10 Kc2 K)) (Kc1 out2 (q6.wrap (x1+1)) Hl2 wl2)
def m_H_l1 (p2:Addr) (r1 out1:Sl) (x1:Int) (w0:World) (Hl1:NP) (wl1:World) (Kc1:Sl→Int→NP→WP) (K:Sl→WP):Prop :=Br (decide (x1<(r1.len:Int))) (∃(I2:Sl→Int→NP→WP) (mu2:Sl→Int→World→Nat),I2 out1 (q6.wrap (x1+1)) Hl1 wl1∧∀(out2:Sl) (k1:Int) (Hl2:NP) (wl2:World),Hst w0 Hl2 wl2 Hl2 wl2→I2 out2 k1 Hl2 wl2→m_H_l2 p2 r1 x1 out2 k1 w0 Hl2 wl2 Kc1 (fun y'0 y'1 H' w'=>I2 y'0 y'1 H' w'∧mu2 y'0 y'1 w'<mu2 out2 k1 wl2) K) (K out1 wl1)
def m_H (p1:Option Addr) (shown1:Sl) (w0:World) (K:Sl→WP):Prop :=∀p2 w1,New w0 (.map #[] 0) p2 w1→Calls prog 26 #[(vp p1),shown1.v] w1 (fun e w2=>∃r1:Sl,e=.returned r1.v∧Kept yF w1 w2∧∃(I1:Sl→Int→NP→WP) (mu1:Sl→Int→World→Nat),I1 Sl.nil 0 yF w2∧∀(out1:Sl) (x1:Int) (Hl1:NP) (wl1:World),Hst w0 Hl1 wl1 Hl1 wl1→I1 out1 x1 Hl1 wl1→m_H_l1 p2 r1 out1 x1 w0 Hl1 wl1 (fun y'0 y'1 H' w'=>I1 y'0 y'1 H' w'∧mu1 y'0 y'1 w'<mu1 out1 x1 wl1) K)
theorem w_H (p1 shown1 w0 K) (h:m_H p1 shown1 w0 K):
  Calls prog 14 #[(vp p1),shown1.v] w0 (fun e w'=>∃r2:Sl,e=.returned r2.v∧K r2 w'):=by
 refine cw (args:=[(vp p1),shown1.v]) func14 ntmps14 ?_
 obtain ⟨hs,hb⟩:=st0 w0
 refine eg (q (ln (eg (q (ln (eg (nw5 (fun p=>.map (some p.block)) hs hb h fun p2 w1 hs hb h=>q (ln (eg (qb (sc call26 (h.mono fun e w2 ⟨r1,k,hk,h⟩=>have ⟨hs,hb⟩:=hk.hh hs hb;⟨_,k,?_⟩))))))))))))
 refine q (ln (zA (eg (qc (ln (zH ?_))))))
 obtain ⟨I1,mu1,h0,hr⟩:=h
 refine qK (σ:=Sl×Int×NP×World) (fun s ρ w=>w=s.2.2.2∧Has ρ [(5,s.1.v),(6,(.map (some p2.block))),(7,r1.v),(16,(vi (r1.len:Int))),(17,(vi s.2.1))]∧Hst w0 s.2.2.1 w s.2.2.1 w∧HB s.2.2.1 w []∧I1 s.1 s.2.1 s.2.2.1 s.2.2.2) (fun s=>mu1 s.1 s.2.1 s.2.2.2) (Sl.nil,0,yF,w2) ⟨rfl,hm,hs,hb,h0⟩ ?_
 rintro ⟨out1,x1,Hl1,wl1⟩ ρ w ⟨hw,hH,hs,hb,hI⟩
 dsimp only at hw hH hs hb;subst w
 have h:=hr out1 x1 Hl1 wl1 hs hI
 refine zO hH (eg (q (ln (zA (cbr h ?_ ?_)))))<;>intro h
 refine zB (zM (zA (zH (eg (qb (ln (jAB rfl (fun _ _ _ h=>h) (zA (jAC (zM (eg (q0 (vi x1) (q0 (vi (q6.wrap (x1+1))) (q0 (vi (q6.wrap (x1+1))) (ln (zH ?_))))))))))))))))
 obtain ⟨I2,mu2,h0,hr⟩:=h
 refine qK (σ:=Sl×Int×NP×World) (fun s ρ w=>w=s.2.2.2∧Has ρ [(5,s.1.v),(6,(.map (some p2.block))),(7,r1.v),(8,(vi x1)),(9,(vi s.2.1)),(16,(vi (r1.len:Int))),(17,(vi x1))]∧Hst w0 s.2.2.1 w s.2.2.1 w∧HB s.2.2.1 w []∧I2 s.1 s.2.1 s.2.2.1 s.2.2.2) (fun s=>mu2 s.1 s.2.1 s.2.2.2) (out1,(q6.wrap (x1+1)),Hl1,wl1) ⟨rfl,hm,hs,hb,h0⟩ ?_
 rintro ⟨out2,k1,Hl2,wl2⟩ ρ w ⟨hw,hH,hs,hb,hI⟩
 dsimp only at hw hH hs hb;subst w
 have h:=hr out2 k1 Hl2 wl2 hs hI
 refine zO hH (zA (eg (qd (ln (cbr h ?_ ?_)))))<;>intro h
 refine zB (zM (zA (zH (zA (uI (fun x=>∃H',Hst w0 Hl2 wl2 H' x∧HB H' x []) [8,9,10] [8,10] (by kernel_rfl) (by kernel_rfl) (by kernel_rfl) (by kernel_rfl) ⟨_,hs.drew,hb.drew⟩ ?_)))))
 intro w3 hw3
 have hs:Hst w0 Hl2 wl2 Hl2 w3:=by rw [hw3];exact hs.drew
 have hb:HB Hl2 w3 []:=by rw [hw3];exact hb.drew
 refine qx 0 r1.v Kp0 (qx 1 (vi x1) Kp1 (qg 2 ?_))
 obtain ⟨a1,hv9,h⟩:=h
 refine sy Kp2 (fun _ _=>xi (runUnderlying64 _) (sizeOf42 _) hv9) (qg 3 ?_)
 obtain ⟨aC,aD,aE,aF,aG,hv8,hnh,h⟩:=h
 refine sy (v:=(Ad aC aD aE aF aG)) Kp3 (fun w' hw'=>by obtain ⟨H',hs',hb'⟩:=hw';exact (xa a1 (Ab aC aD aE aF aG) (isAgg42 _) (sizeOf42 _) (jDW hv8 hnh hs'))) (qx 4 r1.v Kp4 (qx 5 (vi k1) Kp5 (qg 6 ?_)))
 obtain ⟨a2,hv7,h⟩:=h
 refine sy Kp6 (fun _ _=>xi (runUnderlying64 _) (sizeOf42 _) hv7) (qg 7 ?_)
 obtain ⟨aH,aI,aA,aB,aJ,hv6,hnh,h⟩:=h
 refine sy (v:=(Ad aH aI aA aB aJ)) Kp7 (fun w' hw'=>by obtain ⟨H',hs',hb'⟩:=hw';exact (xa a2 (Ab aH aI aA aB aJ) (isAgg42 _) (sizeOf42 _) (jDW hv6 hnh hs'))) (jFQ (fun ρ wJ=>∃p5:Addr,∃HJ:NP,Hst w0 Hl2 wl2 HJ wJ∧HB HJ wJ [(p5,(Ag ((s_A aC aD aE aF aG aH aI aA aB aJ).1) ((s_A aC aD aE aF aG aH aI aA aB aJ).2.1) ((s_A aC aD aE aF aG aH aI aA aB aJ).2.2.1) ((s_A aC aD aE aF aG aH aI aA aB aJ).2.2.2.1) ((s_A aC aD aE aF aG aH aI aA aB aJ).2.2.2.2)),24)]∧Has ρ [(5,out2.v),(6,(.map (some p2.block))),(7,r1.v),(8,(vi x1)),(9,(vi k1)),(10,(vp (some p5))),(16,(vi (r1.len:Int))),(17,(vi x1))]) ?_ ?_)
 refine jFK (k:=8) (k':=9) (by kernel_rfl) ?_ ?_
 refine slc Kp8 call28 ((p_A aC aD aE aF aG aH aI aA aB aJ w3).mono ?_)
 rintro e w11 ⟨he,hE⟩
 obtain ⟨hs,hb⟩:=hs.pp hb hE
 refine ⟨(Ai ((s_A aC aD aE aF aG aH aI aA aB aJ).1) ((s_A aC aD aE aF aG aH aI aA aB aJ).2.1) ((s_A aC aD aE aF aG aH aI aA aB aJ).2.2.1) ((s_A aC aD aE aF aG aH aI aA aB aJ).2.2.2.1) ((s_A aC aD aE aF aG aH aI aA aB aJ).2.2.2.2)),he.trans (by kernel_rfl),.inl (by kernel_rfl),?_⟩
 refine lg 9 (vP (O:=(.cells #[(vi 0),(vu 0),(vi 0),(vi 0),(vi 0)] 24)) (fun p=>.pointer (some p)) Kp9 (zY rfl) (by kernel_rfl) (zF (zeroValue24 _) rfl) ?_)
 intro p6 w12 hn5
 obtain ⟨H4,hs,hb⟩:=hs.alloc hb hn5
 refine ⟨.inr ⟨_,hs,hb.drop 1⟩,?_⟩
 refine lg 10 (jCE (zQ (S8 (zE (zE zP)))) (zY rfl) (by kernel_rfl) (xo p6 (Ag ((s_A aC aD aE aF aG aH aI aA aB aJ).1) ((s_A aC aD aE aF aG aH aI aA aB aJ).2.1) ((s_A aC aD aE aF aG aH aI aA aB aJ).2.2.1) ((s_A aC aD aE aF aG aH aI aA aB aJ).2.2.2.1) ((s_A aC aD aE aF aG aH aI aA aB aJ).2.2.2.2)) (sizeOf24 _) (hb.k0 0 5 gZ)) ?_)
 intro w13 hn6
 obtain ⟨hs,hb⟩:=hb.st1 0 hs hn6 gZ
 refine ⟨.inl (by kernel_rfl),?_⟩
 refine wn ⟨p6,_,hs,hb,hm⟩
 refine vP (O:=(.cells #[(vi 0),(vu 0),(vi 0),(vi 0),(vi 0)] 24)) (fun p=>.pointer (some p)) Kp9 (zY rfl) (by kernel_rfl) (zF (zeroValue24 _) rfl) ?_
 intro p7 w14 hn7
 obtain ⟨H5,hs,hb⟩:=hs.alloc hb hn7
 refine ⟨.inr ⟨_,hs,hb.drop 1⟩,?_⟩
 refine lg 8 (slc Kp8 call28 ((p_A aC aD aE aF aG aH aI aA aB aJ w14).mono ?_))
 rintro e w15 ⟨he,hE⟩
 obtain ⟨hs,hb⟩:=hs.pp hb hE
 refine ⟨(Ai ((s_A aC aD aE aF aG aH aI aA aB aJ).1) ((s_A aC aD aE aF aG aH aI aA aB aJ).2.1) ((s_A aC aD aE aF aG aH aI aA aB aJ).2.2.1) ((s_A aC aD aE aF aG aH aI aA aB aJ).2.2.2.1) ((s_A aC aD aE aF aG aH aI aA aB aJ).2.2.2.2)),he.trans (by kernel_rfl),.inl (by kernel_rfl),?_⟩
 refine lg 10 (jCE (zQ (S8 (zE (zE zP)))) (zY rfl) (by kernel_rfl) (xo p7 (Ag ((s_A aC aD aE aF aG aH aI aA aB aJ).1) ((s_A aC aD aE aF aG aH aI aA aB aJ).2.1) ((s_A aC aD aE aF aG aH aI aA aB aJ).2.2.1) ((s_A aC aD aE aF aG aH aI aA aB aJ).2.2.2.1) ((s_A aC aD aE aF aG aH aI aA aB aJ).2.2.2.2)) (sizeOf24 _) (hb.k0 0 5 gZ)) ?_)
 intro w16 hn8
 obtain ⟨hs,hb⟩:=hb.st1 0 hs hn8 gZ
 refine ⟨.inl (by kernel_rfl),?_⟩
 refine wn ⟨p7,_,hs,hb,hm⟩
 rintro ρ w10 ⟨p5,H3,hs,hb,hH⟩
 refine q_has hH (zM (zA (zA (jAD (fun ρ w=>∃x2,∃H:NP,Has ρ [(5,out2.v),(6,(.map (some p2.block))),(7,r1.v),(8,(vi x1)),(9,(vi k1)),(10,(vp (some p5))),(16,(vi (r1.len:Int))),(17,(vi x1)),(45,(vb x2))]∧Hst w0 H w H w∧HB H w [(p5,(Ag ((s_A aC aD aE aF aG aH aI aA aB aJ).1) ((s_A aC aD aE aF aG aH aI aA aB aJ).2.1) ((s_A aC aD aE aF aG aH aI aA aB aJ).2.2.1) ((s_A aC aD aE aF aG aH aI aA aB aJ).2.2.2.1) ((s_A aC aD aE aF aG aH aI aA aB aJ).2.2.2.2)),24)]∧m_H_j3 p2 x1 out2 k1 aC aD aE aF aG aH aI aA aB aJ x2 w0 H w (fun y'0 y'1 H' w'=>I2 y'0 y'1 H' w'∧mu2 y'0 y'1 w'<mu2 out2 k1 wl2) K) ?_ ?_))))
 rintro ρ w ⟨x2,H,hH,hs,hb,h⟩
 refine zO hH (cbr h ?_ ?_)<;>intro h
 refine vE (uG (yO (zM (rg (q0 (vi k1) (q0 (vi (q6.wrap (k1+1))) (q0 (vi (q6.wrap (k1+1))) (ln ⟨(out2,(q6.wrap (k1+1)),H,w),⟨rfl,hm,hs,hb.drop 1,h.1⟩,h.2⟩))))))))
 refine zB (zM (zA ?_))
 obtain ⟨C2,hC,h⟩:=h
 refine dr2 (fun x=>C2 x∧HB H x _) [4,6] [6] ⟨hC,hb.drew⟩ h hs hb fun w17 hs hb h=>?_
 have hs:=hs.here
 refine qx 0 (.map (some p2.block)) Kp0 (qz 1 (Ai ((s_A aC aD aE aF aG aH aI aA aB aJ).1) ((s_A aC aD aE aF aG aH aI aA aB aJ).2.1) ((s_A aC aD aE aF aG aH aI aA aB aJ).2.2.1) ((s_A aC aD aE aF aG aH aI aA aB aJ).2.2.2.1) ((s_A aC aD aE aF aG aH aI aA aB aJ).2.2.2.2)) Kp1 (fun w' hw'=>(xa p5 (Ag ((s_A aC aD aE aF aG aH aI aA aB aJ).1) ((s_A aC aD aE aF aG aH aI aA aB aJ).2.1) ((s_A aC aD aE aF aG aH aI aA aB aJ).2.2.1) ((s_A aC aD aE aF aG aH aI aA aB aJ).2.2.2.1) ((s_A aC aD aE aF aG aH aI aA aB aJ).2.2.2.2)) (isAgg24 _) (sizeOf24 _) (hw'.2.r0 0 5 gZ))) (qg 2 ?_))
 obtain ⟨v1,hv4,h⟩:=h
 refine sy (v:=(vi v1)) Kp2 (fun w' hw'=>(tH (by kernel_rfl) (by kernel_rfl) (hv4 w' hw'.1))) (qx 3 (vi (q6.wrap (v1+1))) Kp3 (lg 4 ?_))
 obtain ⟨v2,z1,w18,hv3,hC,hk,h⟩:=h
 refine sl (v:=(.tuple #[(vi v2),(vi z1)])) Kp4 (zY rfl) (by kernel_rfl) (jCQ (by kernel_rfl) (by kernel_rfl) hv3) (.inr ⟨hC,hb.kept hk⟩) ?_
 obtain ⟨hs,hb⟩:=hk.hh hs hb
 refine qx 5 (vi z1) Kp5 (lg 6 ?_)
 obtain ⟨w19,hv2,hk,h⟩:=h
 refine jBL Kp6 (zY rfl) (by kernel_rfl) (jAA (by kernel_rfl) (by kernel_rfl) (by kernel_rfl) hv2) (.inl (by kernel_rfl)) ?_
 obtain ⟨hs,hb⟩:=hk.hh hs hb
 refine wn (zM (eg (qc (jAI (zY rfl) (tF (a:=(p5.add 3)) (v:=(vi x1)) (by kernel_rfl) (by kernel_rfl) rfl (sizeOf3 _) (hb.canW 0 3 gZ (by kernel_rfl))) ?_))))
 intro w20 hn9
 have hsb:Hst w0 H w19 H w20∧HB H w20 [(p5,(Ag ((s_A aC aD aE aF aG aH aI aA aB aJ).1) ((s_A aC aD aE aF aG aH aI aA aB aJ).2.1) ((s_A aC aD aE aF aG aH aI aA aB aJ).2.2.1) x1 ((s_A aC aD aE aF aG aH aI aA aB aJ).2.2.2.2)),24)]:=by
  rw [hn9];exact hb.set (i:=0) 3 (v:=(vi x1)) hs gZ (by kernel_rfl)
 obtain ⟨hs,hb⟩:=hsb
 refine q (jAI (zY rfl) (tF (a:=(p5.add 4)) (v:=(vi k1)) (by kernel_rfl) (by kernel_rfl) rfl (sizeOf3 _) (hb.canW 0 4 gZ (by kernel_rfl))) ?_)
 intro w21 hn10
 have hsb:Hst w0 H w19 H w21∧HB H w21 [(p5,(Ag ((s_A aC aD aE aF aG aH aI aA aB aJ).1) ((s_A aC aD aE aF aG aH aI aA aB aJ).2.1) ((s_A aC aD aE aF aG aH aI aA aB aJ).2.2.1) x1 k1),24)]:=by
  rw [hn10];exact hb.set (i:=0) 4 (v:=(vi k1)) hs gZ (by kernel_rfl)
 obtain ⟨hs,hb⟩:=hsb
 refine ln (rg (q (q2 (Ai ((s_A aC aD aE aF aG aH aI aA aB aJ).1) ((s_A aC aD aE aF aG aH aI aA aB aJ).2.1) ((s_A aC aD aE aF aG aH aI aA aB aJ).2.2.1) x1 k1) (xa p5 (Ag ((s_A aC aD aE aF aG aH aI aA aB aJ).1) ((s_A aC aD aE aF aG aH aI aA aB aJ).2.1) ((s_A aC aD aE aF aG aH aI aA aB aJ).2.2.1) x1 k1) (isAgg24 _) (sizeOf24 _) (hb.r0 0 5 gZ)) ?_)))
 have ⟨h,hs⟩:=hs.hr (h w21)
 refine nw5 (fun p=>(Sl.mk (some p) 1 1).v) hs hb h fun p8 w22 hs hb h=>?_
 obtain ⟨s1,w23,hv1,hk,h⟩:=h
 refine st (v:=s1.v) (zY rfl) (qR (args:=#[out2.v,(Sl.mk (some p8) 1 1).v]) (by kernel_rfl) (fun _=>rfl) hv1) ?_
 obtain ⟨hs,hb⟩:=hk.hh hs hb
 refine q (zC (uX (zM (rg (qc (ln ⟨(s1,(q6.wrap (k1+1)),H,w23),⟨rfl,hm,hs,hb.drop 1,h.1⟩,h.2⟩))))))
 refine rg (q (q3 (xl (isAgg3 _) (hb.d 0 2 gZ)) (qb ?_)))
 obtain ⟨hg1,h⟩|⟨hg1,h⟩:=h.br
 refine sj4 40 hg1 (q2 (vb true) (xT hg1) (zC ?_))
 have ⟨h,hs⟩:=hs.hr (h H3 w10)
 refine zM ⟨true,H3,hm,hs,hb,h⟩
 refine qk 40 hg1 (stq (v:=(Ai ((s_A aC aD aE aF aG aH aI aA aB aJ).1) ((s_A aC aD aE aF aG aH aI aA aB aJ).2.1) ((s_A aC aD aE aF aG aH aI aA aB aJ).2.2.1) ((s_A aC aD aE aF aG aH aI aA aB aJ).2.2.2.1) ((s_A aC aD aE aF aG aH aI aA aB aJ).2.2.2.2))) (wy 40 hg1) (xa p5 (Ag ((s_A aC aD aE aF aG aH aI aA aB aJ).1) ((s_A aC aD aE aF aG aH aI aA aB aJ).2.1) ((s_A aC aD aE aF aG aH aI aA aB aJ).2.2.1) ((s_A aC aD aE aF aG aH aI aA aB aJ).2.2.2.1) ((s_A aC aD aE aF aG aH aI aA aB aJ).2.2.2.2)) (isAgg24 _) (sizeOf24 _) (hb.r0 0 5 gZ)) ?_)
 have ⟨h,hs⟩:=hs.hr (h H3 w10)
 obtain ⟨v3,hv5,h⟩:=h
 refine stq (v:=(vi v3)) (wy 40 hg1) (tH (by kernel_rfl) (by kernel_rfl) hv5) (qk 40 hg1 (q2 (vb (decide (v3>0))) (xF hg1) (ln ⟨(decide (v3>0)),H3,hm,hs,hb,h⟩)))
 refine vE (uG (uG (yO (uX (zM (rg (q0 (vi (q6.wrap (x1+1))) (q0 (vi (q6.wrap (x1+1))) (ln ⟨(out2,(q6.wrap (x1+1)),Hl2,wl2),⟨rfl,hm,hs,hb,h.1⟩,h.2⟩)))))))))
 refine vE (uG (uG (yO (zM (eg (q0 out1.v (q0 out1.v (ln (er (rs1 results14 ⟨out1,rfl,h⟩))))))))))
end Go.Proofs
end
section
open Go Go.SE
namespace Go.Proofs
open Tryd
set_option maxRecDepth 100000
set_option maxHeartbeats 4000000
attribute [local irreducible] wpL wpX opE wpE Calls
theorem qF (a0:Bool) (a1 a2:Int) (b0:Bool) (b1 b2:Int) (w:World):(Go.binOp .eql 44 (.agg #[(.bool a0),(.int .i64 a1),(.int .i64 a2)]) (.agg #[(.bool b0),(.int .i64 b1),(.int .i64 b2)])).run prog w=.ok (.bool ((a0 == b0) && ((a1 == b1) && (a2 == b2)))) w:=by
 simp [Go.binOp,Op.equal,Op.maxDepth,go_sem,jCY,bne]
 repeat' split
 all_goals simp_all
theorem yJ (a0 a1:Int) (a2 a3:Int) (a4 b0:Int) (b1 b2:Int) (b3 b4:Int) (w:World):(Go.binOp .eql 24 (.agg #[(.int .i64 a0),(.int .u64 a1),(.int .i64 a2),(.int .i64 a3),(.int .i64 a4)]) (.agg #[(.int .i64 b0),(.int .u64 b1),(.int .i64 b2),(.int .i64 b3),(.int .i64 b4)])).run prog w=.ok (.bool ((a0 == b0) && ((a1 == b1) && ((a2 == b2) && ((a3 == b3) && (a4 == b4)))))) w:=by
 simp [Go.binOp,Op.equal,Op.maxDepth,go_sem,jCY,bne]
 repeat' split
 all_goals simp_all
def m_O1  (w0:World) (K:Bool→WP):Prop :=Calls prog 10 #[] w0 (fun e w1=>∃r1,e=.returned (vp r1)∧Kept yF w0 w1∧Br (Option.isNone r1) (K false w1) (Calls prog 12 #[(.agg #[(vi 2),(vi 1),(vu 7),(vs (⟨#[116]⟩:ByteArray)),(vb false)]),(vb false),(vb false)] w1 (fun e w2=>∃aQ aR aS aT aU aV,e=.returned (Aa aQ aR aS aT aU aV)∧Kept yF w1 w2∧Calls prog 11 #[(vp r1),(.agg #[(vi aQ),(vi aR),(vi aS),(vu aT),(vs aU),aV.v])] w2 (fun e w3=>∃r2 r3,e=.returned (.tuple #[(vi r2),(vi r3)])∧Kept yF w2 w3∧Calls prog 12 #[(.agg #[(vi 1),(vi 1),(vu 7),(vs (⟨#[116]⟩:ByteArray)),(vb false)]),(vb false),(vb false)] w3 (fun e w4=>∃aW aX aY aZ bA bB,e=.returned (Aa aW aX aY aZ bA bB)∧Kept yF w3 w4∧Calls prog 11 #[(vp r1),(.agg #[(vi aW),(vi aX),(vi aY),(vu aZ),(vs bA),bB.v])] w4 (fun e w5=>∃r4 r5,e=.returned (.tuple #[(vi r4),(vi r5)])∧Kept yF w4 w5∧Calls prog 12 #[(.agg #[(vi 2),(vi 1),(vu 7),(vs (⟨#[117]⟩:ByteArray)),(vb false)]),(vb false),(vb false)] w5 (fun e w6=>∃bC bD bE bF bG bH,e=.returned (Aa bC bD bE bF bG bH)∧Kept yF w5 w6∧Calls prog 11 #[(vp r1),(.agg #[(vi bC),(vi bD),(vi bE),(vu bF),(vs bG),bH.v])] w6 (fun e w7=>∃r6 r7,e=.returned (.tuple #[(vi r6),(vi r7)])∧Kept yF w6 w7∧Br (((r3 != 0) || (r5 != 0)) || (r7 != 0)) (∀H2 w9,Hst w0 yF w7 H2 w9→K false w9) (∀H2 w9,Hst w0 yF w7 H2 w9→∀p1 w11,New w9 (.cells #[(vi r4),(vi r2)] 33) p1 w11→Calls prog 13 #[(vp r1),(Sl.mk (some p1) 2 2).v,(.agg #[(vi 1),(vu 7),(vs (⟨#[116]⟩:ByteArray))])] w11 (fun e w12=>∃aA aB aC,e=.returned (An aA aB aC)∧Kept H2 w11 w12∧∀H4 w14,Hst w0 H2 w12 H4 w14→∀p3 w15,New w14 (.cells #[(vi r4)] 33) p3 w15→Calls prog 13 #[(vp r1),(Sl.mk (some p3) 1 1).v,(.agg #[(vi 1),(vu 7),(vs (⟨#[116]⟩:ByteArray))])] w15 (fun e w16=>∃aD aE aF,e=.returned (An aD aE aF)∧Kept H4 w15 w16∧∀H5 w18,Hst w0 H4 w16 H5 w18→∀p5 w19,New w18 (.cells #[(vi r2),(vi r4),(vi r6)] 33) p5 w19→Calls prog 14 #[(vp r1),(Sl.mk (some p5) 3 3).v] w19 (fun e w20=>∃r8:Sl,e=.returned r8.v∧Kept H5 w19 w20∧∀y1:Bool,y1=(((aA == true) && ((aB == 1) && (aC == 1))) && ((aD == false) && ((aE == 0) && (aF == (-1)))))→Br (y1 && (((r8.len:Int):Int) == 1)) (∃a1:Addr,At r8 0 5 a1∧∀H7 w22,Hst w0 H5 w20 H7 w22→∃aL aM aN aO aP,Row w22 a1 (Ag aL aM aN aO aP)∧K ((aL == 1) && ((aM == 7) && ((aN == 1) && ((aO == 0) && (aP == 2))))) w22) (∀H7 w22,Hst w0 H5 w20 H7 w22→K false w22)))))))))))))
theorem w_O1  (w0:World) (K:Bool→WP) (h:m_O1  w0 K) :
  Calls prog 6 #[] w0 (fun e w'=>∃r9,e=.returned (vb r9)∧K r9 w'):=by
 refine cw (args:=[]) func6 ntmps6 ?_
 obtain ⟨hs,hb⟩:=st0 w0
 refine eg (q (ln (eg (sc call10 (h.mono fun e w1 ⟨r1,k,hk,h⟩=>have ⟨hs,hb⟩:=hk.hh hs hb;⟨_,k,?_⟩)))))
 refine q (ln (zA (eg (q (q2 (vb (Option.isNone r1)) (tG (by kernel_rfl) rfl underlying31) (ln (cbr h ?_ ?_)))))))<;>intro h
 refine eg (q (ln (er (vI (rs1 results6 ⟨false,rfl,h⟩)))))
 refine zB (zM (eg (qb (sc call12 (h.mono fun e w2 ⟨aQ,aR,aS,aT,aU,aV,k,hk,h⟩=>have ⟨hs,hb⟩:=hk.hh hs hb;⟨_,k,?_⟩)))))
 refine sc call11 (h.mono fun e w3 ⟨r2,r3,k,hk,h⟩=>have ⟨hs,hb⟩:=hk.hh hs hb;⟨_,k,?_⟩)
 refine q (qd (ln (eg (qb (sc call12 (h.mono fun e w4 ⟨aW,aX,aY,aZ,bA,bB,k,hk,h⟩=>have ⟨hs,hb⟩:=hk.hh hs hb;⟨_,k,?_⟩))))))
 refine sc call11 (h.mono fun e w5 ⟨r4,r5,k,hk,h⟩=>have ⟨hs,hb⟩:=hk.hh hs hb;⟨_,k,?_⟩)
 refine q (qd (ln (eg (qb (sc call12 (h.mono fun e w6 ⟨bC,bD,bE,bF,bG,bH,k,hk,h⟩=>have ⟨hs,hb⟩:=hk.hh hs hb;⟨_,k,?_⟩))))))
 refine sc call11 (h.mono fun e w7 ⟨r6,r7,k,hk,h⟩=>have ⟨hs,hb⟩:=hk.hh hs hb;⟨_,k,?_⟩)
 refine q (qd (ln (zA (zA (jDR (fun ρ wJ=>∃b2'0:Bool,∃HJ:NP,(((r3 != 0) || (r5 != 0))=b2'0)∧Hst w0 yF w7 HJ wJ∧HB HJ wJ []∧Has ρ [(1,(vp r1)),(2,(vi r2)),(4,(vi r4)),(6,(vi r6)),(44,(vb (b2'0 || (r7 != 0))))]) ?_ ?_)))))
 refine rg (qc (zU 3 (fun ρ wJ=>∃b3'0:Bool,∃HJ:NP,((r3 != 0)=b3'0)∧Hst w0 yF w7 HJ wJ∧HB HJ wJ []∧Has ρ [(1,(vp r1)),(2,(vi r2)),(4,(vi r4)),(6,(vi r6)),(7,(vi r7)),(40,(vb (b3'0 || (r5 != 0))))]) ?_ ?_))
 rintro ρ w10 ⟨b3'0,H3,he0,hs,hb,hH⟩
 subst he0
 refine vD hH (q ?_)
 rcases bte ((r3 != 0) || (r5 != 0)) with hg6 | hg6
 refine sj2 41 hg6 (q2 (vb true) (xT hg6) (ln ⟨true,_,hg6,hs,hb,hm⟩))
 refine qk 41 hg6 (qk 41 hg6 (q2 (vb (r7 != 0)) (xF hg6) (ln ⟨false,_,hg6,hs,hb,hm⟩)))
 rcases bte (r3 != 0) with hg5 | hg5
 refine sj2 37 hg5 (q2 (vb true) (xT hg5) (zC ⟨true,_,hg5,hs,hb,hm⟩))
 refine qk 37 hg5 (qk 37 hg5 (q2 (vb (r5 != 0)) (xF hg5) (zC ⟨false,_,hg5,hs,hb,hm⟩)))
 rintro ρ w9 ⟨b2'0,H2,he0,hs,hb,hH⟩
 subst he0
 refine jCH hH (zM (cbr h ?_ ?_))<;>intro h
 refine eg (q (ln (er (vI ?_))))
 have ⟨h,hs⟩:=hs.hr (h H2 w9)
 refine rs1 results6 ⟨false,rfl,h⟩
 refine zB (zM (eg (qc ?_)))
 have ⟨h,hs⟩:=hs.hr (h H2 w9)
 refine nw5 (fun p=>(Sl.mk (some p) 2 2).v) hs hb h fun p1 w11 hs hb h=>q (sc call13 (h.mono fun e w12 ⟨aA,aB,aC,k,hk,h⟩=>have ⟨hs,hb⟩:=hk.hh hs hb;⟨_,k,?_⟩))
 refine nw3 (Am false 0 0) 44 hs hb (zF (zeroValue44 _) rfl) fun p2 w13 H4 hs hb=>sbx 0 (Am aA aB aC) (sizeOf44 _) hs hb gZ fun w14 hs hb=>ln (eg (qb ?_))
 have ⟨h,hs⟩:=hs.hr (h H4 w14)
 refine nw5 (fun p=>(Sl.mk (some p) 1 1).v) hs hb h fun p3 w15 hs hb h=>q (sc call13 (h.mono fun e w16 ⟨aD,aE,aF,k,hk,h⟩=>have ⟨hs,hb⟩:=hk.hh hs hb;⟨_,k,?_⟩))
 refine nw3 (Am false 0 0) 44 hs hb (zF (zeroValue44 _) rfl) fun p4 w17 H5 hs hb=>sbx 0 (Am aD aE aF) (sizeOf44 _) hs hb gZ fun w18 hs hb=>ln (eg (qd ?_))
 have ⟨h,hs⟩:=hs.hr (h H5 w18)
 refine nw5 (fun p=>(Sl.mk (some p) 3 3).v) hs hb h fun p5 w19 hs hb h=>sc call14 (h.mono fun e w20 ⟨r8,k,hk,h⟩=>have ⟨hs,hb⟩:=hk.hh hs hb;⟨_,k,?_⟩)
 refine q (ln (eg (q2 (An aA aB aC) (xa p2 (Am aA aB aC) (isAgg44 _) (sizeOf44 _) (hb.r0 1 3 (gS gZ))) (q (q2 (vb ((aA == true) && ((aB == 1) && (aC == 1)))) (tI (by kernel_rfl) (by kernel_rfl) (by kernel_rfl) (qF aA aB aC true 1 1 _)) (q (zU 4 (fun ρ wJ=>∃b4'0 y1:Bool,∃HJ:NP,(((aA == true) && ((aB == 1) && (aC == 1)))=b4'0)∧(y1=(b4'0 && ((aD == false) && ((aE == 0) && (aF == (-1))))))∧Hst w0 H5 w20 HJ wJ∧HB HJ wJ [(p4,(Am aD aE aF),44),(p2,(Am aA aB aC),44)]∧Has ρ [(10,r8.v),(69,(vb y1))]) ?_ ?_)))))))
 rintro ρ w21 ⟨b4'0,y1,H6,he0,hy1,hs,hb,hH⟩
 subst he0
 have h:=h y1 hy1
 refine vD hH (q (zU 4 (fun ρ wJ=>∃b5'0:Bool,∃HJ:NP,(y1=b5'0)∧Hst w0 H5 w20 HJ wJ∧HB HJ wJ [(p4,(Am aD aE aF),44),(p2,(Am aA aB aC),44)]∧Has ρ [(10,r8.v),(74,(vb (b5'0 && (((r8.len:Int):Int) == 1))))]) ?_ ?_))
 rintro ρ w22 ⟨b5'0,H7,he0,hs,hb,hH⟩
 subst he0
 refine vD hH (q ?_)
 obtain ⟨hg11,h⟩|⟨hg11,h⟩:=h.br
 refine qk 75 hg11 ?_
 obtain ⟨a1,hv2,h⟩:=h
 refine q4 75 hg11 (xi (runUnderlying49 _) (sizeOf24 _) hv2) ?_
 have ⟨h,hs⟩:=hs.hr (h H7 w22)
 obtain ⟨aL,aM,aN,aO,aP,hv1,h⟩:=h
 refine stq (v:=(Ai aL aM aN aO aP)) (wy 75 hg11) (xa a1 (Ag aL aM aN aO aP) (isAgg24 _) (sizeOf24 _) hv1) (qk 75 hg11 (stq (v:=(vb ((aL == 1) && ((aM == 7) && ((aN == 1) && ((aO == 0) && (aP == 2))))))) (wy 75 hg11) (tI (by kernel_rfl) (by kernel_rfl) (by kernel_rfl) (yJ aL aM aN aO aP 1 7 1 0 2 _)) (q2 (vb ((aL == 1) && ((aM == 7) && ((aN == 1) && ((aO == 0) && (aP == 2)))))) (xT hg11) (q (ln (er (rs1 results6 ⟨((aL == 1) && ((aM == 7) && ((aN == 1) && ((aO == 0) && (aP == 2))))),rfl,h⟩)))))))
 refine sj5 75 hg11 (q2 (vb false) (xF hg11) (q (ln (er ?_))))
 have ⟨h,hs⟩:=hs.hr (h H7 w22)
 refine rs1 results6 ⟨false,rfl,h⟩
 rcases bte y1 with hg10 | hg10
 refine qk 70 hg10 (qk 70 hg10 (qk 70 hg10 (q2 (vb (((r8.len:Int):Int) == 1)) (xT hg10) (zC ⟨true,_,hg10,hs,hb,hm⟩))))
 refine sj3 70 hg10 (q2 (vb false) (xF hg10) (zC ⟨false,_,hg10,hs,hb,hm⟩))
 rcases bte ((aA == true) && ((aB == 1) && (aC == 1))) with hg8 | hg8
 refine stq (v:=(An aD aE aF)) (wy 65 hg8) (xa p4 (Am aD aE aF) (isAgg44 _) (sizeOf44 _) (hb.r0 0 3 gZ)) (qk 65 hg8 (stq (v:=(vb ((aD == false) && ((aE == 0) && (aF == (-1)))))) (wy 65 hg8) (tI (by kernel_rfl) (by kernel_rfl) (by kernel_rfl) (qF aD aE aF false 0 (-1) _)) (q2 (vb ((aD == false) && ((aE == 0) && (aF == (-1))))) (xT hg8) (zC ⟨true,_,_,hg8,rfl,hs,hb,hm⟩))))
 refine sj3 65 hg8 (q2 (vb false) (xF hg8) (zC ⟨false,_,_,hg8,rfl,hs,hb,hm⟩))
def m_P1 (aG aH:Int) (aI aJ aK:Int) (w0:World) (K:Bool→WP):Prop :=∀H1 w1,Hst w0 yF w0 H1 w1→∃C1:WP,C1 w1.drew∧∀w2,w2=w1.drew→Calls prog 4 #[(.agg #[(vi aG),(vu aH),(vi aI),(vi aJ),(vi aK)])] w2 (fun e w3=>∃r1,e=.returned (vs r1)∧C1 w3∧Kept H1 w2 w3∧Calls prog 5 #[(.agg #[(vi aG),(vu aH),(vi aI),(vi aJ),(vi aK)])] w3 (fun e w4=>∃r2,e=.returned (vs r2)∧C1 w4∧Kept H1 w3 w4∧Br (decide (r1=r2)) (Calls prog 6 #[] w4 (fun e w5=>∃r3,e=.returned (vb r3)∧C1 w5∧Kept H1 w4 w5∧K r3 w5)) (K false w4)))
theorem w_P1 (aG aH aI aJ aK w0 K) (h:m_P1 aG aH aI aJ aK w0 K):
  Calls prog 3 #[(.agg #[(vi aG),(vu aH),(vi aI),(vi aJ),(vi aK)])] w0 (fun e w'=>∃r4,e=.returned (vb r4)∧K r4 w'):=by
 refine cw (args:=[(Ai aG aH aI aJ aK)]) func3 ntmps3 ?_
 obtain ⟨hs,hb⟩:=st0 w0
 refine eg (nw3 (Ag aG aH aI aJ aK) 24 hs hb xb fun p1 w1 H1 hs hb=>q (ln (zA ?_)))
 have ⟨h,hs⟩:=hs.hr (h H1 w1)
 obtain ⟨C1,hC,h⟩:=h
 refine dr2 (fun x=>C1 x∧HB H1 x _) [1,3,6] [] ⟨hC,hb.drew⟩ h hs hb fun w2 hs hb h=>?_
 have hs:=hs.here
 refine qz 0 (Ai aG aH aI aJ aK) Kp0 (fun w' hw'=>(xa p1 (Ag aG aH aI aJ aK) (isAgg24 _) (sizeOf24 _) (hw'.2.r0 0 5 gZ))) (qz 2 (Ai aG aH aI aJ aK) Kp2 (fun w' hw'=>(xa p1 (Ag aG aH aI aJ aK) (isAgg24 _) (sizeOf24 _) (hw'.2.r0 0 5 gZ))) (lg 1 (slc Kp1 call4 (h.mono ?_))))
 rintro e w3 ⟨r1,rfl,hC,hk,h⟩
 refine ⟨_,rfl,.inr ⟨hC,hb.kept hk⟩,?_⟩
 obtain ⟨hs,hb⟩:=hk.hh hs hb
 refine lg 3 (slc Kp3 call5 (h.mono ?_))
 rintro e w4 ⟨r2,rfl,hC,hk,h⟩
 refine ⟨_,rfl,.inr ⟨hC,hb.kept hk⟩,?_⟩
 obtain ⟨hs,hb⟩:=hk.hh hs hb
 refine qz 4 (vb (decide (r1=r2))) Kp4 (fun _ _=>(yQ (by kernel_rfl) (by kernel_rfl))) (qx 5 (vb (decide (r1=r2))) Kp5 (lg 6 ?_))
 obtain ⟨hg1,h⟩|⟨hg1,h⟩:=h.br
 refine jDS Kp6 (wy 8 hg1) (by kernel_rfl) (xc call6) (h.mono ?_)
 rintro e w5 ⟨r3,rfl,hC,hk,h⟩
 refine ⟨_,rfl,.inr ⟨hC,hb.kept hk⟩,?_⟩
 obtain ⟨hs,hb⟩:=hk.hh hs hb
 refine qz 7 (vb r3) Kp7 (fun _ _=>(xT hg1)) (qx 8 (vb r3) Kp8 (wn (zM (er (rs1 results3 ⟨r3,rfl,h⟩)))))
 refine jCD Kp6 (jAG rfl (yD 8 hg1) rfl) (qz 7 (vb false) Kp7 (fun _ _=>(xF hg1)) (qx 8 (vb false) Kp8 (wn (zM (er (rs1 results3 ⟨false,rfl,h⟩))))))
end Go.Proofs
end
section
open Go Go.SE
namespace Go.SE
theorem Ext.putObj (w:World) (r:Nat) (o:Obj):Ext (·=r) w (w.putObj r o):=⟨rfl,rfl,rfl,(by first | exact Nat.le_refl _ | exact Nat.le_succ _),by simp,fun b _ hne=>World.putObj_heap_other hne⟩
abbrev Yld (P:Program) (l:Nat) (args:Array Value) (w:World) (R:Ending→WP):Prop:=YieldAt Fence.wide 0 P l args w R
theorem Kept.trans {H:NP} {a b c:World} (h:Kept H a b) (k:Kept H b c):Kept H a c:=⟨Nat.le_trans h.size k.size,fun i hi hH=>(k.keep i (Nat.lt_of_lt_of_le hi h.size) hH).trans (h.keep i hi hH)⟩
theorem Kept.mono {H H':NP} {a b:World} (h:Kept H a b) (hs:∀b,H' b→H b):Kept H' a b:=⟨h.size,fun i hi hH=>h.keep i hi (hs i hH)⟩
theorem Yld.mono {P:Program} {l:Nat} {args:Array Value} {w:World} {R R':Ending→WP} (h:Yld P l args w R) (hr:∀e w,R e w→R' e w):Yld P l args w R':=by
 obtain ⟨fn,tmps,assign,body,h1,h2⟩:=h;exact ⟨fn,tmps,assign,body,h1,RoundIn.mono h2 hr⟩
section
variable {P:Program} {n:Nat} {Q:Exit→Env→WP} {ρ:Env} {w w0:World} {H Hv:NP} {wv:World}
end
end Go.SE
namespace Go.SE
end Go.SE
end
section
open Go Go.SE
open Go.IntKind renaming i64 → q6
namespace Go.Proofs
open Tryd
set_option maxRecDepth 100000
set_option maxHeartbeats 4000000
attribute [local irreducible] wpL wpX opE wpE Calls
def m_Q1 (i1 base1:Int) (w0:World) (K:ByteArray→WP):Prop :=Br (base1 == 10) (Br (decide (i1<100)) (Calls prog 29 #[(vi (q6.wrap i1))] w0 (fun e w1=>∃r1,e=.returned (vs r1)∧K r1 w1)) (∀p1 w2,New w0 (.cells #[(.int .u8 0),(.int .u8 0),(.int .u8 0),(.int .u8 0),(.int .u8 0),(.int .u8 0),(.int .u8 0),(.int .u8 0),(.int .u8 0),(.int .u8 0),(.int .u8 0),(.int .u8 0),(.int .u8 0),(.int .u8 0),(.int .u8 0),(.int .u8 0),(.int .u8 0),(.int .u8 0),(.int .u8 0),(.int .u8 0),(.int .u8 0),(.int .u8 0),(.int .u8 0),(.int .u8 0)] 72) p1 w2→Calls prog 30 #[(vu i1)] w2 (fun e w3=>∃r2,e=.returned (vi r2)∧∃s1:Sl,(Instr.sliceAt 72 (vp (some p1)) none (some (vi r2)) none).run prog w3=.ok s1.v w3∧Calls prog 31 #[s1.v,(vu i1)] w3 (fun e w4=>e=.returned (.tuple #[])∧∃s2:Sl,(Instr.sliceAt 72 (vp (some p1)) none (some (vi r2)) none).run prog w4=.ok s2.v w4∧∃c1,(convert 75 9 s2.v).run prog w4=.ok (vs c1) w4∧K c1 w4)))) (Calls prog 32 #[Sl.nil.v,(vu i1),(vi base1),(vb false),(vb false)] w0 (fun e w5=>∃r3:Sl,∃r4,e=.returned (.tuple #[r3.v,(vs r4)])∧K r4 w5))
theorem w_Q1 (i1 base1 w0 K) (h:m_Q1 i1 base1 w0 K):
  Calls prog 15 #[(vu i1),(vi base1)] w0 (fun e w'=>∃r5,e=.returned (vs r5)∧K r5 w'):=by
 refine cw (args:=[(vu i1),(vi base1)]) func15 ntmps15 (eg (q0 ve (ln (zA (eg (q0 (vi base1) (q0 (vb (base1 == 10)) (zC ?_))))))))
 refine zM (cbr h ?_ ?_)<;>intro h
 refine zA (eg (qb (ln (cbr h ?_ ?_))))<;>intro h
 refine eg (qb (sc call29 (h.mono fun e w1 ⟨r1,k,h⟩=>⟨_,k,?_⟩)))
 refine q (ln (er (vI (vI (rs1 results15 ⟨r1,rfl,h⟩)))))
 refine zB (zM (eg (nw1 h (zF (zeroValue72 _) rfl) fun p1 w2 h=>ln (eg (q (sc call30 (h.mono fun e w3 ⟨r2,k,h⟩=>⟨_,k,?_⟩)))))))
 refine q (ln (eg (q ?_)))
 obtain ⟨s1,hv3,h⟩:=h
 refine q2 s1.v (uH (by kernel_rfl) (by kernel_rfl) (by kernel_rfl) (by kernel_rfl) hv3) (q (sc call31 (h.mono fun e w4 ⟨k,h⟩=>⟨_,k,?_⟩)))
 refine ln (eg (q ?_))
 obtain ⟨s2,hv2,h⟩:=h
 refine q2 s2.v (uH (by kernel_rfl) (by kernel_rfl) (by kernel_rfl) (by kernel_rfl) hv2) ?_
 obtain ⟨c1,hv1,h⟩:=h
 refine q2 (vs c1) (jDP (by kernel_rfl) hv1) (q (ln (er (vI (rs1 results15 ⟨c1,rfl,h⟩)))))
 refine zB (zM (eg (qb (sc call32 (h.mono fun e w5 ⟨r3,r4,k,h⟩=>⟨_,k,?_⟩)))))
 refine q (qd (ln (eg (qb (zC (zM (er (rs1 results15 ⟨r4,rfl,h⟩))))))))
def m_R1 (i1 base1:Int) (w0:World) (K:ByteArray→WP):Prop :=Calls prog 15 #[(vu i1),(vi base1)] w0 (fun e w1=>∃r1,e=.returned (vs r1)∧K r1 w1)
theorem w_R1 (i1 base1 w0 K) (h:m_R1 i1 base1 w0 K):
  Calls prog 7 #[(vu i1),(vi base1)] w0 (fun e w'=>∃r2,e=.returned (vs r2)∧K r2 w'):=by
 refine cw (args:=[(vu i1),(vi base1)]) func7 ntmps7 (eg (q0 ve (ln (eg (q0 (vu i1) (q0 (vi base1) ?_))))))
 refine sc call15 (h.mono fun e w1 ⟨r1,k,h⟩=>⟨_,k,?_⟩)
 refine q (ln (er (rs1 results7 ⟨r1,rfl,h⟩)))
def m_S (n1:Int) (w0:World) (K:ByteArray→WP):Prop :=Br (decide (n1<10)) (∃s1,(Instr.sliceAt 9 (vs (⟨#[48,49,50,51,52,53,54,55,56,57]⟩:ByteArray)) (some (vu n1)) (some (vu (IntKind.u64.wrap (n1+1)))) none).run prog w0=.ok (vs s1) w0∧K s1 w0) (∃z1,(Go.binOp .quo 22 (vu n1) (vu 10)).run prog w0=.ok (vu z1) w0∧Calls prog 9 #[(vu z1)] w0 (fun e w1=>∃r1,e=.returned (vs r1)∧∃z2,(Go.binOp .rem 22 (vu n1) (vu 10)).run prog w1=.ok (vu z2) w1∧Calls prog 9 #[(vu z2)] w1 (fun e w2=>∃r2,e=.returned (vs r2)∧∃s2,(Go.binOp .add 9 (vs r1) (vs r2)).run prog w2=.ok (vs s2) w2∧K s2 w2)))
theorem w_S (n1 w0 K) (h:m_S n1 w0 K):
  Calls prog 9 #[(vu n1)] w0 (fun e w'=>∃r3,e=.returned (vs r3)∧K r3 w'):=by
 refine cw (args:=[(vu n1)]) func9 ntmps9 (eg (q0 ve (ln (zA (eg (q0 (vu n1) (q0 (vb (decide (n1<10))) (zC ?_))))))))
 refine zM (cbr h ?_ ?_)<;>intro h
 refine eg (qc ?_)
 obtain ⟨s1,hv1,h⟩:=h
 refine q2 (vs s1) (uH (by kernel_rfl) (by kernel_rfl) (by kernel_rfl) (by kernel_rfl) hv1) (q (ln (er (vI (rs1 results9 ⟨s1,rfl,h⟩)))))
 refine zB (zM (eg (q ?_)))
 obtain ⟨z1,hv4,h⟩:=h
 refine q2 (vu z1) (yM (by kernel_rfl) (by kernel_rfl) (by kernel_rfl) hv4) (sc call9 (h.mono fun e w1 ⟨r1,k,h⟩=>⟨_,k,?_⟩))
 refine q ?_
 obtain ⟨z2,hv3,h⟩:=h
 refine q2 (vu z2) (yM (by kernel_rfl) (by kernel_rfl) (by kernel_rfl) hv3) (sc call9 (h.mono fun e w2 ⟨r2,k,h⟩=>⟨_,k,?_⟩))
 obtain ⟨s2,hv2,h⟩:=h
 refine q2 (vs s2) (yM (by kernel_rfl) (by kernel_rfl) (by kernel_rfl) hv2) (q (ln (er (rs1 results9 ⟨s2,rfl,h⟩))))
end Go.Proofs
end
section
open Go Go.SE
namespace Go.SE
section
variable {P:Program} {t u e ty:TypeId} {w:World}
end
section
variable {P:Program} {w:World} {t:TypeId}
theorem wrap_u64 {n:Nat} (h:n<18446744073709551616):IntKind.u64.wrap (n:Int)=(n:Int):=by
 simp [IntKind.wrap,IntKind.bits,IntKind.signed];omega
end
theorem Lst.sub {P:Program} {t e:TypeId} {sz bytes:Nat} {S:NP} (T:SlType P t e sz bytes) {w:World} {s:Sl} {rs:List (List Value)} (h:Lst S w sz s rs) (hcap:s.len≤s.cap) {k:IntKind} {lo n:Nat} (hn:lo+n≤rs.length) :
  ∃s':Sl,(Instr.sliceAt t s.v (some (.int k (lo:Int))) (some (.int k ((lo+n:Nat):Int))) none).run P w=.ok s'.v w∧Lst S w sz s' ((rs.drop lo).take n):=by
 have h1:((lo+n:Nat):Int)≤(s.cap:Int):=by rw [h.len] at hcap;omega
 have h2:(lo:Int)≤((lo+n:Nat):Int):=by omega
 refine ⟨⟨if s.cap=lo then s.a else s.a.map (·.add (lo*sz)),n,s.cap - lo⟩,?_,⟨by simp;omega,fun i hi=>?_⟩⟩
 ·simp [Instr.sliceAt,Instr.slice,Sl.v,run_underlying T.ht,Instr.sliceBounds,Instr.sliceBound,asIntOf,T.sizeOf]
  rw [if_pos (by omega),if_pos (by omega),show ((lo:Int)+(n:Int)).toNat - lo=n by omega]
 ·have hi':lo+i<rs.length:=by simp at hi;omega
  obtain ⟨a,⟨_,hlt,p,hp,rfl⟩,hS,hr⟩:=h.at_ (lo+i) hi'
  refine ⟨_,⟨by omega,by simp at hi ⊢;omega,p.add (lo*sz),?_,rfl⟩,?_,?_⟩
  ·rw [if_neg (by rw [h.len] at hcap;omega),hp];rfl
  ·simpa [zN] using hS
  ·have : (p.add (lo * sz)).add ((i : Int).toNat * sz) = p.add (((lo + i : Nat) : Int).toNat * sz) := by
    rw [yK,Int.toNat_natCast,Int.toNat_natCast,Nat.add_mul]
   rw [this,List.getElem_take,List.getElem_drop];exact hr
end Go.SE
end
section
open Go Go.SE
namespace Go.SE
theorem uT {w:World} {k:Nat} {os:Array Obj}:Pure w (Sort.grow (w.drewN k) os):=by
 refine ⟨rfl,rfl,rfl,(by first | exact Nat.le_add_right _ _ | exact Nat.le_refl _),by simp [Sort.grow,World.drewN],fun b hb _=>?_⟩;show (w.heap++os)[b]?=w.heap[b]?;exact Array.getElem?_append_left hb
theorem uK {P:Program} {w w':World} {name:String} {k:IntKind} {zs:List Int} (h:Lib.TabIs P w name k zs) (E:Pure w w'):Lib.TabIs P w' name k zs:=by
 unfold Lib.TabIs World.var? at *;cases hg:P.globalNamed name with
 | none=>simp [hg] at h
 | some g =>
  simp only [hg,Option.bind_some] at h ⊢
  have hlt:g<w.heap.size:=by
   rcases Nat.lt_or_ge g w.heap.size with h' | h'
   ·exact h'
   ·rw [Array.getElem?_eq_none h'] at h;simp at h
  rw [E.keep g hlt id]
  exact h
theorem jBU (w:World) (T:TypeId) (nd:Nat) (hs:nd≤24):Sort.Holds (fun (b:UInt8)=>Value.int .u8 (b.toNat:Int)) (w.alloc (.cells Lib.zeros24 T)) w.heap.size 0 (Array.replicate nd (0:UInt8)):=fun j hj=>by
 have hj':j<nd:=by simpa using hj
 refine ⟨?_,World.frozen?_alloc_new _ _ _ _⟩;rw [World.cell?_alloc_new,Lib.zeros24_at _ (by omega),getElem!_pos _ j hj];simp
theorem jEZ (w:World) (o:Obj) (dk:Array UInt8) (k:Nat):∃os,(Sort.putRow (fun (b:UInt8)=>Value.int .u8 (b.toNat:Int)) (w.alloc o) w.heap.size 0 dk).drewN k=Sort.grow (w.drewN k) os:=by
 rw [Sort.alloc_eq_grow];obtain ⟨os',_,e⟩:=Sort.putRow_grow_new (fun (b:UInt8)=>Value.int .u8 (b.toNat:Int)) w #[o] w.heap.size 0 dk (Nat.le_refl _);exact ⟨os',by rw [e];rfl⟩
end Go.SE
namespace Go.Proofs
open Tryd
attribute [local irreducible] Calls
abbrev Pow (w : World) : Prop := Lib.TabIs prog w "internal/strconv.uint64pow10" .u64 Lib.pow10Tab
theorem jBF (n:Nat) (hn:n<18446744073709551616) (w0:World) (ht:Pow w0) :
  Calls prog 7 #[.int .u64 (n:Int),.int .i64 10] w0 (fun e w'=>∃r:ByteArray,e=.returned (.string r)∧r=⟨(Lib.decDigits n).toArray⟩∧Pure w0 w'):=by
 refine w_R1 _ _ w0 (fun r w'=>r=⟨(Lib.decDigits n).toArray⟩∧Pure w0 w') ?_
 unfold m_R1
 refine w_Q1 _ _ w0 (fun r w'=>r=⟨(Lib.decDigits n).toArray⟩∧Pure w0 w') ?_
 unfold m_Q1
 refine ⟨fun _=>⟨fun h=>?_,fun h=>?_⟩,fun h=>absurd h (by decide)⟩
 ·have h:=of_decide_eq_true h
  have hw:IntKind.i64.wrap (n:Int)=(n:Int):=IntWalk.i64_in _ ⟨by omega,by omega⟩
  rw [hw]
  refine (jEB n (by omega) w0).mono ?_
  rintro _ w1 ⟨rfl,rfl⟩
  exact ⟨_,rfl,rfl,Ext.refl _⟩
 ·have h:¬ (n:Int)<100:=of_decide_eq_false h
  intro p1 w2 h2
  obtain ⟨hp,hw⟩:=h2
  subst hp;subst hw
  have hnd:=Lib.numDigits_eq n (by omega) hn
  have hnd20:Lib.nDigits n≤20:=by split at hnd <;> omega
  refine (tT n (by omega) hn _ (Lib.tabIs_alloc ht _)).mono ?_
  rintro _ w3 ⟨rfl,rfl⟩
  have hal:prog.arrayLen 72=24:=by simp [Program.arrayLen,underlying72]
  have hsl:∀W,(Instr.sliceAt 72 (.pointer (some ⟨w0.heap.size,0,none⟩)) none (some (.int .i64 (Lib.nDigits n:Int))) none).run prog W=.ok (Sl.mk (some ⟨w0.heap.size,0,none⟩) (Lib.nDigits n) 24).v W:=fun W=>by
   rw [run_sliceAt_array_h W 72 ⟨w0.heap.size,0,none⟩ (by simp [Program.arrayLen,Program.elem,underlying72]) .i64 (Lib.nDigits n:Int) (by omega) (by rw [hal];omega)];go_simp;unfold Sl.v;simp
  refine ⟨_,rfl,Sl.mk (some ⟨w0.heap.size,0,none⟩) (Lib.nDigits n) 24,hsl _,?_⟩
  have hH0:=jBU w0 72 (Lib.nDigits n) (by omega)
  have hf:=jDF w0.heap.size 0 24 n (Array.replicate (Lib.nDigits n) 0) _ hH0 (by rw [Array.size_replicate];exact Lib.lt_pow_nDigits n) hn (by rw [Array.size_replicate];omega)
  rw [Array.size_replicate] at hf
  have hH1:=Lib.hid hH0
  refine Calls.mono hf ?_
  rintro _ w4 ⟨rfl,k,v',dk,rfl,hF⟩
  refine ⟨rfl,Sl.mk (some ⟨w0.heap.size,0,none⟩) (Lib.nDigits n) 24,hsl _,⟨(Lib.decDigits n).toArray⟩,?_,rfl,?_⟩
  ·have h := run_convert_bytes_back (P := prog) ((Sort.putRow (fun (b : UInt8) => Value.int .u8 (b.toNat : Int)) (w0.alloc (.cells Lib.zeros24 72)) w0.heap.size 0 dk).drewN k) 75 9 5 ⟨w0.heap.size, 0, none⟩ 24 (Lib.decDigits n) underlying75 underlying5 underlying9 (fun j hj => by
    rw [Lib.row_is_numeral hF j hj,Lib.add_plain,World.cell?_drewN];exact Sort.cell?_putRow (fun (b:UInt8)=>Value.int .u8 (b.toNat:Int)) _ w0.heap.size 0 _ dk hH1.out (by rw [hF.size,Array.size_replicate]) j (by rw [hF.size];rw [Lib.decDigits_length] at hj;exact hj))
   rw [Lib.decDigits_length] at h
   exact h
  ·obtain ⟨os,eo⟩:=jEZ w0 (.cells Lib.zeros24 72) dk k
   have E:Pure w0 (Sort.grow (w0.drewN k) os):=uT
   rw [← eo] at E
   exact E
theorem c_Itoa (n:Int) (h0:-9223372036854775808≤n) (h1:n≤9223372036854775807) (w0:World) (ht:Pow w0) :
  Calls prog 8 #[.int .i64 n] w0 (fun e w'=>∃r:ByteArray,e=.returned (.string r)∧r=⟨(Lib.itoa n).toArray⟩∧Pure w0 w'):=by
 refine (jEX n h0 h1 w0 ht).mono ?_
 rintro _ w1 ⟨rfl,k,os,rfl⟩
 exact ⟨_,rfl,rfl,uT⟩
theorem jFX {n:Nat} (h:n<18446744073709551616):(Lib.decDigits n).length≤20:=by
 rw [Lib.decDigits_length];by_cases h0:n<10
 ·rw [Lib.nDigits_small h0];omega
 ·have:=Lib.numDigits_eq n (by omega) h;split at this <;> omega
theorem vW {P:Program} {t:TypeId} {w:World} (x y:List UInt8) (hx:x.length≤1000) (hy:y.length≤1000) :
  (Go.binOp .add t (.string ⟨x.toArray⟩) (.string ⟨y.toArray⟩)).run P w=.ok (.string ⟨(x++y).toArray⟩) w:=by
 rw [binOp_string_add]
 exact run_string_add_lists w x y (by omega) (by omega)
theorem jFL (n:Nat) (h:n<10) (w:World):(Instr.sliceAt 9 (.string (⟨#[48,49,50,51,52,53,54,55,56,57]⟩:ByteArray)) (some (.int .u64 (n:Int))) (some (.int .u64 (IntKind.u64.wrap ((n:Int)+1)))) none).run prog w=.ok (.string ⟨(Lib.decDigits n).toArray⟩) w:=by
 have hw:IntKind.u64.wrap ((n:Int)+1)=((n+1:Nat):Int):=by rw [show (n:Int)+1=((n+1:Nat):Int) by omega,wrap_u64 (by omega)]
 rw [Lib.decDigits_one h,hw,run_sliceAt_string _ _ _ _ _ _ underlying9,run_slice_string_if _ _ _ _ _ _ _ underlying9,if_pos ⟨by omega,by show ((n+1:Nat):Int)≤10;omega⟩,if_pos ⟨by omega,by omega⟩];have he:∀m:Fin 10,(⟨#[48,49,50,51,52,53,54,55,56,57]⟩:ByteArray).extract m.val (m.val+1)=⟨[UInt8.ofNat (48+m.val)].toArray⟩:=by decide +kernel
 have:=he ⟨n,h⟩;simp only [Int.toNat_natCast] at this ⊢;rw [this]
theorem jDV {P:Program} {t:TypeId} {w:World} (n:Nat) (h:n<18446744073709551616):(Go.binOp .quo t (.int .u64 (n:Int)) (.int .u64 10)).run P w=.ok (.int .u64 ((n / 10:Nat):Int)) w:=by
 have:IntKind.u64.wrap ((n:Int).tdiv 10)=((n / 10:Nat):Int):=by
  rw [Int.tdiv_eq_ediv_of_nonneg (by omega)];simp only [IntKind.wrap,IntKind.bits,IntKind.signed];simp;omega
 show ((pure (Value.int .u64 (IntKind.u64.wrap ((n:Int).tdiv 10))):Sem Value)).run P w=_;rw [this];rfl
theorem jDU {P:Program} {t:TypeId} {w:World} (n:Nat):(Go.binOp .rem t (.int .u64 (n:Int)) (.int .u64 10)).run P w=.ok (.int .u64 ((n % 10:Nat):Int)) w:=by
 have:(n:Int).tmod 10=((n % 10:Nat):Int):=by
  rw [Int.tmod_eq_emod_of_nonneg (by omega)];simp
 simp [Go.binOp,Op.intDiv,this]
theorem jEL:∀(m n:Nat),n≤m→n<18446744073709551616→∀w0:World,
  Calls prog 9 #[.int .u64 (n:Int)] w0 (fun e w'=>∃r:ByteArray,e=.returned (.string r)∧r=⟨(Lib.decDigits n).toArray⟩∧w'=w0):=by
 intro m
 induction m with
 | zero =>
  intro n hm hn w0
  refine w_S _ w0 (fun r w'=>r=⟨(Lib.decDigits n).toArray⟩∧w'=w0) ?_
  unfold m_S
  refine ⟨fun h=>?_,fun h=>?_⟩
  ·exact ⟨_,jFL n (by omega) w0,rfl,rfl⟩
  ·have:=of_decide_eq_false h;omega
 | succ m ih =>
  intro n hm hn w0
  refine w_S _ w0 (fun r w'=>r=⟨(Lib.decDigits n).toArray⟩∧w'=w0) ?_
  unfold m_S
  refine ⟨fun h=>?_,fun h=>?_⟩
  ·have h:=of_decide_eq_true h
   exact ⟨_,jFL n (by omega) w0,rfl,rfl⟩
  ·have h:=of_decide_eq_false h
   refine ⟨_,jDV n hn,?_⟩
   refine (ih (n / 10) (by omega) (by omega) w0).mono ?_
   rintro _ w1 ⟨r1,rfl,rfl,rfl⟩
   refine ⟨_,rfl,_,jDU n,?_⟩
   refine (ih (n % 10) (by omega) (by omega) w1).mono ?_
   rintro _ w2 ⟨r2,rfl,rfl,rfl⟩
   have h1:=jFX (n:=n / 10) (by omega)
   have h2:=jFX (n:=n % 10) (by omega)
   refine ⟨_,rfl,_,vW _ _ (by omega) (by omega),?_,rfl⟩
   have e:Lib.decDigits n=Lib.decDigits (n / 10)++Lib.decDigits (n % 10):=by
    rw [Lib.decDigits,dif_neg (by omega),Lib.decDigits_one (i:=n % 10) (by omega)]
   rw [e]
theorem tZ (n:Nat) (hn:n<18446744073709551616) (w0:World) :
  Calls prog 9 #[.int .u64 (n:Int)] w0 (fun e w'=>∃r:ByteArray,e=.returned (.string r)∧r=⟨(Lib.decDigits n).toArray⟩∧w'=w0):=jEL n n (Nat.le_refl _) hn w0
end Go.Proofs
end
section
open Go Go.SE
namespace Go.Sp
end Go.Sp
namespace Go.Proofs
open Tryd
attribute [local irreducible] Calls
theorem xR (pv:Option Addr) (sh:Sl) (ls:List Sp.Letter) (who c:Int) (x:ByteArray) (w0:World) (hR:jDK pv sh ls w0) (hn:ls.length≤1000000) :
  Calls prog 13 #[.pointer pv,sh.v,.agg #[.int .i64 who,.int .u64 c,.string x]] w0 (fun e w'=>∃b:Bool,∃y:Int,∃i:Int,e=.returned (.agg #[.bool b,.int .i64 y,.int .i64 i])∧((b,y,i)=Sp.qE who c x 0 ls∧Pure w0 w')):=by
 suffices key:∀K:Bool→Int→Int→WP,(∀b y i w',((b,y,i)=Sp.qE who c x 0 ls∧Pure w0 w')→K b y i w')→m_J pv sh who c x w0 K from
  w_J _ _ _ _ _ w0 _ (key _ (fun _ _ _ _ h=>h))
 intro K hK
 unfold m_J
 intro H2 w2 hs2
 have E2:=hs2.first
 refine (hR w2 E2).mono ?_
 rintro _ w3 ⟨r1,rfl,hr1⟩
 have O3:=hr1.own' hs2
 have hlen:r1.len=ls.length:=by rw [O3.len];simp
 refine ⟨r1,rfl,hr1.kept,fun x' _ _ _ H w'=>∃j:Nat,x'=j∧j≤ls.length∧Pure w0 w'∧Own H w' 42 5 r1 (ls.map yS)∧Sp.qE who c x 0 ls=Sp.qE who c x j (ls.drop j),fun x' _ _ _ _=>((ls.length:Int) - x').toNat,⟨0,rfl,Nat.zero_le _,E2.trans hr1.pure,O3,rfl⟩,?_⟩
 rintro _ _ _ _ Hl wl hl ⟨j,rfl,hj,El,Ol,heq⟩
 unfold m_J_l1
 refine ⟨fun h=>?_,fun h=>?_⟩
 ·have hlt:=uB hlen h
  obtain ⟨a,hat,hrow⟩:=Ol.nth hlt
  rw [List.drop_eq_getElem_cons hlt,Sp.qE] at heq
  generalize ls[j]=l at *
  refine ⟨a,hat,_,_,_,_,_,hrow,?_⟩
  intro H5 w5 hs5
  have E5:=El.hst hs5
  have O5:=Ol.hst hs5
  refine (jCA l.kind l.frm l.c l.text l.fake j w5).mono ?_
  rintro _ w6 ⟨r2,rfl,hr2⟩
  have hll:(⟨l.kind,l.frm,l.c,l.text,l.fake⟩:Sp.Letter)=l:=rfl
  rw [hll] at hr2
  have hbl:(Sp.qN l j).length≤2:=by
   unfold Sp.qN;repeat' split
   all_goals simp
  generalize Sp.qN l j=bs at *
  have O6:=hr2.own' hs5
  have hl2:r2.len=bs.length:=by rw [O6.len];simp
  refine ⟨r2,rfl,hr2.kept,fun x' _ _ _ H w'=>∃m:Nat,x'=m∧m≤bs.length∧Pure w0 w'∧Own H w' 42 5 r1 (ls.map yS)∧Own H w' 69 5 r2 (bs.map jFE)∧Sp.vZ who c x j bs=Sp.vZ who c x j (bs.drop m),fun x' _ _ _ _=>((bs.length:Int) - x').toNat,⟨0,rfl,Nat.zero_le _,E5.trans hr2.pure,O5.pure hr2.pure,O6,rfl⟩,?_⟩
  rintro _ _ _ _ Hm wm hm ⟨m,rfl,hmle,Em,Om,Om2,heqm⟩
  unfold m_J_l2
  refine ⟨fun h=>?_,fun h=>?_⟩
  ·have hlt2:=uB hl2 h
   obtain ⟨a2,hat2,hrow2⟩:=Om2.nth hlt2
   rw [List.drop_eq_getElem_cons hlt2] at heqm
   generalize bs[m]=b at *
   refine ⟨a2,hat2,_,_,_,_,_,hrow2,fun h=>?_,fun h=>?_⟩
   ·intro H6 w12 hs6
    have hc:b.who=who∧b.c=c∧b.text=x:=by simpa [and_assoc] using h
    rw [Sp.vZ,if_pos hc] at heqm
    rw [heqm] at heq
    exact hK _ _ _ _ ⟨by rw [heq],Em.hst hs6⟩
   ·intro H6 w10 hs6
    have hc:¬ (b.who=who∧b.c=c∧b.text=x):=fun hc=>by simp [hc.1,hc.2.1,hc.2.2] at h
    rw [Sp.vZ,if_neg hc] at heqm
    rw [qS hlt2 (by omega)]
    exact ⟨⟨m+1,rfl,hlt2,Em.hst hs6,Om.hst hs6,Om2.hst hs6,heqm⟩,jAP hlt2⟩
  ·have hge:=uD hl2 hmle h
   subst hge
   rw [List.drop_length] at heqm
   have heqm:Sp.vZ who c x j bs=none:=heqm
   rw [heqm] at heq
   rw [qS hlt (by omega)]
   exact ⟨⟨j+1,rfl,hlt,Em,Om,by simpa using heq⟩,jAP hlt⟩
 ·have hge:=uD hlen hj h
  subst hge
  rw [List.drop_length] at heq
  intro w13 hs13
  exact hK _ _ _ _ ⟨by rw [heq];rfl,El.hst hs13⟩
end Go.Proofs
end
section
open Go Go.SE
namespace Go.Sp
structure Says where
 who:Int
 c:Int
 text:ByteArray
deriving DecidableEq
end Go.Sp
namespace Go.Proofs
attribute [local irreducible] Calls
def ckey (k:Sp.Says):Value:=.agg #[.int .i64 k.who,.int .u64 k.c,.string k.text]
structure BondsAt (w0:World) (H:NP) (w:World) (m:Nat) (s:Sl) (out:List Sp.Bond) (ks:List (Sp.Says)) (B:Int):Prop where
 pure:Pure w0 w
 map:CntMap w m (ks.map ckey) B
 rows:Own H w 69 5 s (out.map jFE)
 own:∀b,s.blk b→w0.heap.size≤b
 mown:w0.heap.size≤m
 mvis:¬ H m
 ne:¬ s.blk m
theorem BondsAt.hst {w0 w w1:World} {H H1:NP} {m:Nat} {s:Sl} {out:List Sp.Bond} {ks:List (Sp.Says)} {B:Int} (h:BondsAt w0 H w m s out ks B) (hs:Hst w0 H w H1 w1):BondsAt w0 H1 w1 m s out ks B :=
 have hm:¬ H1 m:=hs.disj (G:=(·=m)) (fun b e=>by subst e;exact ⟨h.map.lt,h.mvis⟩) m rfl
 ⟨h.pure.hst hs,h.map.ext hs.ext hm,h.rows.hst hs,h.own,h.mown,hm,h.ne⟩
end Go.Proofs
end
section
open Go Go.SE
namespace Go.Sp
def Fault.key (f:Fault):Fault:={ f with a:=0,b:=0 }
def uF (out:List Fault) (i k:Int) (f:Fault):List Fault:=if f.kind=0∨f∈out.map Fault.key then out else out++[{ f with a:=i,b:=k }]
def vQ (i:Int) (a:Letter):Int→List Letter→List Fault→List Fault
 | _,[],out=>out
 | k,b :: bs,out=>vQ i a (k+1) bs (uF out i k (yU a b))
def qW:Int→List Letter→List Fault→List Fault
 | _,[],out=>out
 | i,a :: ls,out=>qW (i+1) ls (vQ i a (i+1) ls out)
def jCK (ls:List Letter):List Fault:=qW 0 ls []
theorem jEI (a b:Letter):(yU a b).a=0∧(yU a b).b=0:=by
 unfold yU;repeat' split
 all_goals simp
end Go.Sp
namespace Go.Proofs
open Tryd
attribute [local irreducible] Calls
def tV (f:Sp.Fault):Value:=.agg (jCJ f).toArray
def jEM (v:Value):Prop:=∃f,v=tV f
theorem jCI {f g:Sp.Fault}:tV f=tV g↔f=g:=by
 constructor
 ·intro h;cases f;cases g;simp [tV,jCJ] at h;simp [h]
 ·rintro rfl;rfl
theorem yT:KeyOK prog 24 jEM:=by
 refine KeyOK.of_struct underlying24 ?_ ?_ ?_
 ·rintro _ ⟨n,rfl⟩ em w;kernel_rfl
 ·rintro _ _ w ⟨n,rfl⟩ ⟨n',rfl⟩;refine ⟨decide (n=n'),?_,by simp only [jCI,decide_eq_true_eq];exact eq_comm⟩;obtain ⟨k,f,t,u,x⟩:=n;obtain ⟨k',f',t',u',x'⟩:=n';simp [Op.equal,Op.maxDepth,go_sem,tV,jCJ]
  repeat' split
  all_goals simp_all
 ·rintro _ ⟨n,rfl⟩;have h:∀d,Instr.sameBits (d+1) (tV n) (tV n)=true:=fun d=>by
   cases d <;> simp [Instr.sameBits,tV,jCJ]
  exact h 9999
theorem jDT:SlType prog 49 24 5 40:=by
 refine ⟨underlying49,⟨t24,_,by kernel_rfl,(by kernel_rfl:t24.zero=some (.agg #[.int .i64 0,.int .u64 0,.int .i64 0,.int .i64 0,.int .i64 0])),by kernel_rfl,by kernel_rfl,rfl⟩,by omega⟩
end Go.Proofs
end
section
open Go Go.SE
namespace Go.Proofs
open Tryd
attribute [local irreducible] Calls
structure FltsAt (w0:World) (H:NP) (w:World) (m:Nat) (s:Sl) (out:List Sp.Fault):Prop where
 pure:Pure w0 w
 map:CntMap w m ((out.map Sp.Fault.key).map tV) out.length
 rows:Own H w 24 5 s (out.map jCJ)
 own:∀b,s.blk b→w0.heap.size≤b
 mown:w0.heap.size≤m
 mvis:¬ H m
 ne:¬ s.blk m
theorem FltsAt.hst {w0 w w1:World} {H H1:NP} {m:Nat} {s:Sl} {out:List Sp.Fault} (h:FltsAt w0 H w m s out) (hs:Hst w0 H w H1 w1):FltsAt w0 H1 w1 m s out :=
 have hm:¬ H1 m:=hs.disj (G:=(·=m)) (fun b e=>by subst e;exact ⟨h.map.lt,h.mvis⟩) m rfl
 ⟨h.pure.hst hs,h.map.ext hs.ext hm,h.rows.hst hs,h.own,h.mown,hm,h.ne⟩
theorem uQ {fs:List Sp.Fault}:∀k∈fs.map tV,jEM k:=by
 intro k hk;obtain ⟨x,_,rfl⟩:=List.mem_map.1 hk;exact ⟨x,rfl⟩
theorem tR {fs:List Sp.Fault} {f:Sp.Fault}:tV f∈fs.map tV↔f∈fs:=by
 constructor
 ·intro h;obtain ⟨x,hx,he⟩:=List.mem_map.1 h;rw [jCI] at he;subst he;exact hx
 ·intro h;exact List.mem_map.2 ⟨f,h,rfl⟩
theorem jBE (pv:Option Addr) (sh:Sl) (ls:List Sp.Letter) (w0:World) (hR:jDK pv sh ls w0) (hn:ls.length≤1000) :
  Calls prog 14 #[.pointer pv,sh.v] w0 (fun e w'=>∃s:Sl,e=.returned s.v∧RetS w0 24 5 ((Sp.jCK ls).map jCJ) s w'):=by
 suffices key:∀K:Sl→WP,(∀s w',RetS w0 24 5 ((Sp.jCK ls).map jCJ) s w'→K s w')→m_H pv sh w0 K from
  w_H _ _ w0 _ (key _ (fun _ _ h=>h))
 intro K hK
 unfold m_H
 intro m w1 h1
 have E1:Pure w0 w1:=Ext.new h1
 have om:=New.own (Ext.refl w0) h1
 refine (hR w1 E1).mono ?_
 rintro _ w2 ⟨r1,rfl,hr1⟩
 have hm1:CntMap w1 m.block ((([]:List Sp.Fault).map Sp.Fault.key).map tV) 0:=CntMap.of_new h1 _
 have O1:=hr1.own' ((Hst.start w0).pure E1)
 have hlen:r1.len=ls.length:=by rw [O1.len];simp
 have hrm:∀b,r1.blk b→b≠m.block:=fun b hb e=>by have:=hr1.own b hb;have:=hm1.lt;omega
 have hnil:∀b,Sl.nil.blk b→False:=fun b hb=>by obtain ⟨a,h,_⟩:=hb;cases h
 refine ⟨r1,rfl,hr1.kept,fun s i H w'=>∃j:Nat,i=j∧j≤ls.length∧∃out,out.length≤j*1000∧FltsAt w0 H w' m.block s out∧Own H w' 42 5 r1 (ls.map yS)∧(∀b,s.blk b→¬ r1.blk b)∧Sp.jCK ls=Sp.qW j (ls.drop j) out,fun _ i _=>((ls.length:Int) - i).toNat,
  ⟨0,rfl,Nat.zero_le _,[],by simp,⟨E1.trans hr1.pure,hm1.ext hr1.pure id,Own.nil _ _,fun b h=>(hnil b h).elim,om,id,fun h=>hnil _ h⟩,O1,fun b h=>(hnil b h).elim,rfl⟩,?_⟩
 rintro s _ Hl wl hl ⟨j,rfl,hj,out,hol,hA,Ol,hsr,heq⟩
 unfold m_H_l1
 refine ⟨fun h=>?_,fun h=>?_⟩
 ·have hlt:=uB hlen h
  have heq0:=heq
  rw [List.drop_eq_getElem_cons hlt,Sp.qW] at heq
  have hj1000:j<1000:=by omega
  rw [qS hlt (by omega)]
  refine ⟨fun s k H w'=>∃q:Nat,k=q∧j+1≤q∧q≤ls.length∧∃out',out'.length≤out.length+(q - (j+1))∧FltsAt w0 H w' m.block s out'∧Own H w' 42 5 r1 (ls.map yS)∧(∀b,s.blk b→¬ r1.blk b)∧Sp.vQ j ls[j] ((j:Int)+1) (ls.drop (j+1)) out=Sp.vQ j ls[j] q (ls.drop q) out',fun _ k _=>((ls.length:Int) - k).toNat,
   ⟨j+1,by omega,Nat.le_refl _,hlt,out,by omega,hA,Ol,hsr,by simp⟩,?_⟩
  rintro s2 _ Hm wm hm ⟨q,rfl,hq1,hq,out',hol',hAm,Om,hsr',heq'⟩
  unfold m_H_l2
  refine ⟨fun h=>?_,fun h=>?_⟩
  ·have hlt2:=uB hlen h
   rw [List.drop_eq_getElem_cons hlt2,Sp.vQ] at heq'
   obtain ⟨a1,hat1,hrow1⟩:=Om.nth hlt
   obtain ⟨a2,hat2,hrow2⟩:=Om.nth hlt2
   have blk:∀(i:Int) a,At r1 i 5 a→¬ Hm a.block:=by
    rintro i a ⟨_,_,b,hb,rfl⟩;rw [zN];exact Om.vis _ ⟨b,hb,rfl⟩
   refine ⟨a1,hat1,_,_,_,_,_,hrow1,blk _ _ hat1,a2,hat2,_,_,_,_,_,hrow2,blk _ _ hat2,?_⟩
   generalize hf:Sp.yU ls[j] ls[q]=f at *
   have hfk:f.a=0∧f.b=0:=by rw [← hf];exact Sp.jEI _ _
   have hkey:f.key=f:=by obtain ⟨f1,f2,f3,f4,f5⟩:=f;simp at hfk;simp [Sp.Fault.key,hfk.1,hfk.2]
   have hsf:s_A ls[j].kind ls[j].frm ls[j].c ls[j].text ls[j].fake ls[q].kind ls[q].frm ls[q].c ls[q].text ls[q].fake=(f.who,f.c,f.kind,f.a,f.b):=by
    unfold s_A;rw [hf]
   rw [hsf]
   have hjq:j*1000≤999*1000:=Nat.mul_le_mul_right _ (by omega)
   have skip : ∀ (H : NP) (w : World), FltsAt w0 H w m.block s2 out' → Own H w 42 5 r1 (ls.map yS) → (f.kind = 0 ∨ f ∈ out'.map Sp.Fault.key) →
     (∃q':Nat,IntKind.i64.wrap ((q:Int)+1)=q'∧j+1≤q'∧q'≤ls.length∧∃out',out'.length≤out.length+(q' - (j+1))∧FltsAt w0 H w m.block s2 out'∧Own H w 42 5 r1 (ls.map yS)∧(∀b,s2.blk b→¬ r1.blk b)∧Sp.vQ j ls[j] ((j:Int)+1) (ls.drop (j+1)) out=Sp.vQ j ls[j] q' (ls.drop q') out')∧((ls.length:Int) - IntKind.i64.wrap ((q:Int)+1)).toNat<((ls.length:Int) - (q:Int)).toNat:=by
    intro H w hF hO hc
    have hadd:Sp.uF out' j q f=out':=by unfold Sp.uF;rw [if_pos hc]
    rw [hadd] at heq'
    rw [qS hlt2 (by omega)]
    exact ⟨⟨q+1,rfl,by omega,hlt2,out',by omega,hF,hO,hsr',heq'⟩,jAP hlt2⟩
   have J3 : ∀ (x2 : Bool) (H : NP) (w : World), Hst w0 H w H w → FltsAt w0 H w m.block s2 out' → Own H w 42 5 r1 (ls.map yS) → (x2 = true → f.kind = 0 ∨ f ∈ out'.map Sp.Fault.key) → (x2 = false → ¬ (f.kind = 0 ∨ f ∈ out'.map Sp.Fault.key)) →
     m_H_j3 m j s2 q ls[j].kind ls[j].frm ls[j].c ls[j].text ls[j].fake ls[q].kind ls[q].frm ls[q].c ls[q].text ls[q].fake x2 w0 H w (fun y'0 y'1 H' w'=>(∃q:Nat,y'1=q∧j+1≤q∧q≤ls.length∧∃out',out'.length≤out.length+(q - (j+1))∧FltsAt w0 H' w' m.block y'0 out'∧Own H' w' 42 5 r1 (ls.map yS)∧(∀b,y'0.blk b→¬ r1.blk b)∧Sp.vQ j ls[j] ((j:Int)+1) (ls.drop (j+1)) out=Sp.vQ j ls[j] q (ls.drop q) out')∧((ls.length:Int) - y'1).toNat<((ls.length:Int) - (q:Int)).toNat) K:=by
    intro x2 H w hss hF hO hT hFa
    unfold m_H_j3
    refine ⟨fun hx=>skip H w hF hO (hT hx),fun hx=>?_⟩
    have hno:=hFa hx
    rw [hsf]
    have hadd:Sp.uF out' j q f=out'++[{ f with a:=j,b:=q }]:=by unfold Sp.uF;rw [if_neg hno]
    rw [hadd] at heq'
    obtain ⟨f',hf'⟩:∃f':Sp.Fault,f'={ f with a:=j,b:=q }:=⟨_,rfl⟩
    rw [← hf'] at heq'
    have hrow':jCJ f'=[.int .i64 f.who,.int .u64 f.c,.int .i64 f.kind,.int .i64 j,.int .i64 q]:=by rw [hf'];rfl
    have hnk:tV f ∉ (out'.map Sp.Fault.key).map tV:=fun hm=>hno (.inr (tR.1 hm))
    obtain ⟨v,w3,z,hv0,hvB,hl0,he0,hl1,hE1,hst⟩:=(hF.map.ext (F:=yF) (Ext.drew w) id).bump (P:=prog) (T:=70) underlying70 yT uQ ⟨f,rfl⟩ (zeroValue3) (by omega)
    have hv:v=0:=by
     obtain ⟨v',hv',hor⟩:=(hF.map.ext (F:=yF) (Ext.drew w) id).look (P:=prog) (T:=70) underlying70 yT uQ ⟨f,rfl⟩ (zeroValue3);rw [hl0] at hv';have:v=v':=by simpa using hv'
     rcases hor with ⟨h,_⟩ | ⟨_,h⟩
     ·exact absurd h hnk
     ·omega
    subst hv
    refine ⟨fun w'=>(Instr.lookup 70 (.map (some m.block)) (tV f) false).run prog w'=.ok (.int .i64 0) w',hl0,?_⟩
    rintro _ rfl
    obtain ⟨w4,ks',hr4,hks,hM4,hE4⟩:=hst (Ext.refl (F:=yF) w3) id
    have hks:ks'=(out'.map Sp.Fault.key).map tV++[tV f]:=by
     rcases hks with ⟨h,_⟩ | ⟨_,h⟩
     ·exact absurd h hnk
     ·exact h
    refine ⟨0,fun w' h'=>h',0,z,w3,he0,hl1,hE1.kept (fun b hb e=>hF.mvis (e▸hb)),w4,hr4,hE4.kept (fun b hb e=>hF.mvis (e▸hb)),?_⟩
    have hE:Ext (·=m.block) w w4:=((Ext.drew w).trans hE1).trans hE4
    have hsb:∀b,s2.blk b→¬ b=m.block:=fun b hb e=>hF.ne (e▸hb)
    have P4:Pure w0 w4:=hF.pure.trans' hE (fun i hi e=>by subst e;exact absurd hF.mown (by omega))
    intro w5 hs5
    have R5:Own H w5 24 5 s2 (out'.map jCJ):=(hF.rows.ext hE hsb).hst hs5
    have O5:Own H w5 42 5 r1 (ls.map yS):=(hO.ext hE (fun b hb e=>hrm b hb e)).hst hs5
    have M5:=hM4.ext hs5.ext hF.mvis
    have P5:=P4.hst hs5
    intro p8 w6 h6
    have E6:Pure w5 w6:=Ext.new h6
    have b6:=Box.of_new h6
    have hs6:=hs5.again (E6.keptP (H:=H))
    obtain ⟨s',w7,hr7,hO7,hE7,hk7,hb7⟩:=(R5.pure E6).append (P:=prog) (ty:=49) (c:=1) jDT hs6 (r:=jCJ f') (by rw [hrow'];exact b6.row) rfl rfl (by simp;omega) (by simp [maxLen];omega)
    refine ⟨s',w7,hr7,hk7,?_⟩
    rw [qS hlt2 (by omega)]
    have M6:=M5.ext (F:=yF) E6 id
    have hs'm:¬ s'.blk m.block:=fun h=>(hb7 _ h).elim hF.ne (fun h=>by have:=M6.lt;omega)
    refine ⟨⟨q+1,rfl,by omega,hlt2,out'++[f'],by simp;omega,⟨jDJ (R5.pure E6) (P5.trans E6) hE7 hF.own,?_,by simpa using hO7,fun b hb=>(hb7 b hb).elim (hF.own b) (fun h=>by have:=(P5.trans E6).size;omega),hF.mown,hF.mvis,hs'm⟩,(O5.pure E6).ext hE7 (fun b hb hs=>hsr' b hs hb),fun b hb hr=>(hb7 b hb).elim (fun h=>hsr' b h hr) (fun h=>by have:=O5.rows.lt hr;have:=E6.size;omega),heq'⟩,jAP hlt2⟩
    have e:((out'++[f']).map Sp.Fault.key).map tV=ks':=by
     rw [hks,List.map_append,List.map_append];simp only [List.map_cons,List.map_nil];have:Sp.Fault.key f'=f:=by rw [hf',← hkey];simp [Sp.Fault.key]
     rw [this]
    rw [e]
    have M7:=M6.ext hE7 hF.ne
    simpa using M7
   refine ⟨fun hz=>?_,fun hz=>?_⟩
   ·intro H3 w10 hs3
    exact J3 true H3 w10 hs3.here (hAm.hst hs3) (Om.hst hs3) (fun _=>.inl (by simpa using hz)) (fun h=>by cases h)
   ·intro H3 w10 hs3
    have hA10:=hAm.hst hs3
    obtain ⟨v,hl10,hv⟩:=hA10.map.look (P:=prog) (T:=70) underlying70 yT uQ ⟨f,rfl⟩ (zeroValue3)
    have hk0:f.kind≠0:=by simpa using hz
    refine ⟨v,hl10,J3 _ H3 w10 hs3.here hA10 (Om.hst hs3) (fun h=>?_) (fun h=>?_)⟩
    ·have:=of_decide_eq_true h
     rcases hv with ⟨h1,_⟩ | ⟨_,h1⟩
     ·exact .inr (tR.1 h1)
     ·omega
    ·have:=of_decide_eq_false h
     rintro (h1 | h1)
     ·exact hk0 h1
     ·rcases hv with ⟨_,h2,_⟩ | ⟨h2,_⟩
      ·omega
      ·exact h2 (tR.2 h1)
  ·have hge:=uD hlen hq h
   subst hge
   rw [List.drop_length,Sp.vQ] at heq'
   rw [heq'] at heq
   rw [qS hlt (by omega)]
   exact ⟨⟨j+1,rfl,hlt,out',by rw [Nat.succ_mul];omega,hAm,Om,hsr',heq⟩,jAP hlt⟩
 ·have hge:=uD hlen hj h
  subst hge
  rw [List.drop_length,Sp.qW] at heq
  exact hK _ _ ⟨by rw [heq];exact hA.rows.rows,hA.own,hA.pure⟩
end Go.Proofs
end
section
open Go Go.SE
namespace Go.Sp
def wt:ByteArray:=⟨#[116]⟩
def wu:ByteArray:=⟨#[117]⟩
def lvA:Tree:=zT ⟨2,1,7,wt,false⟩ false false
def lvB:Tree:=zT ⟨1,1,7,wt,false⟩ false false
def lvC:Tree:=zT ⟨2,1,7,wu,false⟩ false false
def lv1:Pool:=(of [] lvA).2.2
def lv2:Pool:=(of lv1 lvB).2.2
def lv3:Pool:=(of lv2 lvC).2.2
theorem lv_a:(of [] lvA).1=6∧(of [] lvA).2.1=0:=by constructor <;> kernel_rfl
theorem lv_b:(of lv1 lvB).1=7∧(of lv1 lvB).2.1=0:=by constructor <;> kernel_rfl
theorem lv_c:(of lv2 lvC).1=11∧(of lv2 lvC).2.1=0:=by constructor <;> kernel_rfl
theorem lv_x:qE 1 7 wt 0 (Go.Proofs.vH lv3 [7,6])=(true,1,1):=by kernel_rfl
theorem lv_y:qE 1 7 wt 0 (Go.Proofs.vH lv3 [7])=(false,0,-1):=by kernel_rfl
theorem lv_l:jCK (Go.Proofs.vH lv3 [6,7,11])=[⟨1,7,1,0,2⟩]:=by kernel_rfl
end Go.Sp
end
section
open Go Go.SE
namespace Go.Proofs
open Tryd
attribute [local irreducible] Calls
theorem jBQ (p:Addr) (k f c:Int) (x:ByteArray) (hf:f=0∨f=1) (w:World) {L:Sp.Pool} {F:NP} (hP:zR w p L F) (hok:Sp.Ok L) {Q:Int→Int→WP}
  (hQ:∀w',(∃F',zR w' p (Sp.of L (Sp.zT ⟨k,f,c,x,false⟩ false false)).2.2 F'∧Ext F w w'∧∀b,F' b→F b∨w.heap.size≤b)→Q (Sp.of L (Sp.zT ⟨k,f,c,x,false⟩ false false)).1 (Sp.of L (Sp.zT ⟨k,f,c,x,false⟩ false false)).2.1 w') :
  Calls prog 12 #[.agg #[.int .i64 k,.int .i64 f,.int .u64 c,.string x,.bool false],.bool false,.bool false] w (fun e w2=>∃rKind1:Int,∃rFrom1:Int,∃rTo1:Int,∃rNum1:Int,∃rText1:ByteArray,∃rKids1:Sl,e=.returned (.agg #[(.int .i64 rKind1),(.int .i64 rFrom1),(.int .i64 rTo1),(.int .u64 rNum1),(.string rText1),rKids1.v]) ∧
   Kept yF w w2 ∧
   Calls prog 11 #[.pointer (some p),(.agg #[(.int .i64 rKind1),(.int .i64 rFrom1),(.int .i64 rTo1),(.int .u64 rNum1),(.string rText1),rKids1.v])] w2 (fun e w3=>∃r2:Int,∃r3:Int,e=.returned (.tuple #[(.int .i64 r2),(.int .i64 r3)])∧Kept yF w2 w3∧Q r2 r3 w3)):=by
 refine (jBA w.heap.size k f c x false false false w (Nat.le_refl _) hf).mono ?_
 rintro _ w2 ⟨s,rfl,hT,E2⟩
 refine ⟨_,_,_,_,_,s,rfl,E2.keptP,?_⟩
 refine (c_Of p _ s w2 hT.lt (hP.pure E2) hok (fun b hb h=>by have:=hP.lt hb;have:w.heap.size≤b:=h.1;omega) (fun b h=>h.2)).mono ?_
 rintro _ w3 ⟨r1,r2,rfl,hr,F',hP',E3,hF'⟩
 have e1:r1=_:=congrArg Prod.fst hr
 have e2:r2=_:=congrArg Prod.snd hr
 refine ⟨_,_,rfl,E3.kept (fun b h=>h.elim),?_⟩
 rw [e1,e2]
 exact hQ w3 ⟨F',hP',E2.pure.trans E3,fun b hb=>(hF' b hb).imp_right (fun h=>by have:=E2.size;omega)⟩
theorem Lst.of_ints {w:World} {p:Addr} {T:TypeId} (ts:List Int) (h:Box w p (ts.map fun t=>.int .i64 t) T):Lst (·=p.block) w 1 ⟨some p,ts.length,ts.length⟩ (xD ts):=by
 refine ⟨by simp [xD],fun i hi=>?_⟩;have hi':i<ts.length:=by simpa [xD] using hi
 refine ⟨p.add (i*1),⟨by omega,by simpa using hi',p,rfl,by simp⟩,by rw [zN],fun j hj=>?_⟩;have hj0:j=0:=by simpa [xD] using hj
 subst hj0;have:=h.cell (i:=i) (v:=.int .i64 ts[i]) (by simp [hi']);rw [yK,Nat.mul_one,Nat.add_zero,this];simp [xD]
theorem jFD (w0:World):Calls prog 6 #[] w0 (fun e w'=>∃r:Bool,e=.returned (.bool r)∧(r=true∧Pure w0 w')):=by
 refine w_O1 w0 (fun r w'=>r=true∧Pure w0 w') ?_;unfold m_O1;refine (c_New w0).mono ?_;rintro _ w1 ⟨_,rfl,p,rfl,E1,F1,hP1,hF1⟩;refine ⟨_,rfl,E1.keptP,Br.f rfl ?_⟩;refine jBQ p 2 1 7 Sp.wt (.inr rfl) w1 hP1 Sp.Ok.nil ?_;rintro w3 ⟨F3,hP3,E3,hF3⟩;have ok1:=Sp.jFW Sp.Ok.nil Sp.lvA;refine jBQ p 1 1 7 Sp.wt (.inr rfl) w3 hP3 ok1 ?_;rintro w5 ⟨F5,hP5,E5,hF5⟩;have ok2:=Sp.jFW ok1 Sp.lvB;refine jBQ p 2 1 7 Sp.wu (.inr rfl) w5 hP5 ok2 ?_;rintro w7 ⟨F7,hP7,E7,hF7⟩;have ok3:=Sp.jFW ok2 Sp.lvC;have hP:zR w7 p Sp.lv3 F7:=hP7;have s1:=E1.size;have s3:=E3.size;have s5:=E5.size;have E:Pure w0 w7:=((E1.trans' E3 (fun i hi h=>by have:=hF1 i h;omega)).trans' E5 (fun i hi h=>(hF3 i h).elim (fun h=>by have:=hF1 i h;omega) (fun h=>by omega))).trans' E7 (fun i hi h=>(hF5 i h).elim (fun h=>(hF3 i h).elim (fun h=>by have:=hF1 i h;omega) (fun h=>by omega)) (fun h=>by omega));have hF0:∀b,F7 b→w0.heap.size≤b:=fun b hb=>(hF7 b hb).elim (fun h=>(hF5 b h).elim (fun h=>(hF3 b h).elim (hF1 b) (fun h=>by omega)) (fun h=>by omega)) (fun h=>by omega);have ea:=Sp.lv_a;have eb:=Sp.lv_b;have ec:=Sp.lv_c;have ha1:(Sp.of [] (Sp.zT ⟨2,1,7,Sp.wt,false⟩ false false)).1=6:=ea.1;have ha2:(Sp.of [] (Sp.zT ⟨2,1,7,Sp.wt,false⟩ false false)).2.1=0:=ea.2;have hb1:(Sp.of (Sp.of [] (Sp.zT ⟨2,1,7,Sp.wt,false⟩ false false)).2.2 (Sp.zT ⟨1,1,7,Sp.wt,false⟩ false false)).1=7:=eb.1;have hb2:(Sp.of (Sp.of [] (Sp.zT ⟨2,1,7,Sp.wt,false⟩ false false)).2.2 (Sp.zT ⟨1,1,7,Sp.wt,false⟩ false false)).2.1=0:=eb.2;have hc1:(Sp.of (Sp.of (Sp.of [] (Sp.zT ⟨2,1,7,Sp.wt,false⟩ false false)).2.2 (Sp.zT ⟨1,1,7,Sp.wt,false⟩ false false)).2.2 (Sp.zT ⟨2,1,7,Sp.wu,false⟩ false false)).1=11:=ec.1;have hc2:(Sp.of (Sp.of (Sp.of [] (Sp.zT ⟨2,1,7,Sp.wt,false⟩ false false)).2.2 (Sp.zT ⟨1,1,7,Sp.wt,false⟩ false false)).2.2 (Sp.zT ⟨2,1,7,Sp.wu,false⟩ false false)).2.1=0:=ec.2;refine Br.f (by rw [ha2];first | rfl | (rw [hb2];first | rfl | (rw [hc2];rfl))) ?_;rw [ha1,hb1,hc1];clear ha1 ha2 hb1 hb2 hc1 hc2 ea eb ec;intro H2 w9 hs9 p1 w11 h11;have hv9:∀b,F7 b→¬ H2 b:=hs9.disj (fun b hb=>⟨hP.lt hb,id⟩);have hP9:=hP.ext hs9.ext hv9;have E9:=E.hst hs9;have E11:Pure w9 w11:=Ext.new h11;refine (xR (some p) _ _ 1 7 Sp.wt w11 (uM p _ [7,6] w11 (hP9.pure E11) ok3 (Lst.of_ints [7,6] (Box.of_new h11)) (by simp)) (by simp [vH])).mono ?_;rintro _ w12 ⟨b,y,i,rfl,hj,E12⟩;rw [Sp.lv_x] at hj;cases hj;refine ⟨_,_,_,rfl,E12.keptP,?_⟩;intro H4 w14 hs14 p3 w15 h15;have E12':=E11.trans E12;have hP12:=hP9.pure E12';have hv14:∀b,F7 b→¬ H4 b:=hs14.disj (fun b hb=>⟨hP12.lt hb,hv9 b hb⟩);have hP14:=hP12.ext hs14.ext hv14;have E14:=(E9.trans E12').hst hs14;have E15:Pure w14 w15:=Ext.new h15;refine (xR (some p) _ _ 1 7 Sp.wt w15 (uM p _ [7] w15 (hP14.pure E15) ok3 (Lst.of_ints [7] (Box.of_new h15)) (by simp)) (by simp [vH])).mono ?_;rintro _ w16 ⟨b,y,i,rfl,hj,E16⟩;rw [Sp.lv_y] at hj;cases hj;refine ⟨_,_,_,rfl,E16.keptP,?_⟩;intro H5 w18 hs18 p5 w19 h19;have E16':=E15.trans E16;have hP16:=hP14.pure E16';have hv18:∀b,F7 b→¬ H5 b:=hs18.disj (fun b hb=>⟨hP16.lt hb,hv14 b hb⟩);have hP18:=hP16.ext hs18.ext hv18;have E18:=(E14.trans E16').hst hs18;have E19:Pure w18 w19:=Ext.new h19;refine (jBE (some p) _ _ w19 (uM p _ [6,7,11] w19 (hP18.pure E19) ok3 (Lst.of_ints [6,7,11] (Box.of_new h19)) (by simp)) (by simp [vH])).mono ?_;rintro _ w20 ⟨s,rfl,hs⟩;rw [Sp.lv_l] at hs;have E20:=E18.trans (E19.trans hs.pure);refine ⟨s,rfl,hs.kept,?_⟩;rintro _ rfl;have hl:s.len=1:=hs.rows.len;have O:=hs.own' (hs18.again E19.keptP);refine Br.t (by rw [hl];rfl) ?_;obtain ⟨a,hat,_⟩:=O.rows.nth (f:=jCJ) (xs:=[⟨1,7,1,0,2⟩]) (j:=0) (by simp);refine ⟨a,hat,?_⟩;intro H7 w22 hs22;obtain ⟨a',hat',hrow⟩:=(O.hst hs22).rows.nth (f:=jCJ) (xs:=[⟨1,7,1,0,2⟩]) (j:=0) (by simp);have haa:a'=a:=by
  obtain ⟨_,_,x,hx,rfl⟩:=hat;obtain ⟨_,_,y,hy,rfl⟩:=hat';rw [hx] at hy;cases hy;rfl
 subst haa;exact ⟨_,_,_,_,_,hrow,rfl,E20.hst hs22⟩
def jCW (who:Int) (c:Nat) (kind:Int):List UInt8 :=
 if kind == 1 then (([112,97,114,116,121,32]++Lib.itoa who)++[32,115,105,103,110,101,100,32,116,119,111,32,116,101,120,116,115,32,111,102,32])++Lib.decDigits c
 else if kind == 2 then [116,104,101,32,110,111,116,97,114,121,32,103,97,118,101,32,116,119,111,32,118,101,114,100,105,99,116,115,32,111,110,32]++Lib.decDigits c
 else if kind == 3 then ([116,104,101,32,111,114,105,103,105,110,97,116,111,114,32,115,105,103,110,101,100,32]++Lib.decDigits c)++[32,97,110,100,32,97,115,107,101,100,32,116,111,32,97,98,111,114,116,32,105,116]
 else []
theorem jED {n:Int} (h0:-9223372036854775808≤n) (h1:n≤9223372036854775807):(Lib.itoa n).length≤21:=by
 unfold Lib.itoa;split
 ·have:=jFX (n:=n.natAbs) (by omega);rw [List.length_cons];omega
 ·have:=jFX (n:=n.toNat) (by omega);omega
theorem tY (who:Int) (c:Nat) (k a b:Int) (w0:World) (ht:Pow w0) (hc:c<18446744073709551616) (h0:-9223372036854775808≤who) (h1:who≤9223372036854775807) :
  Calls prog 4 #[.agg #[.int .i64 who,.int .u64 (c:Int),.int .i64 k,.int .i64 a,.int .i64 b]] w0 (fun e w'=>∃r:ByteArray,e=.returned (.string r)∧r=⟨(jCW who c k).toArray⟩∧Pure w0 w'):=by
 refine w_N1 _ _ _ _ _ w0 (fun r w'=>r=⟨(jCW who c k).toArray⟩∧Pure w0 w') ?_
 unfold m_N1
 intro H1 w1 hs1
 have E1:Pure w0 w1:=hs1.first
 refine (jBF c hc w1 (uK ht E1)).mono ?_
 rintro _ w2 ⟨r1,rfl,rfl,E2⟩
 have E02:=E1.trans E2
 have hd:=jFX hc
 have hi:=jED h0 h1
 refine ⟨_,rfl,E2.keptP,fun hk=>?_,fun hk=>⟨fun hk2=>?_,fun hk2=>⟨fun hk3=>?_,fun hk3=>?_⟩⟩⟩
 ·refine (c_Itoa who h0 h1 w2 (uK ht E02)).mono ?_
  rintro _ w3 ⟨r2,rfl,rfl,E3⟩
  refine ⟨_,rfl,E3.keptP,_,vW [112,97,114,116,121,32] _ (by decide) (by omega),_,vW _ [32,115,105,103,110,101,100,32,116,119,111,32,116,101,120,116,115,32,111,102,32] (by rw [List.length_append];simp;omega) (by decide),_,vW _ _ (by simp only [List.length_append,List.length_cons,List.length_nil];omega) (by omega),?_,E02.trans E3⟩
  unfold jCW;rw [if_pos hk]
 ·refine ⟨_,vW [116,104,101,32,110,111,116,97,114,121,32,103,97,118,101,32,116,119,111,32,118,101,114,100,105,99,116,115,32,111,110,32] _ (by decide) (by omega),?_,E02⟩
  unfold jCW;rw [if_neg (by simp [hk]),if_pos hk2]
 ·refine ⟨_,vW [116,104,101,32,111,114,105,103,105,110,97,116,111,114,32,115,105,103,110,101,100,32] _ (by decide) (by omega),_,vW _ [32,97,110,100,32,97,115,107,101,100,32,116,111,32,97,98,111,114,116,32,105,116] (by rw [List.length_append];simp;omega) (by decide),?_,E02⟩
  unfold jCW;rw [if_neg (by simp [hk]),if_neg (by simp [hk2]),if_pos hk3]
 ·refine ⟨?_,E02⟩
  unfold jCW;rw [if_neg (by simp [hk]),if_neg (by simp [hk2]),if_neg (by simp [hk3])]
theorem xP (who:Int) (c:Nat) (k a b:Int) (w0:World) (hc:c<18446744073709551616) (h0:-9223372036854775808≤who) (h1:who≤9223372036854775807) :
  Calls prog 5 #[.agg #[.int .i64 who,.int .u64 (c:Int),.int .i64 k,.int .i64 a,.int .i64 b]] w0 (fun e w'=>∃r:ByteArray,e=.returned (.string r)∧r=⟨(jCW who c k).toArray⟩∧Pure w0 w'):=by
 refine w_N _ _ _ _ _ w0 (fun r w'=>r=⟨(jCW who c k).toArray⟩∧Pure w0 w') ?_
 unfold m_N
 intro H1 w1 hs1
 have E1:Pure w0 w1:=hs1.first
 refine (tZ c hc w1).mono ?_
 rintro _ w2 ⟨r1,rfl,rfl,rfl⟩
 have hd:=jFX hc
 have hi:=jED h0 h1
 have J:m_N_j1 k ⟨(Lib.decDigits c).toArray⟩ ⟨(Lib.itoa who).toArray⟩ w2 (fun r w'=>r=⟨(jCW who c k).toArray⟩∧Pure w0 w'):=by
  unfold m_N_j1;refine ⟨fun hk=>?_,fun hk=>⟨fun hk2=>?_,fun hk2=>⟨fun hk3=>?_,fun hk3=>?_⟩⟩⟩
  ·refine ⟨_,vW [112,97,114,116,121,32] _ (by decide) (by omega),_,vW _ [32,115,105,103,110,101,100,32,116,119,111,32,116,101,120,116,115,32,111,102,32] (by rw [List.length_append];simp;omega) (by decide),_,vW _ _ (by simp only [List.length_append,List.length_cons,List.length_nil];omega) (by omega),?_,E1⟩;unfold jCW;rw [if_pos hk]
  ·refine ⟨_,vW [116,104,101,32,110,111,116,97,114,121,32,103,97,118,101,32,116,119,111,32,118,101,114,100,105,99,116,115,32,111,110,32] _ (by decide) (by omega),?_,E1⟩;unfold jCW;rw [if_neg (by simp [hk]),if_pos hk2]
  ·refine ⟨_,vW [116,104,101,32,111,114,105,103,105,110,97,116,111,114,32,115,105,103,110,101,100,32] _ (by decide) (by omega),_,vW _ [32,97,110,100,32,97,115,107,101,100,32,116,111,32,97,98,111,114,116,32,105,116] (by rw [List.length_append];simp;omega) (by decide),?_,E1⟩;unfold jCW;rw [if_neg (by simp [hk]),if_neg (by simp [hk2]),if_pos hk3]
  ·refine ⟨?_,E1⟩;unfold jCW;rw [if_neg (by simp [hk]),if_neg (by simp [hk2]),if_neg (by simp [hk3])]
 refine ⟨_,rfl,(Ext.refl w2).keptP,fun h=>?_,fun h=>?_⟩
 ·have h:=of_decide_eq_true h
  have e:IntKind.u64.wrap ((IntKind.u64.wrap (IntKind.i64.wrap (0 - (IntKind.i64.wrap (who+1)))))+1)=((who.natAbs:Nat):Int):=by
   rw [IntWalk.i64_in (who+1) ⟨by omega,by omega⟩,IntWalk.i64_in (0 - (who+1)) ⟨by omega,by omega⟩,IntKind.wrap_u64,IntKind.wrap_u64];omega
  rw [e]
  refine (tZ who.natAbs (by omega) w2).mono ?_
  rintro _ w3 ⟨r2,rfl,rfl,rfl⟩
  have hn:=jFX (n:=who.natAbs) (by omega)
  refine ⟨_,rfl,(Ext.refl w3).keptP,_,vW [45] _ (by decide) (by omega),?_⟩
  have e2:Lib.itoa who=[45]++Lib.decDigits who.natAbs:=by unfold Lib.itoa;rw [if_pos h];rfl
  rw [e2] at J
  exact J
 ·have h:=of_decide_eq_false h
  have e:IntKind.u64.wrap who=((who.toNat:Nat):Int):=by rw [IntKind.wrap_u64];omega
  rw [e]
  refine (tZ who.toNat (by omega) w2).mono ?_
  rintro _ w3 ⟨r2,rfl,rfl,rfl⟩
  have e2:Lib.itoa who=Lib.decDigits who.toNat:=by unfold Lib.itoa;rw [if_neg h]
  rw [e2] at J
  exact ⟨_,rfl,(Ext.refl w3).keptP,J⟩
theorem yB (who:Int) (c:Nat) (k a b:Int) (w0:World) (ht:Pow w0) (hc:c<18446744073709551616) (h0:-9223372036854775808≤who) (h1:who≤9223372036854775807) :
  Calls prog 3 #[.agg #[.int .i64 who,.int .u64 (c:Int),.int .i64 k,.int .i64 a,.int .i64 b]] w0 (fun e w'=>∃r:Bool,e=.returned (.bool r)∧(r=true∧Pure w0 w')):=by
 refine w_P1 _ _ _ _ _ w0 (fun r w'=>r=true∧Pure w0 w') ?_
 unfold m_P1
 intro H1 w1 hs1
 have E1:Pure w0 w1.drew:=hs1.first.trans (Ext.drew w1)
 refine ⟨fun _=>True,trivial,?_⟩
 rintro _ rfl
 refine (tY who c k a b w1.drew (uK ht E1) hc h0 h1).mono ?_
 rintro _ w3 ⟨r1,rfl,rfl,E3⟩
 refine ⟨_,rfl,trivial,E3.keptP,?_⟩
 have E03:=E1.trans E3
 refine (xP who c k a b w3 hc h0 h1).mono ?_
 rintro _ w4 ⟨r2,rfl,rfl,E4⟩
 refine ⟨_,rfl,trivial,E4.keptP,fun _=>?_,fun h=>absurd h (by simp)⟩
 refine (jFD w4).mono ?_
 rintro _ w5 ⟨r3,rfl,hr,E5⟩
 exact ⟨_,rfl,trivial,E5.keptP,hr,(E03.trans E4).trans E5⟩
end Go.Proofs
end
section
namespace Go.SE
open Go.ChangeShapes Go.WideShapes Go.ChangeAt Go.RowKit
section
variable {H:Type} {enc:TypeId×Value→H} {P:Program}
theorem uE (hl:laidOutB P=true) {W W':World} (hb:Below W.heap.size W W'):∀(ts:List TypeId) (vs:List Value) (ds:List (DataW H)) (ps:List MemPlace),(ts.all fun t=>P.readableRec t && decide (t<P.types.size))=true →
  DataW.TrodAll enc P W 0 (fun _=>true) true ts vs ds ps→(∀x∈ps,x.block<W.heap.size)→DataW.TrodAll enc P W' 0 (fun b=>decide (b<W.heap.size)) true ts vs ds ps
 | [],_,_,_,_,h,_=>by
  obtain ⟨rfl,rfl,rfl⟩:=trodAll_nil h;exact h
 | t :: ts,_,_,_,hr,h,hlt=>by
  obtain ⟨v,vs1,d,ds1,a,b,rfl,rfl,rfl,h1,h2⟩:=trodAll_cons h;simp only [List.all_cons,Bool.and_eq_true,decide_eq_true_eq] at hr;exact ⟨a,b,Below.trod hl hr.1.1 hr.1.2 h1 hb (fun x hx=>hlt x (by simp [hx])),uE hl hb ts vs1 ds1 b (by simpa using hr.2) h2 (fun x hx=>hlt x (by simp [hx])),rfl⟩
theorem jEY {f:Func} {s:ChangeSpec} {W W':World} {args:Array Value} {ds gs:List (DataW H)} {before:List MemPlace} {t:TypeId} (hl:laidOutB P=true)
  (hv:s.vars=[]) (hf:∀ds:List (DataW H),ds.length=f.params.size→s.fn H ds={ results:=[.lit (.bool true)],args:=ds }) (hrt:f.resultTypes=#[t]) (ht:P.underlying t=some .bool)
  (hr:(f.params.toList.all fun t=>P.readableRec t && decide (t<P.types.size))=true)
  (hW:DataW.Whole enc P f.params.toList s.vars false W args.toList ds gs before) (E:Pure W W') :
  s.post enc P f false true false false W args (.bool true) W':=by
 have hW':=hW
 obtain ⟨p,q,hA,hV,rfl,hfz,hnd⟩:=hW
 rw [hv] at hV
 obtain ⟨rfl,rfl⟩:=trodVars_none hV
 have hlen:ds.length=f.params.size:=by
  have:∀(ts:List TypeId) (vs:List Value) (ds:List (DataW H)) (ps:List MemPlace),DataW.TrodAll enc P W 0 (fun _=>true) true ts vs ds ps→ds.length=ts.length:=by
   intro ts;induction ts with
   | nil=>intro vs ds ps h;obtain ⟨_,rfl,_⟩:=trodAll_nil h;rfl
   | cons t ts ih =>
    intro vs ds ps h
    obtain ⟨v,vs1,d,ds1,a,b,_,rfl,_,_,h2⟩:=trodAll_cons h
    simp [ih _ _ _ h2]
  simpa using this _ _ _ _ hA
 have hfn:=hf ds hlen
 have hfn':s.fn H (ds++[])={ results:=[.lit (.bool true)],args:=ds }:=by rw [List.append_nil];exact hfn
 have hlt:∀x∈p,x.block<W.heap.size:=fun x hx=>by simpa using hW'.lt x (by simp [hx])
 have bel:=E.below
 refine ⟨ds,[],p++[],[],p,[],hW',?_,?_,?_,bel.frame _,fun h=>by cases h⟩
 ·rw [hfn',hrt];exact trodAll_mk1 (shut_bool ht _)
 ·rw [hfn'];exact uE hl bel _ _ _ _ hr hA hlt
 ·rw [hfn',hv];exact hV
end
end Go.SE
namespace Go.SE
open Go.ChangeShapes Go.WideShapes Go.ChangeAt Go.RowKit
section
variable {P:Program} {W:World} {r:Reach} {b0:Nat} {t:TypeId} {v:Value}
theorem jAN {fs:Array Field} {ts:List TypeId} (ht:P.underlying t=some (.struct fs)) (hc:P.cellTypes P.depth t=some ts) (hn:P.cellsOf t=ts.length) (h:Value.okWide P W r b0 t v) :
  ∃cs:Array Value,v=.agg cs∧cs.size=ts.length∧∀(i:Nat) (u:TypeId) (c:Value),ts[i]?=some u→cs[i]?=some c→Cell.okWide P W r b0 u c:=by
 unfold Value.okWide at h
 rw [ht] at h
 obtain ⟨cs,rfl,hs,ts',hts,_,hall⟩:=h
 rw [hc] at hts
 cases hts
 refine ⟨cs,rfl,hs.trans hn,fun i u c hu hcs=>?_⟩
 obtain ⟨u',hu',hok⟩:=hall i c hcs
 have hlt:i<ts.length:=(List.getElem?_eq_some_iff.1 hu).1
 rw [Nat.mod_eq_of_lt hlt,hu] at hu'
 cases hu'
 exact hok
end
end Go.SE
end
