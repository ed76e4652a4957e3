import Derived.Test.YtkafbiknboamlaaGreatDoorProg
import Derived.KernelRfl
import Derived.Test.YtkafbiknboamlaaGreatDoorPa1
import Derived.Test.YtkafbiknboamlaaGreatDoorPa3
import Derived.Test.YtkafbiknboamlaaGreatDoorPa4
import Derived.Test.YtkafbiknboamlaaGreatDoorPa2
import Derived.ProofKit
import Derived.Carry
import Derived.OpenShut
import Derived.Stop.Joined
section
open Go Go.SE
open Go.IntKind renaming i64 → q6
namespace Go.Proofs
open Tryz
set_option maxRecDepth 100000
set_option maxHeartbeats 4000000
attribute [local irreducible] wpL wpX opE wpE Calls
def m_N1 (n1:Int) (w0:World) (K:ByteArray→WP):Prop :=Br (decide (n1<10)) (∃s1,(Instr.sliceAt 9 (vs (⟨#[48,49,50,51,52,53,54,55,56,57]⟩:ByteArray)) (some (vu n1)) (some (vu (IntKind.u64.wrap (n1+1)))) none).run prog w0=.ok (vs s1) w0∧K s1 w0) (∃z1,(Go.binOp .quo 26 (vu n1) (vu 10)).run prog w0=.ok (vu z1) w0∧Calls prog 113 #[(vu z1)] w0 (fun e w1=>∃r1,e=.returned (vs r1)∧∃z2,(Go.binOp .rem 26 (vu n1) (vu 10)).run prog w1=.ok (vu z2) w1∧Calls prog 113 #[(vu z2)] w1 (fun e w2=>∃r2,e=.returned (vs r2)∧∃s2,(Go.binOp .add 9 (vs r1) (vs r2)).run prog w2=.ok (vs s2) w2∧K s2 w2)))
theorem w_N1 (n1 w0 K) (h:m_N1 n1 w0 K):
  Calls prog 113 #[(vu n1)] w0 (fun e w'=>∃r3,e=.returned (vs r3)∧K r3 w'):=by
 refine cw (args:=[(vu n1)]) func113 ntmps113 (eg (q0 ve (ln (jB (eg (q0 (vu n1) (q0 (vb (decide (n1<10))) (jC ?_))))))))
 refine jL (cbr h ?_ ?_)<;>intro h
 refine eg (qc ?_)
 obtain ⟨s1,hv1,h⟩:=h
 refine q2 (vs s1) (qB (by kernel_rfl) (by kernel_rfl) (by kernel_rfl) (by kernel_rfl) hv1) (q (ln (er (zM (rs1 results113 ⟨s1,rfl,h⟩)))))
 refine jF (jL (eg (q ?_)))
 obtain ⟨z1,hv4,h⟩:=h
 refine q2 (vu z1) (qV (by kernel_rfl) (by kernel_rfl) (by kernel_rfl) hv4) (sc call113 (h.mono fun e w1 ⟨r1,k,h⟩=>⟨_,k,?_⟩))
 refine q ?_
 obtain ⟨z2,hv3,h⟩:=h
 refine q2 (vu z2) (qV (by kernel_rfl) (by kernel_rfl) (by kernel_rfl) hv3) (sc call113 (h.mono fun e w2 ⟨r2,k,h⟩=>⟨_,k,?_⟩))
 obtain ⟨s2,hv2,h⟩:=h
 refine q2 (vs s2) (qV (by kernel_rfl) (by kernel_rfl) (by kernel_rfl) hv2) (q (ln (er (rs1 results113 ⟨s2,rfl,h⟩))))
def m_W2 (n1:Int) (w0:World) (K:Int→WP):Prop :=∃e1:Int,(Instr.index 9 (vs (⟨#[48,49,50,51,52,53,54,55,56,57,97,98,99,100,101,102]⟩:ByteArray)) (.int .u8 n1)).run prog w0=.ok (.int .u8 e1) w0∧K e1 w0
theorem w_W2 (n1 w0 K) (h:m_W2 n1 w0 K):
  Calls prog 156 #[(.int .u8 n1)] w0 (fun e w'=>∃r1:Int,e=.returned (.int .u8 r1)∧K r1 w'):=by
 refine cw (args:=[(.int .u8 n1)]) func156 ntmps156 (eg (q0 (.int .u8 0) (ln (eg (q0 (.int .u8 n1) ?_)))))
 obtain ⟨e1,hv1,h⟩:=h
 refine q2 (.int .u8 e1) (zZ (by kernel_rfl) (by kernel_rfl) hv1) (q (ln (er (rs1 results156 ⟨e1,rfl,h⟩))))
def m_K1_l1 (s1:ByteArray) (b1:Sl) (i1:Int) (wl1:World) (Kc1:Sl→Int→WP) (K:Sl→WP):Prop :=Br (decide (i1<(s1.size:Int))) (∃e1:Int,(Instr.index 9 (vs s1) (vi i1)).run prog wl1=.ok (.int .u8 e1) wl1∧Br ((e1 == 34) || (e1 == 92)) (∀p2 w5,New wl1 (.cells #[(.int .u8 92),(.int .u8 e1)] 5) p2 w5→∃s2:Sl,∃w6:World,(Builtin.append_ #[54,54] 54 #[b1.v,(Sl.mk (some p2) 2 2).v]).run prog w5=.ok s2.v w6∧Kc1 s2 (q6.wrap (i1+1)) w6) (Br ((decide (e1≥32)) && (decide (e1≤126))) (∀p3 w10,New wl1 (.cells #[(.int .u8 e1)] 5) p3 w10→∃s3:Sl,∃w11:World,(Builtin.append_ #[54,54] 54 #[b1.v,(Sl.mk (some p3) 1 1).v]).run prog w10=.ok s3.v w11∧Kc1 s3 (q6.wrap (i1+1)) w11) (∃z1:Int,(Go.binOp .quo 5 (.int .u8 e1) (.int .u8 16)).run prog wl1=.ok (.int .u8 z1) wl1∧Calls prog 156 #[(.int .u8 z1)] wl1 (fun e w12=>∃r1:Int,e=.returned (.int .u8 r1)∧∃z2:Int,(Go.binOp .rem 5 (.int .u8 e1) (.int .u8 16)).run prog w12=.ok (.int .u8 z2) w12∧Calls prog 156 #[(.int .u8 z2)] w12 (fun e w13=>∃r2:Int,e=.returned (.int .u8 r2)∧∀p4 w14,New w13 (.cells #[(.int .u8 92),(.int .u8 120),(.int .u8 r1),(.int .u8 r2)] 5) p4 w14→∃s4:Sl,∃w15:World,(Builtin.append_ #[54,54] 54 #[b1.v,(Sl.mk (some p4) 4 4).v]).run prog w14=.ok s4.v w15∧Kc1 s4 (q6.wrap (i1+1)) w15))))) (∀p5 w16,New wl1 (.cells #[(.int .u8 34)] 5) p5 w16→∃s5:Sl,∃w17:World,(Builtin.append_ #[54,54] 54 #[b1.v,(Sl.mk (some p5) 1 1).v]).run prog w16=.ok s5.v w17∧K s5 w17)
def m_K1 (s1:ByteArray) (w0:World) (K:Sl→WP):Prop :=∀p1 w1,New w0 (.cells #[(.int .u8 34)] 5) p1 w1→∃(I1:Sl→Int→WP) (mu1:Sl→Int→World→Nat),I1 (Sl.mk (some p1) 1 1) 0 w1∧∀(b1:Sl) (i1:Int) (wl1:World),I1 b1 i1 wl1→m_K1_l1 s1 b1 i1 wl1 (fun y'0 y'1 w'=>I1 y'0 y'1 w'∧mu1 y'0 y'1 w'<mu1 b1 i1 wl1) K
theorem w_K1 (s1 w0 K) (h:m_K1 s1 w0 K):
  Calls prog 114 #[(vs s1)] w0 (fun e w'=>∃r3:Sl,e=.returned r3.v∧K r3 w'):=by
 refine cw (args:=[(vs s1)]) func114 ntmps114 (eg (q0 Sl.nil.v (ln (eg (kP (O:=(.cells #[(.int .u8 34)] 5)) (fun p=>(Sl.mk (some p) 1 1).v) (jG rfl) (jK (vs:=#[(0,(.int .u8 34))]) (by kernel_rfl) (by kernel_rfl)) ?_)))))
 intro p1 w1 hn5
 have h:=h p1 w1 hn5
 refine q (ln (jB (eg (q (ln (jO ?_))))))
 obtain ⟨I1,mu1,h0,hr⟩:=h
 refine zU (σ:=Sl×Int×World) (fun s ρ w=>w=s.2.2∧Has ρ [(0,(vs s1)),(3,s.1.v),(4,(vi s.2.1))]∧I1 s.1 s.2.1 s.2.2) (fun s=>mu1 s.1 s.2.1 s.2.2) ((Sl.mk (some p1) 1 1),0,w1) ⟨rfl,hm,h0⟩ ?_
 rintro ⟨b1,i1,wl1⟩ ρ w ⟨hw,hH,hI⟩
 dsimp only at hw hH;subst w
 have h:=hr b1 i1 wl1 hI
 refine jY hH (jB (eg (qd (ln (cbr h ?_ ?_)))))<;>intro h
 refine jF (jL (jB (jO (eg (qb ?_)))))
 obtain ⟨e1,hv6,h⟩:=h
 refine q2 (.int .u8 e1) (zZ (by kernel_rfl) (by kernel_rfl) hv6) (q (ln (jO (jB (zH (fun ρ wJ=>wl1=wJ∧Has ρ [(0,(vs s1)),(3,b1.v),(4,(vi i1)),(5,(.int .u8 e1)),(25,(vb ((e1 == 34) || (e1 == 92))))]) ?_ ?_)))))
 refine rg (qc (jM 3 (fun ρ wJ=>∃b4'0:Bool,((e1 == 34)=b4'0)∧wl1=wJ∧Has ρ [(0,(vs s1)),(3,b1.v),(4,(vi i1)),(5,(.int .u8 e1)),(31,(vb (b4'0 || (e1 == 92))))]) ?_ ?_))
 rintro ρ w4 ⟨b4'0,he0,hw,hH⟩
 subst he0
 subst hw
 refine jR hH (q (ln ⟨rfl,hm⟩))
 rcases bte (e1 == 34) with hg4 | hg4
 refine sj2 28 hg4 (q2 (vb true) (xT hg4) (jC ⟨true,hg4,rfl,hm⟩))
 refine qk 28 hg4 (qk 28 hg4 (q2 (vb (e1 == 92)) (xF hg4) (jC ⟨false,hg4,rfl,hm⟩)))
 rintro ρ w3 ⟨hw,hH⟩
 subst hw
 refine zA hH (jL (cbr h ?_ ?_))<;>intro h
 refine rg (qb (nw4 (fun p=>(Sl.mk (some p) 2 2).v) h fun p2 w5 h=>?_))
 obtain ⟨s2,w6,hv1,h⟩:=h
 refine st (v:=s2.v) (jG rfl) (jI (args:=#[b1.v,(Sl.mk (some p2) 2 2).v]) (by kernel_rfl) (fun _=>rfl) hv1) (q0 s2.v (jC (kW (kW (jL (rg (q0 (vi i1) (q0 (vi (q6.wrap (i1+1))) (q0 (vi (q6.wrap (i1+1))) (ln ⟨(s2,(q6.wrap (i1+1)),w6),⟨rfl,hm,h.1⟩,h.2⟩))))))))))
 refine jB (zH (fun ρ wJ=>wl1=wJ∧Has ρ [(0,(vs s1)),(3,b1.v),(4,(vi i1)),(5,(.int .u8 e1)),(36,(vb ((decide (e1≥32)) && (decide (e1≤126)))))]) ?_ ?_)
 refine rg (qc (jM 3 (fun ρ wJ=>∃b7'0:Bool,((decide (e1≥32))=b7'0)∧wl1=wJ∧Has ρ [(0,(vs s1)),(3,b1.v),(4,(vi i1)),(5,(.int .u8 e1)),(42,(vb (b7'0 && (decide (e1≤126)))))]) ?_ ?_))
 rintro ρ w9 ⟨b7'0,he0,hw,hH⟩
 subst he0
 subst hw
 refine jR hH (q (ln ⟨rfl,hm⟩))
 rcases bte (decide (e1≥32)) with hg8 | hg8
 refine qk 39 hg8 (qk 39 hg8 (q2 (vb (decide (e1≤126))) (xT hg8) (jC ⟨true,hg8,rfl,hm⟩)))
 refine sj2 39 hg8 (q2 (vb false) (xF hg8) (jC ⟨false,hg8,rfl,hm⟩))
 rintro ρ w8 ⟨hw,hH⟩
 subst hw
 refine zA hH (jL (cbr h ?_ ?_))<;>intro h
 refine rg (qb (nw4 (fun p=>(Sl.mk (some p) 1 1).v) h fun p3 w10 h=>?_))
 obtain ⟨s3,w11,hv2,h⟩:=h
 refine st (v:=s3.v) (jG rfl) (jI (args:=#[b1.v,(Sl.mk (some p3) 1 1).v]) (by kernel_rfl) (fun _=>rfl) hv2) (q0 s3.v (jC (kW (kW (jL (rg (q0 (vi i1) (q0 (vi (q6.wrap (i1+1))) (q0 (vi (q6.wrap (i1+1))) (ln ⟨(s3,(q6.wrap (i1+1)),w11),⟨rfl,hm,h.1⟩,h.2⟩))))))))))
 refine rg (qb ?_)
 obtain ⟨z1,hv5,h⟩:=h
 refine q2 (.int .u8 z1) (qV (by kernel_rfl) (by kernel_rfl) (by kernel_rfl) hv5) (sc call156 (h.mono fun e w12 ⟨r1,k,h⟩=>⟨_,k,?_⟩))
 refine q ?_
 obtain ⟨z2,hv4,h⟩:=h
 refine q2 (.int .u8 z2) (qV (by kernel_rfl) (by kernel_rfl) (by kernel_rfl) hv4) (sc call156 (h.mono fun e w13 ⟨r2,k,h⟩=>⟨_,k,?_⟩))
 refine nw4 (fun p=>(Sl.mk (some p) 4 4).v) h fun p4 w14 h=>?_
 obtain ⟨s4,w15,hv3,h⟩:=h
 refine st (v:=s4.v) (jG rfl) (jI (args:=#[b1.v,(Sl.mk (some p4) 4 4).v]) (by kernel_rfl) (fun _=>rfl) hv3) (q0 s4.v (jC (kW (kW (jL (rg (q0 (vi i1) (q0 (vi (q6.wrap (i1+1))) (q0 (vi (q6.wrap (i1+1))) (ln ⟨(s4,(q6.wrap (i1+1)),w15),⟨rfl,hm,h.1⟩,h.2⟩))))))))))
 refine zI (vM (vM (vI (jL (eg (q0 b1.v (kP (O:=(.cells #[(.int .u8 34)] 5)) (fun p=>(Sl.mk (some p) 1 1).v) (jG rfl) (jK (vs:=#[(0,(.int .u8 34))]) (by kernel_rfl) (by kernel_rfl)) ?_)))))))
 intro p5 w16 hn4
 have h:=h p5 w16 hn4
 obtain ⟨s5,w17,hv7,h⟩:=h
 refine st (v:=s5.v) (jG rfl) (jI (args:=#[b1.v,(Sl.mk (some p5) 1 1).v]) (by kernel_rfl) (fun _=>rfl) hv7) (q0 s5.v (ln (er (rs1 results114 ⟨s5,rfl,h⟩))))
def m_R_j1 (aL b2:Sl) (H:NP) (w:World) (K:Sl→WP):Prop :=∃C2:WP,C2 w.drew∧∀w5,w5=w.drew→∃a1:Addr,At aL 0 6 a1∧∃bK bL bM bN bO bP,(∀w',C2 w'→Row w' a1 (Aa bK bL bM bN bO bP))∧(∀p2 w6,New w5 (.cells #[(.int .u8 40)] 5) p2 w6→C2 w6∧(∃s1:Sl,∃w7:World,(Builtin.append_ #[54,54] 54 #[b2.v,(Sl.mk (some p2) 1 1).v]).run prog w6=.ok s1.v w7∧C2 w7∧Kept H w6 w7∧(Calls prog 60 #[s1.v,(.agg #[(vi bK),(vi bL),(vi bM),(vu bN),(vs bO),bP.v])] w7 (fun e w8=>∃r3:Sl,e=.returned r3.v∧C2 w8∧Kept H w7 w8∧∀p3 w9,New w8 (.cells #[(.int .u8 41)] 5) p3 w9→C2 w9∧∃s2:Sl,∃w10:World,(Builtin.append_ #[54,54] 54 #[r3.v,(Sl.mk (some p3) 1 1).v]).run prog w9=.ok s2.v w10∧C2 w10∧Kept H w9 w10∧K s2 w10))∧(∀p4 w11,New w7 (.cells #[(.int .u8 41)] 5) p4 w11→C2 w11∧Calls prog 60 #[s1.v,(.agg #[(vi bK),(vi bL),(vi bM),(vu bN),(vs bO),bP.v])] w11 (fun e w12=>∃r4:Sl,e=.returned r4.v∧C2 w12∧Kept H w11 w12∧∃s3:Sl,∃w13:World,(Builtin.append_ #[54,54] 54 #[r4.v,(Sl.mk (some p4) 1 1).v]).run prog w12=.ok s3.v w13∧C2 w13∧Kept H w12 w13∧K s3 w13)))∧(∀p5 w14,New w6 (.cells #[(.int .u8 41)] 5) p5 w14→C2 w14∧∃s4:Sl,∃w15:World,(Builtin.append_ #[54,54] 54 #[b2.v,(Sl.mk (some p2) 1 1).v]).run prog w14=.ok s4.v w15∧C2 w15∧Kept H w14 w15∧Calls prog 60 #[s4.v,(.agg #[(vi bK),(vi bL),(vi bM),(vu bN),(vs bO),bP.v])] w15 (fun e w16=>∃r5:Sl,e=.returned r5.v∧C2 w16∧Kept H w15 w16∧∃s5:Sl,∃w17:World,(Builtin.append_ #[54,54] 54 #[r5.v,(Sl.mk (some p5) 1 1).v]).run prog w16=.ok s5.v w17∧C2 w17∧Kept H w16 w17∧K s5 w17)))∧(∀p6 w18,New w5 (.cells #[(.int .u8 41)] 5) p6 w18→C2 w18∧∀p7 w19,New w18 (.cells #[(.int .u8 40)] 5) p7 w19→C2 w19∧∃s6:Sl,∃w20:World,(Builtin.append_ #[54,54] 54 #[b2.v,(Sl.mk (some p7) 1 1).v]).run prog w19=.ok s6.v w20∧C2 w20∧Kept H w19 w20∧Calls prog 60 #[s6.v,(.agg #[(vi bK),(vi bL),(vi bM),(vu bN),(vs bO),bP.v])] w20 (fun e w21=>∃r6:Sl,e=.returned r6.v∧C2 w21∧Kept H w20 w21∧∃s7:Sl,∃w22:World,(Builtin.append_ #[54,54] 54 #[r6.v,(Sl.mk (some p6) 1 1).v]).run prog w21=.ok s7.v w22∧C2 w22∧Kept H w21 w22∧K s7 w22))
def m_R (b1:Sl) (aA aH:Int) (aI aJ:Int) (aK:ByteArray) (aL:Sl) (w0:World) (K:Sl→WP):Prop :=∀H1 w1,Hst w0 None w0 H1 w1→∃C1:WP,C1 w1.drew∧∀w2,w2=w1.drew→Calls prog 113 #[(vu (IntKind.u64.wrap aH))] w2 (fun e w3=>∃r1,e=.returned (vs r1)∧C1 w3∧Kept H1 w2 w3∧Calls prog 113 #[(vu (IntKind.u64.wrap aI))] w3 (fun e w4=>∃r2,e=.returned (vs r2)∧C1 w4∧Kept H1 w3 w4∧Br (aA == 1) (∃s8,(Go.binOp .add 9 (vs (⟨#[110]⟩:ByteArray)) (vs r1)).run prog w4=.ok (vs s8) w4∧∃s9:Sl,∃w23:World,(Builtin.append_ #[54,9] 54 #[b1.v,(vs s8)]).run prog w4=.ok s9.v w23∧Kept H1 w4 w23∧K s9 w23) (Br (aA == 2) (Calls prog 113 #[(vu aJ)] w4 (fun e w24=>∃r7,e=.returned (vs r7)∧Kept H1 w4 w24∧∃s10,(Go.binOp .add 9 (vs (⟨#[35]⟩:ByteArray)) (vs r7)).run prog w24=.ok (vs s10) w24∧∃s11:Sl,∃w25:World,(Builtin.append_ #[54,9] 54 #[b1.v,(vs s10)]).run prog w24=.ok s11.v w25∧Kept H1 w24 w25∧K s11 w25)) (Br (aA == 3) (Calls prog 114 #[(vs aK)] w4 (fun e w26=>∃r8:Sl,e=.returned r8.v∧Kept H1 w4 w26∧∃s12:Sl,∃w27:World,(Builtin.append_ #[54,54] 54 #[b1.v,r8.v]).run prog w26=.ok s12.v w27∧Kept H1 w26 w27∧K s12 w27)) (Br (aA == 6) (∃s13,(Go.binOp .add 9 (vs (⟨#[107]⟩:ByteArray)) (vs r1)).run prog w4=.ok (vs s13) w4∧∃s14:Sl,∃w28:World,(Builtin.append_ #[54,9] 54 #[b1.v,(vs s13)]).run prog w4=.ok s14.v w28∧Kept H1 w4 w28∧K s14 w28) (Br (aA == 4) (∃C3:WP,C3 w4.drew∧∀w29,w29=w4.drew→∃a2:Addr,At aL 0 6 a2∧∃cO cP cQ cR cS cT,(∀w',C3 w'→Row w' a2 (Aa cO cP cQ cR cS cT))∧∀p8 w30,New w29 (.cells #[(.int .u8 40)] 5) p8 w30→C3 w30∧∃s15:Sl,∃w31:World,(Builtin.append_ #[54,54] 54 #[b1.v,(Sl.mk (some p8) 1 1).v]).run prog w30=.ok s15.v w31∧C3 w31∧Kept H1 w30 w31∧Calls prog 60 #[s15.v,(.agg #[(vi cO),(vi cP),(vi cQ),(vu cR),(vs cS),cT.v])] w31 (fun e w32=>∃r9:Sl,e=.returned r9.v∧C3 w32∧Kept H1 w31 w32∧∃C4:WP,C4 w32.drew∧∀w33,w33=w32.drew→∃a3:Addr,At aL 1 6 a3∧∃bQ bR bS bT bU bV,(∀w',C4 w'→Row w' a3 (Aa bQ bR bS bT bU bV))∧(∀p9 w34,New w33 (.cells #[(.int .u8 32)] 5) p9 w34→C4 w34∧(∃s16:Sl,∃w35:World,(Builtin.append_ #[54,54] 54 #[r9.v,(Sl.mk (some p9) 1 1).v]).run prog w34=.ok s16.v w35∧C4 w35∧Kept H1 w34 w35∧(Calls prog 60 #[s16.v,(.agg #[(vi bQ),(vi bR),(vi bS),(vu bT),(vs bU),bV.v])] w35 (fun e w36=>∃r10:Sl,e=.returned r10.v∧C4 w36∧Kept H1 w35 w36∧∀p10 w37,New w36 (.cells #[(.int .u8 41)] 5) p10 w37→C4 w37∧∃s17:Sl,∃w38:World,(Builtin.append_ #[54,54] 54 #[r10.v,(Sl.mk (some p10) 1 1).v]).run prog w37=.ok s17.v w38∧C4 w38∧Kept H1 w37 w38∧K s17 w38))∧(∀p11 w39,New w35 (.cells #[(.int .u8 41)] 5) p11 w39→C4 w39∧Calls prog 60 #[s16.v,(.agg #[(vi bQ),(vi bR),(vi bS),(vu bT),(vs bU),bV.v])] w39 (fun e w40=>∃r11:Sl,e=.returned r11.v∧C4 w40∧Kept H1 w39 w40∧∃s18:Sl,∃w41:World,(Builtin.append_ #[54,54] 54 #[r11.v,(Sl.mk (some p11) 1 1).v]).run prog w40=.ok s18.v w41∧C4 w41∧Kept H1 w40 w41∧K s18 w41)))∧(∀p12 w42,New w34 (.cells #[(.int .u8 41)] 5) p12 w42→C4 w42∧∃s19:Sl,∃w43:World,(Builtin.append_ #[54,54] 54 #[r9.v,(Sl.mk (some p9) 1 1).v]).run prog w42=.ok s19.v w43∧C4 w43∧Kept H1 w42 w43∧Calls prog 60 #[s19.v,(.agg #[(vi bQ),(vi bR),(vi bS),(vu bT),(vs bU),bV.v])] w43 (fun e w44=>∃r12:Sl,e=.returned r12.v∧C4 w44∧Kept H1 w43 w44∧∃s20:Sl,∃w45:World,(Builtin.append_ #[54,54] 54 #[r12.v,(Sl.mk (some p12) 1 1).v]).run prog w44=.ok s20.v w45∧C4 w45∧Kept H1 w44 w45∧K s20 w45)))∧(∀p13 w46,New w33 (.cells #[(.int .u8 41)] 5) p13 w46→C4 w46∧∀p14 w47,New w46 (.cells #[(.int .u8 32)] 5) p14 w47→C4 w47∧∃s21:Sl,∃w48:World,(Builtin.append_ #[54,54] 54 #[r9.v,(Sl.mk (some p14) 1 1).v]).run prog w47=.ok s21.v w48∧C4 w48∧Kept H1 w47 w48∧Calls prog 60 #[s21.v,(.agg #[(vi bQ),(vi bR),(vi bS),(vu bT),(vs bU),bV.v])] w48 (fun e w49=>∃r13:Sl,e=.returned r13.v∧C4 w49∧Kept H1 w48 w49∧∃s22:Sl,∃w50:World,(Builtin.append_ #[54,54] 54 #[r13.v,(Sl.mk (some p13) 1 1).v]).run prog w49=.ok s22.v w50∧C4 w50∧Kept H1 w49 w50∧K s22 w50)))) (Br (aA == 5) (∀p15 w51,New w4 (.cells #[(.int .u8 104)] 5) p15 w51→∃s23:Sl,∃w52:World,(Builtin.append_ #[54,54] 54 #[b1.v,(Sl.mk (some p15) 1 1).v]).run prog w51=.ok s23.v w52∧Kept H1 w51 w52∧m_R_j1 aL s23 H1 w52 K) (Br (aA == 7) (∃s24,(Go.binOp .add 9 (vs (⟨#[115]⟩:ByteArray)) (vs r1)).run prog w4=.ok (vs s24) w4∧∃s25:Sl,∃w53:World,(Builtin.append_ #[54,9] 54 #[b1.v,(vs s24)]).run prog w4=.ok s25.v w53∧Kept H1 w4 w53∧m_R_j1 aL s25 H1 w53 K) (Br (aA == 8) (∃s26,(Go.binOp .add 9 (vs (⟨#[112]⟩:ByteArray)) (vs r1)).run prog w4=.ok (vs s26) w4∧∃s27,(Go.binOp .add 9 (vs s26) (vs (⟨#[62]⟩:ByteArray))).run prog w4=.ok (vs s27) w4∧∃s28,(Go.binOp .add 9 (vs s27) (vs r2)).run prog w4=.ok (vs s28) w4∧∃s29:Sl,∃w54:World,(Builtin.append_ #[54,9] 54 #[b1.v,(vs s28)]).run prog w4=.ok s29.v w54∧Kept H1 w4 w54∧m_R_j1 aL s29 H1 w54 K) (∃s30,(Go.binOp .add 9 (vs (⟨#[102]⟩:ByteArray)) (vs r1)).run prog w4=.ok (vs s30) w4∧∃s31,(Go.binOp .add 9 (vs s30) (vs (⟨#[62]⟩:ByteArray))).run prog w4=.ok (vs s31) w4∧∃s32,(Go.binOp .add 9 (vs s31) (vs r2)).run prog w4=.ok (vs s32) w4∧∃s33:Sl,∃w55:World,(Builtin.append_ #[54,9] 54 #[b1.v,(vs s32)]).run prog w4=.ok s33.v w55∧Kept H1 w4 w55∧m_R_j1 aL s33 H1 w55 K))))))))))
theorem w_R (b1 aA aH aI aJ aK aL w0 K) (h:m_R b1 aA aH aI aJ aK aL w0 K):
  Calls prog 60 #[b1.v,(.agg #[(vi aA),(vi aH),(vi aI),(vu aJ),(vs aK),aL.v])] w0 (fun e w'=>∃r14:Sl,e=.returned r14.v∧K r14 w'):=by
 refine cw (args:=[b1.v,(Ab aA aH aI aJ aK aL)]) func60 ntmps60 ?_
 obtain ⟨hs,hb⟩:=st0 w0
 refine eg (nw3 (Aa aA aH aI aJ aK aL) 28 hs hb xb fun p1 w1 H1 hs hb=>q (ln (jB ?_)))
 have ⟨h,hs⟩:=hs.hr (h H1 w1)
 obtain ⟨C1,hC,h⟩:=h
 refine dr2 (fun x=>C1 x∧HB H1 x _) [3,7] [] ⟨hC,hb.drew⟩ h hs hb fun w2 hs hb h=>?_
 have hs:=hs.here
 refine qx 0 (vp (some (p1.add 1))) Kp0 (qz 1 (vi aH) Kp1 (fun w' hw'=>(xl (isAgg3 _) (hw'.2.cell 0 1 gZ (by kernel_rfl)))) (qx 2 (vu (IntKind.u64.wrap aH)) Kp2 (qx 4 (vp (some (p1.add 2))) Kp4 (qz 5 (vi aI) Kp5 (fun w' hw'=>(xl (isAgg3 _) (hw'.2.cell 0 2 gZ (by kernel_rfl)))) (qx 6 (vu (IntKind.u64.wrap aI)) Kp6 (lg 3 (slc Kp3 call113 (h.mono ?_))))))))
 rintro e w3 ⟨r1,rfl,hC,hk,h⟩
 refine ⟨_,rfl,.inr ⟨hC,hb.kept hk⟩,?_⟩
 obtain ⟨hs,hb⟩:=hk.hh hs hb
 refine lg 7 (slc Kp7 call113 (h.mono ?_))
 rintro e w4 ⟨r2,rfl,hC,hk,h⟩
 refine ⟨_,rfl,.inr ⟨hC,hb.kept hk⟩,?_⟩
 obtain ⟨hs,hb⟩:=hk.hh hs hb
 refine qx 8 (vs r1) Kp8 (qx 9 (vs r2) Kp9 (wn (jL (jB (eg (q (q3 (xl (isAgg3 _) (hb.d0 0 gZ)) (ln (zD (fun ρ w=>∃b2:Sl,∃H:NP,Has ρ [(0,b2.v),(3,(vp (some p1)))]∧Hst w0 H w H w∧HB H w [(p1,(Aa aA aH aI aJ aK aL),28)]∧m_R_j1 aL b2 H w K) ?_ ?_)))))))))
 rintro ρ w ⟨b2,H,hH,hs,hb,h⟩
 refine jY hH (jB ?_)
 obtain ⟨C2,hC,h⟩:=h
 refine dr2 (fun x=>C2 x∧HB H x _) [1,2,7,8,9] [] ⟨hC,hb.drew⟩ h hs hb fun w5 hs hb h=>?_
 have hs:=hs.here
 refine qx 0 b2.v Kp0 (qx 3 (vp (some (p1.add 5))) Kp3 (qz 4 aL.v Kp4 (fun w' hw'=>(xl (isAgg22 _) (hw'.2.cell 0 5 gZ (by kernel_rfl)))) (qg 5 ?_)))
 obtain ⟨a1,hv9,h⟩:=h
 refine sy Kp5 (fun _ _=>xi (runUnderlying22 _) (sizeOf28 _) hv9) (qg 6 ?_)
 obtain ⟨bK,bL,bM,bN,bO,bP,hv8,h⟩:=h
 refine sy (v:=(Ab bK bL bM bN bO bP)) Kp6 (fun w' hw'=>(xa a1 (Aa bK bL bM bN bO bP) (isAgg28 _) (sizeOf28 _) (hv8 w' hw'.1))) (jGG (k:=1) (k':=8) (by kernel_rfl) ?_ ?_)
 have h:=h.1
 refine kC (O:=(.cells #[(.int .u8 40)] 5)) (fun p=>(Sl.mk (some p) 1 1).v) Kp1 (jG rfl) (by kernel_rfl) (jK (vs:=#[(0,(.int .u8 40))]) (by kernel_rfl) (by kernel_rfl)) ?_
 intro p2 w6 hn5
 have h:=h p2 w6 hn5
 refine ⟨.inr ⟨h.1,hb.kept (Ext.new (F:=None) hn5).keptP⟩,?_⟩
 have h:=h.2
 obtain ⟨hs,hb⟩:=hs.nw hb hn5
 refine jGG (k:=2) (k':=8) (by kernel_rfl) ?_ ?_
 have h:=h.1
 obtain ⟨s1,w7,hv3,hC,hk,h⟩:=h
 refine sl (v:=s1.v) Kp2 (jG rfl) (by kernel_rfl) (jI (args:=#[b2.v,(Sl.mk (some p2) 1 1).v]) (by kernel_rfl) (fun _=>rfl) hv3) (.inr ⟨hC,hb.kept hk⟩) ?_
 obtain ⟨hs,hb⟩:=hk.hh hs hb
 refine jGG (k:=7) (k':=8) (by kernel_rfl) ?_ ?_
 have h:=h.1
 refine slc Kp7 call60 (h.mono ?_)
 rintro e w8 ⟨r3,rfl,hC,hk,h⟩
 refine ⟨_,rfl,.inr ⟨hC,hb.kept hk⟩,?_⟩
 obtain ⟨hs,hb⟩:=hk.hh hs hb
 refine lg 8 (kC (O:=(.cells #[(.int .u8 41)] 5)) (fun p=>(Sl.mk (some p) 1 1).v) Kp8 (jG rfl) (by kernel_rfl) (jK (vs:=#[(0,(.int .u8 41))]) (by kernel_rfl) (by kernel_rfl)) ?_)
 intro p3 w9 hn2
 have h:=h p3 w9 hn2
 refine ⟨.inr ⟨h.1,hb.kept (Ext.new (F:=None) hn2).keptP⟩,?_⟩
 have h:=h.2
 obtain ⟨hs,hb⟩:=hs.nw hb hn2
 refine lg 9 ?_
 obtain ⟨s2,w10,hv1,hC,hk,h⟩:=h
 refine sl (v:=s2.v) Kp9 (jG rfl) (by kernel_rfl) (jI (args:=#[r3.v,(Sl.mk (some p3) 1 1).v]) (by kernel_rfl) (fun _=>rfl) hv1) (.inr ⟨hC,hb.kept hk⟩) ?_
 obtain ⟨hs,hb⟩:=hk.hh hs hb
 refine qx 10 s2.v (jE (S8 (jA (jA jD)))) (wn (jL (er (rs1 results60 ⟨s2,rfl,h⟩))))
 have h:=h.2
 refine kC (O:=(.cells #[(.int .u8 41)] 5)) (fun p=>(Sl.mk (some p) 1 1).v) Kp8 (jG rfl) (by kernel_rfl) (jK (vs:=#[(0,(.int .u8 41))]) (by kernel_rfl) (by kernel_rfl)) ?_
 intro p4 w11 hn3
 have h:=h p4 w11 hn3
 refine ⟨.inr ⟨h.1,hb.kept (Ext.new (F:=None) hn3).keptP⟩,?_⟩
 have h:=h.2
 obtain ⟨hs,hb⟩:=hs.nw hb hn3
 refine lg 7 (slc Kp7 call60 (h.mono ?_))
 rintro e w12 ⟨r4,rfl,hC,hk,h⟩
 refine ⟨_,rfl,.inr ⟨hC,hb.kept hk⟩,?_⟩
 obtain ⟨hs,hb⟩:=hk.hh hs hb
 refine lg 9 ?_
 obtain ⟨s3,w13,hv2,hC,hk,h⟩:=h
 refine sl (v:=s3.v) Kp9 (jG rfl) (by kernel_rfl) (jI (args:=#[r4.v,(Sl.mk (some p4) 1 1).v]) (by kernel_rfl) (fun _=>rfl) hv2) (.inr ⟨hC,hb.kept hk⟩) ?_
 obtain ⟨hs,hb⟩:=hk.hh hs hb
 refine qx 10 s3.v (jE (S8 (jA (jA jD)))) (wn (jL (er (rs1 results60 ⟨s3,rfl,h⟩))))
 have h:=h.2
 refine kC (O:=(.cells #[(.int .u8 41)] 5)) (fun p=>(Sl.mk (some p) 1 1).v) Kp8 (jG rfl) (by kernel_rfl) (jK (vs:=#[(0,(.int .u8 41))]) (by kernel_rfl) (by kernel_rfl)) ?_
 intro p5 w14 hn4
 have h:=h p5 w14 hn4
 refine ⟨.inr ⟨h.1,hb.kept (Ext.new (F:=None) hn4).keptP⟩,?_⟩
 have h:=h.2
 obtain ⟨hs,hb⟩:=hs.nw hb hn4
 refine lg 2 ?_
 obtain ⟨s4,w15,hv5,hC,hk,h⟩:=h
 refine sl (v:=s4.v) Kp2 (jG rfl) (by kernel_rfl) (jI (args:=#[b2.v,(Sl.mk (some p2) 1 1).v]) (by kernel_rfl) (fun _=>rfl) hv5) (.inr ⟨hC,hb.kept hk⟩) ?_
 obtain ⟨hs,hb⟩:=hk.hh hs hb
 refine lg 7 (slc Kp7 call60 (h.mono ?_))
 rintro e w16 ⟨r5,rfl,hC,hk,h⟩
 refine ⟨_,rfl,.inr ⟨hC,hb.kept hk⟩,?_⟩
 obtain ⟨hs,hb⟩:=hk.hh hs hb
 refine lg 9 ?_
 obtain ⟨s5,w17,hv4,hC,hk,h⟩:=h
 refine sl (v:=s5.v) Kp9 (jG rfl) (by kernel_rfl) (jI (args:=#[r5.v,(Sl.mk (some p5) 1 1).v]) (by kernel_rfl) (fun _=>rfl) hv4) (.inr ⟨hC,hb.kept hk⟩) ?_
 obtain ⟨hs,hb⟩:=hk.hh hs hb
 refine qx 10 s5.v (jE (S8 (jA (jA jD)))) (wn (jL (er (rs1 results60 ⟨s5,rfl,h⟩))))
 have h:=h.2
 refine kC (O:=(.cells #[(.int .u8 41)] 5)) (fun p=>(Sl.mk (some p) 1 1).v) Kp8 (jG rfl) (by kernel_rfl) (jK (vs:=#[(0,(.int .u8 41))]) (by kernel_rfl) (by kernel_rfl)) ?_
 intro p6 w18 hn7
 have h:=h p6 w18 hn7
 refine ⟨.inr ⟨h.1,hb.kept (Ext.new (F:=None) hn7).keptP⟩,?_⟩
 have h:=h.2
 obtain ⟨hs,hb⟩:=hs.nw hb hn7
 refine lg 1 (kC (O:=(.cells #[(.int .u8 40)] 5)) (fun p=>(Sl.mk (some p) 1 1).v) Kp1 (jG rfl) (by kernel_rfl) (jK (vs:=#[(0,(.int .u8 40))]) (by kernel_rfl) (by kernel_rfl)) ?_)
 intro p7 w19 hn6
 have h:=h p7 w19 hn6
 refine ⟨.inr ⟨h.1,hb.kept (Ext.new (F:=None) hn6).keptP⟩,?_⟩
 have h:=h.2
 obtain ⟨hs,hb⟩:=hs.nw hb hn6
 refine lg 2 ?_
 obtain ⟨s6,w20,hv7,hC,hk,h⟩:=h
 refine sl (v:=s6.v) Kp2 (jG rfl) (by kernel_rfl) (jI (args:=#[b2.v,(Sl.mk (some p7) 1 1).v]) (by kernel_rfl) (fun _=>rfl) hv7) (.inr ⟨hC,hb.kept hk⟩) ?_
 obtain ⟨hs,hb⟩:=hk.hh hs hb
 refine lg 7 (slc Kp7 call60 (h.mono ?_))
 rintro e w21 ⟨r6,rfl,hC,hk,h⟩
 refine ⟨_,rfl,.inr ⟨hC,hb.kept hk⟩,?_⟩
 obtain ⟨hs,hb⟩:=hk.hh hs hb
 refine lg 9 ?_
 obtain ⟨s7,w22,hv6,hC,hk,h⟩:=h
 refine sl (v:=s7.v) Kp9 (jG rfl) (by kernel_rfl) (jI (args:=#[r6.v,(Sl.mk (some p6) 1 1).v]) (by kernel_rfl) (fun _=>rfl) hv6) (.inr ⟨hC,hb.kept hk⟩) ?_
 obtain ⟨hs,hb⟩:=hk.hh hs hb
 refine qx 10 s7.v (jE (S8 (jA (jA jD)))) (wn (jL (er (rs1 results60 ⟨s7,rfl,h⟩))))
 refine jO (eg (qb (ln (cbr h ?_ ?_))))<;>intro h
 refine eg (qb ?_)
 obtain ⟨s8,hv11,h⟩:=h
 refine q2 (vs s8) (qV (by kernel_rfl) (by kernel_rfl) (by kernel_rfl) hv11) ?_
 obtain ⟨s9,w23,hv10,hk,h⟩:=h
 refine st (v:=s9.v) (jG rfl) (jI (args:=#[b1.v,(vs s8)]) (by kernel_rfl) (fun _=>rfl) hv10) ?_
 obtain ⟨hs,hb⟩:=hk.hh hs hb
 refine q (ln (er (vR (zM (rs1 results60 ⟨s9,rfl,h⟩)))))
 refine eg (qb (ln (cbr h ?_ ?_)))<;>intro h
 refine eg (qb (q3 (xl (isAgg26 _) (hb.d 0 3 gZ)) (sc call113 (h.mono fun e w24 ⟨r7,k,hk,h⟩=>have ⟨hs,hb⟩:=hk.hh hs hb;⟨_,k,?_⟩))))
 obtain ⟨s10,hv13,h⟩:=h
 refine q2 (vs s10) (qV (by kernel_rfl) (by kernel_rfl) (by kernel_rfl) hv13) ?_
 obtain ⟨s11,w25,hv12,hk,h⟩:=h
 refine st (v:=s11.v) (jG rfl) (jI (args:=#[b1.v,(vs s10)]) (by kernel_rfl) (fun _=>rfl) hv12) ?_
 obtain ⟨hs,hb⟩:=hk.hh hs hb
 refine q (ln (er (vR (zM (rs1 results60 ⟨s11,rfl,h⟩)))))
 refine eg (qb (ln (cbr h ?_ ?_)))<;>intro h
 refine eg (qb (q3 (xl (isAgg9 _) (hb.d 0 4 gZ)) (sc call114 (h.mono fun e w26 ⟨r8,k,hk,h⟩=>have ⟨hs,hb⟩:=hk.hh hs hb;⟨_,k,?_⟩))))
 obtain ⟨s12,w27,hv14,hk,h⟩:=h
 refine st (v:=s12.v) (jG rfl) (jI (args:=#[b1.v,r8.v]) (by kernel_rfl) (fun _=>rfl) hv14) ?_
 obtain ⟨hs,hb⟩:=hk.hh hs hb
 refine q (ln (er (vR (zM (rs1 results60 ⟨s12,rfl,h⟩)))))
 refine eg (qb (ln (cbr h ?_ ?_)))<;>intro h
 refine eg (qb ?_)
 obtain ⟨s13,hv16,h⟩:=h
 refine q2 (vs s13) (qV (by kernel_rfl) (by kernel_rfl) (by kernel_rfl) hv16) ?_
 obtain ⟨s14,w28,hv15,hk,h⟩:=h
 refine st (v:=s14.v) (jG rfl) (jI (args:=#[b1.v,(vs s13)]) (by kernel_rfl) (fun _=>rfl) hv15) ?_
 obtain ⟨hs,hb⟩:=hk.hh hs hb
 refine q (ln (er (vR (zM (rs1 results60 ⟨s14,rfl,h⟩)))))
 refine eg (qb (ln (cbr h ?_ ?_)))<;>intro h
 refine jB ?_
 obtain ⟨C3,hC,h⟩:=h
 refine dr2 (fun x=>C3 x∧HB H1 x _) [1,2,7] [] ⟨hC,hb.drew⟩ h hs hb fun w29 hs hb h=>?_
 have hs:=hs.here
 refine qx 0 b1.v Kp0 (qx 3 (vp (some (p1.add 5))) Kp3 (qz 4 aL.v Kp4 (fun w' hw'=>(xl (isAgg22 _) (hw'.2.cell 0 5 gZ (by kernel_rfl)))) (qg 5 ?_)))
 obtain ⟨a2,hv28,h⟩:=h
 refine sy Kp5 (fun _ _=>xi (runUnderlying22 _) (sizeOf28 _) hv28) (qg 6 ?_)
 obtain ⟨cO,cP,cQ,cR,cS,cT,hv27,h⟩:=h
 refine sy (v:=(Ab cO cP cQ cR cS cT)) Kp6 (fun w' hw'=>(xa a2 (Aa cO cP cQ cR cS cT) (isAgg28 _) (sizeOf28 _) (hv27 w' hw'.1))) (lg 1 (kC (O:=(.cells #[(.int .u8 40)] 5)) (fun p=>(Sl.mk (some p) 1 1).v) Kp1 (jG rfl) (by kernel_rfl) (jK (vs:=#[(0,(.int .u8 40))]) (by kernel_rfl) (by kernel_rfl)) ?_))
 intro p8 w30 hn14
 have h:=h p8 w30 hn14
 refine ⟨.inr ⟨h.1,hb.kept (Ext.new (F:=None) hn14).keptP⟩,?_⟩
 have h:=h.2
 obtain ⟨hs,hb⟩:=hs.nw hb hn14
 refine lg 2 ?_
 obtain ⟨s15,w31,hv26,hC,hk,h⟩:=h
 refine sl (v:=s15.v) Kp2 (jG rfl) (by kernel_rfl) (jI (args:=#[b1.v,(Sl.mk (some p8) 1 1).v]) (by kernel_rfl) (fun _=>rfl) hv26) (.inr ⟨hC,hb.kept hk⟩) ?_
 obtain ⟨hs,hb⟩:=hk.hh hs hb
 refine lg 7 (slc Kp7 call60 (h.mono ?_))
 rintro e w32 ⟨r9,rfl,hC,hk,h⟩
 refine ⟨_,rfl,.inr ⟨hC,hb.kept hk⟩,?_⟩
 obtain ⟨hs,hb⟩:=hk.hh hs hb
 refine qx 8 r9.v Kp8 (wn (jL (jB ?_)))
 obtain ⟨C4,hC,h⟩:=h
 refine dr2 (fun x=>C4 x∧HB H1 x _) [1,2,7,8,9] [] ⟨hC,hb.drew⟩ h hs hb fun w33 hs hb h=>?_
 have hs:=hs.here
 refine qx 0 r9.v Kp0 (qx 3 (vp (some (p1.add 5))) Kp3 (qz 4 aL.v Kp4 (fun w' hw'=>(xl (isAgg22 _) (hw'.2.cell 0 5 gZ (by kernel_rfl)))) (qg 5 ?_)))
 obtain ⟨a3,hv25,h⟩:=h
 refine sy Kp5 (fun _ _=>xi (runUnderlying22 _) (sizeOf28 _) hv25) (qg 6 ?_)
 obtain ⟨bQ,bR,bS,bT,bU,bV,hv24,h⟩:=h
 refine sy (v:=(Ab bQ bR bS bT bU bV)) Kp6 (fun w' hw'=>(xa a3 (Aa bQ bR bS bT bU bV) (isAgg28 _) (sizeOf28 _) (hv24 w' hw'.1))) (jGG (k:=1) (k':=8) (by kernel_rfl) ?_ ?_)
 have h:=h.1
 refine kC (O:=(.cells #[(.int .u8 32)] 5)) (fun p=>(Sl.mk (some p) 1 1).v) Kp1 (jG rfl) (by kernel_rfl) (jK (vs:=#[(0,(.int .u8 32))]) (by kernel_rfl) (by kernel_rfl)) ?_
 intro p9 w34 hn11
 have h:=h p9 w34 hn11
 refine ⟨.inr ⟨h.1,hb.kept (Ext.new (F:=None) hn11).keptP⟩,?_⟩
 have h:=h.2
 obtain ⟨hs,hb⟩:=hs.nw hb hn11
 refine jGG (k:=2) (k':=8) (by kernel_rfl) ?_ ?_
 have h:=h.1
 obtain ⟨s16,w35,hv19,hC,hk,h⟩:=h
 refine sl (v:=s16.v) Kp2 (jG rfl) (by kernel_rfl) (jI (args:=#[r9.v,(Sl.mk (some p9) 1 1).v]) (by kernel_rfl) (fun _=>rfl) hv19) (.inr ⟨hC,hb.kept hk⟩) ?_
 obtain ⟨hs,hb⟩:=hk.hh hs hb
 refine jGG (k:=7) (k':=8) (by kernel_rfl) ?_ ?_
 have h:=h.1
 refine slc Kp7 call60 (h.mono ?_)
 rintro e w36 ⟨r10,rfl,hC,hk,h⟩
 refine ⟨_,rfl,.inr ⟨hC,hb.kept hk⟩,?_⟩
 obtain ⟨hs,hb⟩:=hk.hh hs hb
 refine lg 8 (kC (O:=(.cells #[(.int .u8 41)] 5)) (fun p=>(Sl.mk (some p) 1 1).v) Kp8 (jG rfl) (by kernel_rfl) (jK (vs:=#[(0,(.int .u8 41))]) (by kernel_rfl) (by kernel_rfl)) ?_)
 intro p10 w37 hn8
 have h:=h p10 w37 hn8
 refine ⟨.inr ⟨h.1,hb.kept (Ext.new (F:=None) hn8).keptP⟩,?_⟩
 have h:=h.2
 obtain ⟨hs,hb⟩:=hs.nw hb hn8
 refine lg 9 ?_
 obtain ⟨s17,w38,hv17,hC,hk,h⟩:=h
 refine sl (v:=s17.v) Kp9 (jG rfl) (by kernel_rfl) (jI (args:=#[r10.v,(Sl.mk (some p10) 1 1).v]) (by kernel_rfl) (fun _=>rfl) hv17) (.inr ⟨hC,hb.kept hk⟩) ?_
 obtain ⟨hs,hb⟩:=hk.hh hs hb
 refine qx 10 s17.v (jE (S8 (jA (jA jD)))) (wn (jL (er (vR (zM (rs1 results60 ⟨s17,rfl,h⟩))))))
 have h:=h.2
 refine kC (O:=(.cells #[(.int .u8 41)] 5)) (fun p=>(Sl.mk (some p) 1 1).v) Kp8 (jG rfl) (by kernel_rfl) (jK (vs:=#[(0,(.int .u8 41))]) (by kernel_rfl) (by kernel_rfl)) ?_
 intro p11 w39 hn9
 have h:=h p11 w39 hn9
 refine ⟨.inr ⟨h.1,hb.kept (Ext.new (F:=None) hn9).keptP⟩,?_⟩
 have h:=h.2
 obtain ⟨hs,hb⟩:=hs.nw hb hn9
 refine lg 7 (slc Kp7 call60 (h.mono ?_))
 rintro e w40 ⟨r11,rfl,hC,hk,h⟩
 refine ⟨_,rfl,.inr ⟨hC,hb.kept hk⟩,?_⟩
 obtain ⟨hs,hb⟩:=hk.hh hs hb
 refine lg 9 ?_
 obtain ⟨s18,w41,hv18,hC,hk,h⟩:=h
 refine sl (v:=s18.v) Kp9 (jG rfl) (by kernel_rfl) (jI (args:=#[r11.v,(Sl.mk (some p11) 1 1).v]) (by kernel_rfl) (fun _=>rfl) hv18) (.inr ⟨hC,hb.kept hk⟩) ?_
 obtain ⟨hs,hb⟩:=hk.hh hs hb
 refine qx 10 s18.v (jE (S8 (jA (jA jD)))) (wn (jL (er (vR (zM (rs1 results60 ⟨s18,rfl,h⟩))))))
 have h:=h.2
 refine kC (O:=(.cells #[(.int .u8 41)] 5)) (fun p=>(Sl.mk (some p) 1 1).v) Kp8 (jG rfl) (by kernel_rfl) (jK (vs:=#[(0,(.int .u8 41))]) (by kernel_rfl) (by kernel_rfl)) ?_
 intro p12 w42 hn10
 have h:=h p12 w42 hn10
 refine ⟨.inr ⟨h.1,hb.kept (Ext.new (F:=None) hn10).keptP⟩,?_⟩
 have h:=h.2
 obtain ⟨hs,hb⟩:=hs.nw hb hn10
 refine lg 2 ?_
 obtain ⟨s19,w43,hv21,hC,hk,h⟩:=h
 refine sl (v:=s19.v) Kp2 (jG rfl) (by kernel_rfl) (jI (args:=#[r9.v,(Sl.mk (some p9) 1 1).v]) (by kernel_rfl) (fun _=>rfl) hv21) (.inr ⟨hC,hb.kept hk⟩) ?_
 obtain ⟨hs,hb⟩:=hk.hh hs hb
 refine lg 7 (slc Kp7 call60 (h.mono ?_))
 rintro e w44 ⟨r12,rfl,hC,hk,h⟩
 refine ⟨_,rfl,.inr ⟨hC,hb.kept hk⟩,?_⟩
 obtain ⟨hs,hb⟩:=hk.hh hs hb
 refine lg 9 ?_
 obtain ⟨s20,w45,hv20,hC,hk,h⟩:=h
 refine sl (v:=s20.v) Kp9 (jG rfl) (by kernel_rfl) (jI (args:=#[r12.v,(Sl.mk (some p12) 1 1).v]) (by kernel_rfl) (fun _=>rfl) hv20) (.inr ⟨hC,hb.kept hk⟩) ?_
 obtain ⟨hs,hb⟩:=hk.hh hs hb
 refine qx 10 s20.v (jE (S8 (jA (jA jD)))) (wn (jL (er (vR (zM (rs1 results60 ⟨s20,rfl,h⟩))))))
 have h:=h.2
 refine kC (O:=(.cells #[(.int .u8 41)] 5)) (fun p=>(Sl.mk (some p) 1 1).v) Kp8 (jG rfl) (by kernel_rfl) (jK (vs:=#[(0,(.int .u8 41))]) (by kernel_rfl) (by kernel_rfl)) ?_
 intro p13 w46 hn13
 have h:=h p13 w46 hn13
 refine ⟨.inr ⟨h.1,hb.kept (Ext.new (F:=None) hn13).keptP⟩,?_⟩
 have h:=h.2
 obtain ⟨hs,hb⟩:=hs.nw hb hn13
 refine lg 1 (kC (O:=(.cells #[(.int .u8 32)] 5)) (fun p=>(Sl.mk (some p) 1 1).v) Kp1 (jG rfl) (by kernel_rfl) (jK (vs:=#[(0,(.int .u8 32))]) (by kernel_rfl) (by kernel_rfl)) ?_)
 intro p14 w47 hn12
 have h:=h p14 w47 hn12
 refine ⟨.inr ⟨h.1,hb.kept (Ext.new (F:=None) hn12).keptP⟩,?_⟩
 have h:=h.2
 obtain ⟨hs,hb⟩:=hs.nw hb hn12
 refine lg 2 ?_
 obtain ⟨s21,w48,hv23,hC,hk,h⟩:=h
 refine sl (v:=s21.v) Kp2 (jG rfl) (by kernel_rfl) (jI (args:=#[r9.v,(Sl.mk (some p14) 1 1).v]) (by kernel_rfl) (fun _=>rfl) hv23) (.inr ⟨hC,hb.kept hk⟩) ?_
 obtain ⟨hs,hb⟩:=hk.hh hs hb
 refine lg 7 (slc Kp7 call60 (h.mono ?_))
 rintro e w49 ⟨r13,rfl,hC,hk,h⟩
 refine ⟨_,rfl,.inr ⟨hC,hb.kept hk⟩,?_⟩
 obtain ⟨hs,hb⟩:=hk.hh hs hb
 refine lg 9 ?_
 obtain ⟨s22,w50,hv22,hC,hk,h⟩:=h
 refine sl (v:=s22.v) Kp9 (jG rfl) (by kernel_rfl) (jI (args:=#[r13.v,(Sl.mk (some p13) 1 1).v]) (by kernel_rfl) (fun _=>rfl) hv22) (.inr ⟨hC,hb.kept hk⟩) ?_
 obtain ⟨hs,hb⟩:=hk.hh hs hb
 refine qx 10 s22.v (jE (S8 (jA (jA jD)))) (wn (jL (er (vR (zM (rs1 results60 ⟨s22,rfl,h⟩))))))
 refine eg (qb (ln (cbr h ?_ ?_)))<;>intro h
 refine rg (q (nw5 (fun p=>(Sl.mk (some p) 1 1).v) hs hb h fun p15 w51 hs hb h=>?_))
 obtain ⟨s23,w52,hv29,hk,h⟩:=h
 refine st (v:=s23.v) (jG rfl) (jI (args:=#[b1.v,(Sl.mk (some p15) 1 1).v]) (by kernel_rfl) (fun _=>rfl) hv29) ?_
 obtain ⟨hs,hb⟩:=hk.hh hs hb
 refine q (jC (kW (jL ⟨s23,H1,hm,hs,hb,h⟩)))
 refine eg (qb (ln (cbr h ?_ ?_)))<;>intro h
 refine rg (qb ?_)
 obtain ⟨s24,hv31,h⟩:=h
 refine q2 (vs s24) (qV (by kernel_rfl) (by kernel_rfl) (by kernel_rfl) hv31) ?_
 obtain ⟨s25,w53,hv30,hk,h⟩:=h
 refine st (v:=s25.v) (jG rfl) (jI (args:=#[b1.v,(vs s24)]) (by kernel_rfl) (fun _=>rfl) hv30) ?_
 obtain ⟨hs,hb⟩:=hk.hh hs hb
 refine q (jC (kW (jL ⟨s25,H1,hm,hs,hb,h⟩)))
 refine eg (qb (ln (cbr h ?_ ?_)))<;>intro h
 refine rg (qb ?_)
 obtain ⟨s26,hv35,h⟩:=h
 refine q2 (vs s26) (qV (by kernel_rfl) (by kernel_rfl) (by kernel_rfl) hv35) ?_
 obtain ⟨s27,hv34,h⟩:=h
 refine q2 (vs s27) (qV (by kernel_rfl) (by kernel_rfl) (by kernel_rfl) hv34) (q ?_)
 obtain ⟨s28,hv33,h⟩:=h
 refine q2 (vs s28) (qV (by kernel_rfl) (by kernel_rfl) (by kernel_rfl) hv33) ?_
 obtain ⟨s29,w54,hv32,hk,h⟩:=h
 refine st (v:=s29.v) (jG rfl) (jI (args:=#[b1.v,(vs s28)]) (by kernel_rfl) (fun _=>rfl) hv32) ?_
 obtain ⟨hs,hb⟩:=hk.hh hs hb
 refine q (jC (kW (jL ⟨s29,H1,hm,hs,hb,h⟩)))
 refine rg (qb ?_)
 obtain ⟨s30,hv39,h⟩:=h
 refine q2 (vs s30) (qV (by kernel_rfl) (by kernel_rfl) (by kernel_rfl) hv39) ?_
 obtain ⟨s31,hv38,h⟩:=h
 refine q2 (vs s31) (qV (by kernel_rfl) (by kernel_rfl) (by kernel_rfl) hv38) (q ?_)
 obtain ⟨s32,hv37,h⟩:=h
 refine q2 (vs s32) (qV (by kernel_rfl) (by kernel_rfl) (by kernel_rfl) hv37) ?_
 obtain ⟨s33,w55,hv36,hk,h⟩:=h
 refine st (v:=s33.v) (jG rfl) (jI (args:=#[b1.v,(vs s32)]) (by kernel_rfl) (fun _=>rfl) hv36) ?_
 obtain ⟨hs,hb⟩:=hk.hh hs hb
 refine q (jC (kW (jL ⟨s33,H1,hm,hs,hb,h⟩)))
def m_X2 (aA aH:Int) (aI aJ:Int) (aK:ByteArray) (aL:Sl) (w0:World) (K:ByteArray→Int→WP):Prop :=∀H1 w1,Hst w0 None w0 H1 w1→Calls prog 57 #[(.agg #[(vi aA),(vi aH),(vi aI),(vu aJ),(vs aK),aL.v])] w1 (fun e w2=>∃r1,e=.returned (vi r1)∧Kept H1 w1 w2∧Br (r1 != 0) (K ⟨#[]⟩ r1 w2) (Calls prog 60 #[Sl.nil.v,(.agg #[(vi aA),(vi aH),(vi aI),(vu aJ),(vs aK),aL.v])] w2 (fun e w3=>∃r2:Sl,e=.returned r2.v∧Kept H1 w2 w3∧∃c1,(convert 54 9 r2.v).run prog w3=.ok (vs c1) w3∧K c1 0 w3)))
theorem w_X2 (aA aH aI aJ aK aL w0 K) (h:m_X2 aA aH aI aJ aK aL w0 K):
  Calls prog 16 #[(.agg #[(vi aA),(vi aH),(vi aI),(vu aJ),(vs aK),aL.v])] w0 (fun e w'=>∃r3 r4,e=.returned (.tuple #[(vs r3),(vi r4)])∧K r3 r4 w'):=by
 refine cw (args:=[(Ab aA aH aI aJ aK aL)]) func16 ntmps16 ?_
 obtain ⟨hs,hb⟩:=st0 w0
 refine eg (nw3 (Aa aA aH aI aJ aK aL) 28 hs hb xb fun p1 w1 H1 hs hb=>qb (ln (eg (q2 (Ab aA aH aI aJ aK aL) (xa p1 (Aa aA aH aI aJ aK aL) (isAgg28 _) (sizeOf28 _) (hb.r0 0 6 gZ)) ?_))))
 have ⟨h,hs⟩:=hs.hr (h H1 w1)
 refine sc call57 (h.mono fun e w2 ⟨r1,k,hk,h⟩=>have ⟨hs,hb⟩:=hk.hh hs hb;⟨_,k,?_⟩)
 refine q (ln (jB (eg (qb (ln (cbr h ?_ ?_))))))<;>intro h
 refine eg (qc (ln (er (zM (uE (.inl rfl) results16 (v:=ve) (by kernel_rfl) (v':=(vi r1)) (by kernel_rfl) ⟨⟨#[]⟩,r1,rfl,h⟩)))))
 refine jF (jL (eg (q2 (Ab aA aH aI aJ aK aL) (xa p1 (Aa aA aH aI aJ aK aL) (isAgg28 _) (sizeOf28 _) (hb.r0 0 6 gZ)) (sc call60 (h.mono fun e w3 ⟨r2,k,hk,h⟩=>have ⟨hs,hb⟩:=hk.hh hs hb;⟨_,k,?_⟩)))))
 obtain ⟨c1,hv1,h⟩:=h
 refine q2 (vs c1) (vF (by kernel_rfl) hv1) (qb (ln (er (uE (.inl rfl) results16 (v:=(vs c1)) (by kernel_rfl) (v':=(vi 0)) (by kernel_rfl) ⟨c1,0,rfl,h⟩))))
def m_L1_l1 (r1:Option Addr) (w0:World) (Hl1:NP) (wl1:World) (Kc1:NP→WP) (K:WP):Prop :=∃a1,r1=some a1∧∀w1,Hst w0 Hl1 wl1 Hl1 w1→∃v1,w1.cell? (a1.add 1)=some (vi v1)∧∃a2,r1=some a2∧∃v2,w1.cell? a2=some (vs v2)∧Br (decide (v1<(v2.size:Int))) (∃a3,r1=some a3∧∃v3,w1.cell? a3=some (vs v3)∧∃a4,r1=some a4∧∃v4,w1.cell? (a4.add 1)=some (vi v4)∧∃e1:Int,(Instr.index 9 (vs v3) (vi v4)).run prog w1=.ok (.int .u8 e1) w1∧Br (e1 == 32) (∃a5,r1=some a5∧∃v5,w1.cell? (a5.add 1)=some (vi v5)∧∃a6,r1=some a6∧kG w1 (a6.add 1)∧¬ Hl1 (a6.add 1).block∧∀w2,w2=w1.setCell (a6.add 1) (vi (q6.wrap (v5+1)))→Kc1 Hl1 w2) (K w1)) (K w1)
def m_L1 (r1:Option Addr) (w0:World) (K:WP):Prop :=∃(I1:NP→WP) (mu1:World→Nat),I1 None w0∧∀Hl1 wl1,Hst w0 Hl1 wl1 Hl1 wl1→I1 Hl1 wl1→m_L1_l1 r1 w0 Hl1 wl1 (fun H' w'=>I1 H' w'∧mu1 w'<mu1 wl1) K
theorem w_L1 (r1 w0 K) (h:m_L1 r1 w0 K):
  Calls prog 118 #[(vp r1)] w0 (fun e w'=>e=.returned (.tuple #[])∧K  w'):=by
 refine cw (args:=[(vp r1)]) func118 ntmps118 ?_
 obtain ⟨hs,hb⟩:=st0 w0
 refine jO ?_
 obtain ⟨I1,mu1,h0,hr⟩:=h
 refine zU (σ:=NP×World) (fun s ρ w=>w=s.2∧Has ρ [(0,(vp r1))]∧Hst w0 s.1 w s.1 w∧HB s.1 w []∧I1 s.1 s.2) (fun s=>mu1 s.2) (None,w0) ⟨rfl,hm,hs,hb,h0⟩ ?_
 rintro ⟨Hl1,wl1⟩ ρ w ⟨hw,hH,hs,hb,hI⟩
 dsimp only at hw hH hs hb;subst w
 have h:=hr Hl1 wl1 hs hI
 refine jY hH (jB (jB (zJ (by kernel_rfl) (by kernel_rfl) (by kernel_rfl) (by kernel_rfl) ?_)))
 intro w1 hw1
 have hs:Hst w0 Hl1 wl1 Hl1 w1:=by rw [hw1];exact hs.drew
 have hb:HB Hl1 w1 []:=by rw [hw1];exact hb.drew
 refine qq 0 (vp r1) Kp0 (qg 1 ?_)
 obtain ⟨a1,hp1,h⟩:=h
 refine sxQ Kp1 (jG rfl) rfl (xn hp1) (qq 2 (vp (some (a1.add 1))) Kp2 (qg 3 ?_))
 have ⟨h,hs⟩:=hs.hr (h w1)
 obtain ⟨v1,hv6,h⟩:=h
 refine sxQ Kp3 (jG rfl) rfl (xl (isAgg3 _) hv6) (qq 4 (vp r1) Kp4 (qg 5 ?_))
 obtain ⟨a2,hp2,h⟩:=h
 refine sxQ Kp5 (jG rfl) rfl (xn hp2) (qq 6 (vp (some a2)) Kp6 (qg 7 ?_))
 obtain ⟨v2,hv5,h⟩:=h
 refine sxQ Kp7 (jG rfl) rfl (xl (isAgg9 _) hv5) (qq 8 (vi (v2.size:Int)) Kp8 (qq 9 (vb (decide (v1<(v2.size:Int)))) Kp9 (qq 10 (vb (decide (v1<(v2.size:Int)))) (jE (S8 (jA (jA jD)))) (qg 11 ?_))))
 obtain ⟨hg1,h⟩|⟨hg1,h⟩:=h.br
 refine sxQ (v:=(vp r1)) (jE (S8 (jA (jA (jA jD))))) (wy 12 hg1) rfl (by kernel_rfl) (qg 12 ?_)
 obtain ⟨a3,hp3,h⟩:=h
 refine sxQ (jE (S8 (S4 jD))) (wy 12 hg1) rfl (xn hp3) (qg 13 (sxQ (v:=(vp (some a3))) (jE (S8 (S4 (jA jD)))) (wy 12 hg1) rfl (by kernel_rfl) (qg 14 ?_)))
 obtain ⟨v3,hv4,h⟩:=h
 refine sxQ (jE (S8 (S4 (jA (jA jD))))) (wy 12 hg1) rfl (xl (isAgg9 _) hv4) (qg 15 (sxQ (v:=(vp r1)) (jE (S8 (S4 (jA (jA (jA jD)))))) (wy 12 hg1) rfl (by kernel_rfl) (qg 16 ?_)))
 obtain ⟨a4,hp4,h⟩:=h
 refine sxQ (jE (S8 (S8 jD))) (wy 12 hg1) rfl (xn hp4) (qg 17 (sxQ (v:=(vp (some (a4.add 1)))) (jE (S8 (S8 (jA jD)))) (wy 12 hg1) rfl (by kernel_rfl) (qg 18 ?_)))
 obtain ⟨v4,hv3,h⟩:=h
 refine sxQ (jE (S8 (S8 (jA (jA jD))))) (wy 12 hg1) rfl (xl (isAgg3 _) hv3) (qg 19 ?_)
 obtain ⟨e1,hv2,h⟩:=h
 refine sxQ (v:=(.int .u8 e1)) (jE (S8 (S8 (jA (jA (jA jD)))))) (wy 12 hg1) rfl (zZ (by kernel_rfl) (by kernel_rfl) hv2) (qg 20 (sxQ (v:=(vb (e1 == 32))) (jE (S8 (S8 (S4 jD)))) (wy 12 hg1) rfl (by kernel_rfl) (qr 21 (vb (e1 == 32)) (jE (S8 (S8 (S4 (jA jD))))) (xT hg1) (wn (jL (cbr h ?_ ?_))))))<;>intro h
 refine jF (jL (jO (rg (q (qm h fun a5 h=>q (ql (isAgg3 _) h fun v5 h=>q (qm h fun a6 h=>q (st2 (sizeOf3 _) hs hb h fun w2 hs hb h=>jC (kW (jL ⟨(Hl1,w2),⟨rfl,hm,hs,hb,h.1⟩,h.2⟩))))))))))
 refine zI (vM (vM (vI (jDK (.inr rfl) results118 ⟨rfl,h⟩))))
 refine kM (jE (S8 (jA (jA (jA jD))))) (jH rfl (yD 12 hg1) rfl) (qn 12 (jE (S8 (S4 jD))) (jH rfl (yD 12 hg1) rfl) (qn 13 (jE (S8 (S4 (jA jD)))) (jH rfl (yD 12 hg1) rfl) (qn 14 (jE (S8 (S4 (jA (jA jD))))) (jH rfl (yD 12 hg1) rfl) (qn 15 (jE (S8 (S4 (jA (jA (jA jD)))))) (jH rfl (yD 12 hg1) rfl) (qn 16 (jE (S8 (S8 jD))) (jH rfl (yD 12 hg1) rfl) (qn 17 (jE (S8 (S8 (jA jD)))) (jH rfl (yD 12 hg1) rfl) (qn 18 (jE (S8 (S8 (jA (jA jD))))) (jH rfl (yD 12 hg1) rfl) (qn 19 (jE (S8 (S8 (jA (jA (jA jD)))))) (jH rfl (yD 12 hg1) rfl) (qn 20 (jE (S8 (S8 (S4 jD)))) (jH rfl (yD 12 hg1) rfl) (qr 21 (vb false) (jE (S8 (S8 (S4 (jA jD))))) (xF hg1) (wn (jL (kF (by kernel_rfl) (zI (vM (vM (vI (jDK (.inr rfl) results118 ⟨rfl,h⟩))))))))))))))))))
def m_Y2 (r1:Option Addr) (e1 at1:Int) (w0:World) (K:WP):Prop :=∃a1,r1=some a1∧∃v1,w0.cell? (a1.add 3)=some (vi v1)∧Br (v1 == 0) (∃a2,r1=some a2∧kG w0 (a2.add 3)∧∀w1,w1=w0.setCell (a2.add 3) (vi e1)→∃a3,r1=some a3∧kG w1 (a3.add 4)∧∀w2,w2=w1.setCell (a3.add 4) (vi at1)→K w2) (K w0)
theorem w_Y2 (r1 e1 at1 w0 K) (h:m_Y2 r1 e1 at1 w0 K):
  Calls prog 66 #[(vp r1),(vi e1),(vi at1)] w0 (fun e w'=>e=.returned (.tuple #[])∧K  w'):=by
 refine cw (args:=[(vp r1),(vi e1),(vi at1)]) func66 ntmps66 (eg (q0 (vp r1) ?_))
 refine qm h fun a1 h=>q (ql (isAgg3 _) h fun v1 h=>q (ln (cbr h ?_ ?_)))<;>intro h
 refine eg (qb (qm h fun a2 h=>q (st1 (sizeOf3 _) h fun w1 h=>ln (rg (qb (qm h fun a3 h=>q (st1 (sizeOf3 _) h fun w2 h=>jC (jDK (.inr rfl) results66 ⟨rfl,h⟩))))))))
 refine jF (jDK (.inr rfl) results66 ⟨rfl,h⟩)
def m_Z2 (r1:Option Addr) (w0:World) (K:WP):Prop :=∃a1,r1=some a1∧∀w1,Hst w0 None w0 None w1→∃v1,w1.cell? (a1.add 1)=some (vi v1)∧∃a2,r1=some a2∧∃v2,w1.cell? a2=some (vs v2)∧Br (decide (v1≥(v2.size:Int))) (∃a3,r1=some a3∧∃v3,w1.cell? a3=some (vs v3)∧Calls prog 66 #[(vp r1),(vi 3),(vi (v3.size:Int))] w1 (fun e w2=>e=.returned (.tuple #[])∧Kept None w1 w2∧K w2)) (∃a4,r1=some a4∧∃v4,w1.cell? (a4.add 1)=some (vi v4)∧Calls prog 66 #[(vp r1),(vi 60),(vi v4)] w1 (fun e w3=>e=.returned (.tuple #[])∧Kept None w1 w3∧K w3))
theorem w_Z2 (r1 w0 K) (h:m_Z2 r1 w0 K):
  Calls prog 119 #[(vp r1)] w0 (fun e w'=>e=.returned (.tuple #[])∧K  w'):=by
 refine cw (args:=[(vp r1)]) func119 ntmps119 ?_
 obtain ⟨hs,hb⟩:=st0 w0
 refine jB (zJ (by kernel_rfl) (by kernel_rfl) (by kernel_rfl) (by kernel_rfl) ?_)
 intro w1 hw1
 have hs:Hst w0 None w0 None w1:=by rw [hw1];exact hs.drew
 have hb:HB None w1 []:=by rw [hw1];exact hb.drew
 refine qq 0 (vp r1) Kp0 (qg 1 ?_)
 obtain ⟨a1,hp1,h⟩:=h
 refine sxQ Kp1 (jG rfl) rfl (xn hp1) (qq 2 (vp (some (a1.add 1))) Kp2 (qg 3 ?_))
 have ⟨h,hs⟩:=hs.hr (h w1)
 obtain ⟨v1,hv4,h⟩:=h
 refine sxQ Kp3 (jG rfl) rfl (xl (isAgg3 _) hv4) (qq 4 (vp r1) Kp4 (qg 5 ?_))
 obtain ⟨a2,hp2,h⟩:=h
 refine sxQ Kp5 (jG rfl) rfl (xn hp2) (qq 6 (vp (some a2)) Kp6 (qg 7 ?_))
 obtain ⟨v2,hv3,h⟩:=h
 refine sxQ Kp7 (jG rfl) rfl (xl (isAgg9 _) hv3) (qq 8 (vi (v2.size:Int)) Kp8 (qq 9 (vb (decide (v1≥(v2.size:Int)))) Kp9 (wn (jL (cbr h ?_ ?_)))))<;>intro h
 refine rg (qb (qm h fun a3 h=>q (ql (isAgg9 _) h fun v3 h=>q (sc call66 (h.mono fun e w2 ⟨k,hk,h⟩=>have ⟨hs,hb⟩:=hk.hh hs hb;⟨_,k,?_⟩)))))
 refine jC (jDK (.inr rfl) results119 ⟨rfl,h⟩)
 refine rg (qb (qm h fun a4 h=>q (ql (isAgg3 _) h fun v4 h=>sc call66 (h.mono fun e w3 ⟨k,hk,h⟩=>have ⟨hs,hb⟩:=hk.hh hs hb;⟨_,k,?_⟩))))
 refine jC (jDK (.inr rfl) results119 ⟨rfl,h⟩)
def m_J_j1 (r1:Option Addr) (v1 n1:Int) (wide1:Bool) (H:NP) (w:World) (K:Int→Int→WP):Prop :=∃a3,r1=some a3∧∃v3,w.cell? (a3.add 1)=some (vi v3)∧Br (v3 == v1) (Calls prog 119 #[(vp r1)] w (fun e w1=>e=.returned (.tuple #[])∧Kept H w w1∧K n1 v1 w1)) (Br wide1 (Calls prog 66 #[(vp r1),(vi 61),(vi v1)] w (fun e w2=>e=.returned (.tuple #[])∧Kept H w w2∧K n1 v1 w2)) (∃a4,r1=some a4∧∃v4,w.cell? a4=some (vs v4)∧∃e1:Int,(Instr.index 9 (vs v4) (vi v1)).run prog w=.ok (.int .u8 e1) w∧Br (e1 == 48) (∃a5,r1=some a5∧∃v5,w.cell? (a5.add 1)=some (vi v5)∧Br (decide (v5>(q6.wrap (v1+1)))) (Calls prog 66 #[(vp r1),(vi 61),(vi v1)] w (fun e w3=>e=.returned (.tuple #[])∧Kept H w w3∧K n1 v1 w3)) (K n1 v1 w)) (K n1 v1 w)))
def m_J_j3 (r1:Option Addr) (v1 n2:Int) (wide2 x1:Bool) (w0:World) (H:NP) (w:World) (Kc2:Int→Bool→NP→WP) (K:Int→Int→WP):Prop :=Br x1 (∃a6,r1=some a6∧∀w4,Hst w0 H w H w4→∃v6,w4.cell? a6=some (vs v6)∧∃a7,r1=some a7∧∃v7,w4.cell? (a7.add 1)=some (vi v7)∧∃e2:Int,(Instr.index 9 (vs v6) (vi v7)).run prog w4=.ok (.int .u8 e2) w4∧∃z1,(Go.binOp .quo 26 (vu (IntKind.u64.wrap (18446744073709551615 - (IntKind.u64.wrap (IntKind.u8.wrap (e2 - 48)))))) (vu 10)).run prog w4=.ok (vu z1) w4∧∃a8,r1=some a8∧∀H1 w5,Hst w0 H w4 H1 w5→∃v8,w5.cell? (a8.add 1)=some (vi v8)∧∃a9,r1=some a9∧kG w5 (a9.add 1)∧¬ H1 (a9.add 1).block∧∀w6,w6=w5.setCell (a9.add 1) (vi (q6.wrap (v8+1)))→Kc2 (IntKind.u64.wrap ((IntKind.u64.wrap (10*n2))+(IntKind.u64.wrap (IntKind.u8.wrap (e2 - 48))))) ((decide (n2>z1)) || wide2) H1 w6) (m_J_j1 r1 v1 n2 wide2 H w K)
def m_J_l2 (r1:Option Addr) (v1 n2:Int) (wide2:Bool) (w0:World) (Hl1:NP) (wl1:World) (Kc2:Int→Bool→NP→WP) (K:Int→Int→WP):Prop :=∃a10,r1=some a10∧∀w7,Hst w0 Hl1 wl1 Hl1 w7→∃v9,w7.cell? (a10.add 1)=some (vi v9)∧∃a11,r1=some a11∧∃v10,w7.cell? a11=some (vs v10)∧Br (decide (v9<(v10.size:Int))) (∃a12,r1=some a12∧∃v11,w7.cell? a12=some (vs v11)∧∃a13,r1=some a13∧∃v12,w7.cell? (a13.add 1)=some (vi v12)∧∃e3:Int,(Instr.index 9 (vs v11) (vi v12)).run prog w7=.ok (.int .u8 e3) w7∧Br (decide (e3≥48)) (∃a14,r1=some a14∧∃v13,w7.cell? a14=some (vs v13)∧∃a15,r1=some a15∧∃v14,w7.cell? (a15.add 1)=some (vi v14)∧∃e4:Int,(Instr.index 9 (vs v13) (vi v14)).run prog w7=.ok (.int .u8 e4) w7∧m_J_j3 r1 v1 n2 wide2 (decide (e4≤57)) w0 Hl1 w7 Kc2 K) (m_J_j3 r1 v1 n2 wide2 false w0 Hl1 w7 Kc2 K)) (m_J_j3 r1 v1 n2 wide2 false w0 Hl1 w7 Kc2 K)
def m_J (r1:Option Addr) (w0:World) (K:Int→Int→WP):Prop :=∃a1,r1=some a1∧∃v1,w0.cell? (a1.add 1)=some (vi v1)∧∃a2,r1=some a2∧∃v2,w0.cell? (a2.add 3)=some (vi v2)∧Br (v2 != 0) (K 0 v1 w0) (∃(I1:Int→Bool→NP→WP) (mu1:Int→Bool→World→Nat),I1 0 false None w0∧∀(n2:Int) (wide2:Bool) (Hl1:NP) (wl1:World),Hst w0 Hl1 wl1 Hl1 wl1→I1 n2 wide2 Hl1 wl1→m_J_l2 r1 v1 n2 wide2 w0 Hl1 wl1 (fun y'0 y'1 H' w'=>I1 y'0 y'1 H' w'∧mu1 y'0 y'1 w'<mu1 n2 wide2 wl1) K)
theorem w_J (r1 w0 K) (h:m_J r1 w0 K):
  Calls prog 159 #[(vp r1)] w0 (fun e w'=>∃r2 r3,e=.returned (.tuple #[(vu r2),(vi r3)])∧K r2 r3 w'):=by
 refine cw (args:=[(vp r1)]) func159 ntmps159 ?_
 obtain ⟨hs,hb⟩:=st0 w0
 refine eg (qb (ln (eg (q (qm h fun a1 h=>q (ql (isAgg3 _) h fun v1 h=>q (ln (jB (eg (q (qm h fun a2 h=>q (ql (isAgg3 _) h fun v2 h=>q (ln (cbr h ?_ ?_))))))))))))))<;>intro h
 refine eg (qc (ln (er (zM (uE (.inl rfl) results159 (v:=(vu 0)) (by kernel_rfl) (v':=(vi v1)) (by kernel_rfl) ⟨0,v1,rfl,h⟩)))))
 refine jF (jL (eg (q (ln (eg (q (ln (jB (zD (fun ρ w=>∃n1 wide1,∃H:NP,Has ρ [(0,(vp r1)),(4,(vi v1)),(5,(vu n1)),(6,(vb wide1))]∧Hst w0 H w H w∧HB H w []∧m_J_j1 r1 v1 n1 wide1 H w K) ?_ ?_)))))))))
 rintro ρ w ⟨n1,wide1,H,hH,hs,hb,h⟩
 refine jY hH (jB (jO (eg (q (qm h fun a3 h=>q (ql (isAgg3 _) h fun v3 h=>qc (ln (cbr h ?_ ?_))))))))<;>intro h
 refine rg (q (sc call119 (h.mono fun e w1 ⟨k,hk,h⟩=>have ⟨hs,hb⟩:=hk.hh hs hb;⟨_,k,?_⟩)))
 refine jC (kW (jL (eg (qd (ln (er (uE (.inl rfl) results159 (v:=(vu n1)) (by kernel_rfl) (v':=(vi v1)) (by kernel_rfl) ⟨n1,v1,rfl,h⟩)))))))
 refine eg (qb ?_)
 obtain ⟨hg1,h⟩|⟨hg1,h⟩:=h.br
 refine sj3 90 hg1 (sj5 90 hg1 (sm (sm (sm (sm (sm (sm (sm (sj 90 hg1 (q2 (vb true) (xT hg1) (q (ln (kO (by kernel_rfl) (rg (q0 (vp r1) (q0 (vi v1) (sc call66 (h.mono fun e w2 ⟨k,hk,h⟩=>have ⟨hs,hb⟩:=hk.hh hs hb;⟨_,k,?_⟩))))))))))))))))))
 refine jC (kW (jL (eg (qd (ln (er (uE (.inl rfl) results159 (v:=(vu n1)) (by kernel_rfl) (v':=(vi v1)) (by kernel_rfl) ⟨n1,v1,rfl,h⟩)))))))
 refine qk 90 hg1 ?_
 obtain ⟨a4,hp4,h⟩:=h
 refine q4 90 hg1 (xn hp4) (qk 90 hg1 ?_)
 obtain ⟨v4,hv3,h⟩:=h
 refine q4 90 hg1 (xl (isAgg9 _) hv3) (qk 90 hg1 ?_)
 obtain ⟨e1,hv2,h⟩:=h
 refine stq (v:=(.int .u8 e1)) (wy 90 hg1) (zZ (by kernel_rfl) (by kernel_rfl) hv2) (qk 90 hg1 (qk 90 hg1 ?_))
 obtain ⟨hg2,h⟩|⟨hg2,h⟩:=h.br
 refine qk 98 hg2 ?_
 obtain ⟨a5,hp5,h⟩:=h
 refine q4 98 hg2 (xn hp5) (qk 98 hg2 ?_)
 obtain ⟨v5,hv1,h⟩:=h
 refine q4 98 hg2 (xl (isAgg3 _) hv1) (qk 98 hg2 (qk 98 hg2 (qk 98 hg2 (stq (v:=(vb (decide (v5>(q6.wrap (v1+1)))))) (wy 90 hg1) (xT hg2) (q2 (vb (decide (v5>(q6.wrap (v1+1))))) (xF hg1) (q (ln (cbr h ?_ ?_))))))))<;>intro h
 refine rg (qb (sc call66 (h.mono fun e w3 ⟨k,hk,h⟩=>have ⟨hs,hb⟩:=hk.hh hs hb;⟨_,k,?_⟩)))
 refine jC (kW (jL (eg (qd (ln (er (uE (.inl rfl) results159 (v:=(vu n1)) (by kernel_rfl) (v':=(vi v1)) (by kernel_rfl) ⟨n1,v1,rfl,h⟩)))))))
 refine jF (kW (jL (eg (qd (ln (er (uE (.inl rfl) results159 (v:=(vu n1)) (by kernel_rfl) (v':=(vi v1)) (by kernel_rfl) ⟨n1,v1,rfl,h⟩)))))))
 refine sj2 98 hg2 (sj5 98 hg2 (stq (v:=(vb false)) (wy 90 hg1) (xF hg2) (q2 (vb false) (xF hg1) (q (ln (kF (by kernel_rfl) (jF (kW (jL (eg (q0 (vu n1) (q0 (vi v1) (q0 (vu n1) (q0 (vi v1) (ln (er (uE (.inl rfl) results159 (v:=(vu n1)) (by kernel_rfl) (v':=(vi v1)) (by kernel_rfl) ⟨n1,v1,rfl,h⟩)))))))))))))))))
 refine jO ?_
 obtain ⟨I1,mu1,h0,hr⟩:=h
 refine zU (σ:=Int×Bool×NP×World) (fun s ρ w=>w=s.2.2.2∧Has ρ [(0,(vp r1)),(4,(vi v1)),(5,(vu s.1)),(6,(vb s.2.1))]∧Hst w0 s.2.2.1 w s.2.2.1 w∧HB s.2.2.1 w []∧I1 s.1 s.2.1 s.2.2.1 s.2.2.2) (fun s=>mu1 s.1 s.2.1 s.2.2.2) (0,false,None,w0) ⟨rfl,hm,hs,hb,h0⟩ ?_
 rintro ⟨n2,wide2,Hl1,wl1⟩ ρ w ⟨hw,hH,hs,hb,hI⟩
 dsimp only at hw hH hs hb;subst w
 have h:=hr n2 wide2 Hl1 wl1 hs hI
 refine jY hH (jB (jB (zD (fun ρ w=>∃x1,∃H:NP,Has ρ [(0,(vp r1)),(4,(vi v1)),(5,(vu n2)),(6,(vb wide2)),(51,(vb x1))]∧Hst w0 H w H w∧HB H w []∧m_J_j3 r1 v1 n2 wide2 x1 w0 H w (fun y'0 y'1 H' w'=>I1 y'0 y'1 H' w'∧mu1 y'0 y'1 w'<mu1 n2 wide2 wl1) K) ?_ ?_)))
 rintro ρ w ⟨x1,H,hH,hs,hb,h⟩
 refine jY hH (cbr h ?_ ?_)<;>intro h
 refine jF (jL (jO (jB (zJ (by kernel_rfl) (by kernel_rfl) (by kernel_rfl) (by kernel_rfl) ?_))))
 intro w4 hw4
 have hs:Hst w0 H w H w4:=by rw [hw4];exact hs.drew
 have hb:HB H w4 []:=by rw [hw4];exact hb.drew
 refine qq 0 (vp r1) Kp0 (qg 1 ?_)
 obtain ⟨a6,hp6,h⟩:=h
 refine sxQ Kp1 (jG rfl) rfl (xn hp6) (qq 2 (vp (some a6)) Kp2 (qg 3 ?_))
 have ⟨h,hs⟩:=hs.hr (h w4)
 obtain ⟨v6,hv9,h⟩:=h
 refine sxQ Kp3 (jG rfl) rfl (xl (isAgg9 _) hv9) (qq 4 (vp r1) Kp4 (qg 5 ?_))
 obtain ⟨a7,hp7,h⟩:=h
 refine sxQ Kp5 (jG rfl) rfl (xn hp7) (qq 6 (vp (some (a7.add 1))) Kp6 (qg 7 ?_))
 obtain ⟨v7,hv8,h⟩:=h
 refine sxQ Kp7 (jG rfl) rfl (xl (isAgg3 _) hv8) (qg 8 ?_)
 obtain ⟨e2,hv7,h⟩:=h
 refine sxQ (v:=(.int .u8 e2)) Kp8 (jG rfl) rfl (zZ (by kernel_rfl) (by kernel_rfl) hv7) (qq 9 (.int .u8 (IntKind.u8.wrap (e2 - 48))) Kp9 (qq 10 (vu (IntKind.u64.wrap (IntKind.u8.wrap (e2 - 48)))) (jE (S8 (jA (jA jD)))) (qq 11 (vu (IntKind.u64.wrap (IntKind.u8.wrap (e2 - 48)))) (jE (S8 (jA (jA (jA jD))))) (wn (jL (jB (eg (qc ?_))))))))
 obtain ⟨z1,hv6,h⟩:=h
 refine q2 (vu z1) (qV (by kernel_rfl) (by kernel_rfl) (by kernel_rfl) hv6) (q (ln (zH (fun ρ wJ=>∃b1'0:Bool,∃HJ:NP,((decide (n2>z1))=b1'0)∧Hst w0 H w4 HJ wJ∧HB HJ wJ []∧Has ρ [(0,(vp r1)),(4,(vi v1)),(5,(vu n2)),(6,(vb (b1'0 || wide2))),(7,(vu (IntKind.u64.wrap (IntKind.u8.wrap (e2 - 48)))))]) ?_ ?_)))
 refine zO (t:=(decide (n2>z1))) (by kernel_rfl) (fun hc6=>?_) (fun hc6=>?_)
 refine rg (q (ln ⟨true,_,hc6,hs,hb,hm⟩))
 refine jF (jL ⟨false,_,hc6,hs,hb,hm⟩)
 rintro ρ w5 ⟨b1'0,H1,he0,hs,hb,hH⟩
 subst he0
 refine zA hH (jL (eg (q (qd (ln (rg (q (qm h fun a8 h=>q ?_))))))))
 have ⟨h,hs⟩:=hs.hr (h H1 w5)
 refine ql (isAgg3 _) h fun v8 h=>q (qm h fun a9 h=>q (st2 (sizeOf3 _) hs hb h fun w6 hs hb h=>jC (kW (jL ⟨((IntKind.u64.wrap ((IntKind.u64.wrap (10*n2))+(IntKind.u64.wrap (IntKind.u8.wrap (e2 - 48))))),((decide (n2>z1)) || wide2),H1,w6),⟨rfl,hm,hs,hb,h.1⟩,h.2⟩))))
 refine zI (vM (vM (vI (jL ⟨n2,wide2,H,hm,hs,hb,h⟩))))
 refine zJ (by kernel_rfl) (by kernel_rfl) (by kernel_rfl) (by kernel_rfl) ?_
 intro w7 hw7
 have hs:Hst w0 Hl1 wl1 Hl1 w7:=by rw [hw7];exact hs.drew
 have hb:HB Hl1 w7 []:=by rw [hw7];exact hb.drew
 refine qq 0 (vp r1) Kp0 (qg 1 ?_)
 obtain ⟨a10,hp11,h⟩:=h
 refine sxQ Kp1 (jG rfl) rfl (xn hp11) (qq 2 (vp (some (a10.add 1))) Kp2 (qg 3 ?_))
 have ⟨h,hs⟩:=hs.hr (h w7)
 obtain ⟨v9,hv17,h⟩:=h
 refine sxQ Kp3 (jG rfl) rfl (xl (isAgg3 _) hv17) (qq 4 (vp r1) Kp4 (qg 5 ?_))
 obtain ⟨a11,hp12,h⟩:=h
 refine sxQ Kp5 (jG rfl) rfl (xn hp12) (qq 6 (vp (some a11)) Kp6 (qg 7 ?_))
 obtain ⟨v10,hv16,h⟩:=h
 refine sxQ Kp7 (jG rfl) rfl (xl (isAgg9 _) hv16) (qq 8 (vi (v10.size:Int)) Kp8 (qq 9 (vb (decide (v9<(v10.size:Int)))) Kp9 (qq 10 (vb (decide (v9<(v10.size:Int)))) (jE (S8 (jA (jA jD)))) (qg 11 ?_))))
 obtain ⟨hg3,h⟩|⟨hg3,h⟩:=h.br
 refine sxQ (v:=(vp r1)) (jE (S8 (jA (jA (jA jD))))) (wy 28 hg3) rfl (by kernel_rfl) (qg 12 ?_)
 obtain ⟨a12,hp13,h⟩:=h
 refine sxQ (jE (S8 (S4 jD))) (wy 28 hg3) rfl (xn hp13) (qg 13 (sxQ (v:=(vp (some a12))) (jE (S8 (S4 (jA jD)))) (wy 28 hg3) rfl (by kernel_rfl) (qg 14 ?_)))
 obtain ⟨v11,hv15,h⟩:=h
 refine sxQ (jE (S8 (S4 (jA (jA jD))))) (wy 28 hg3) rfl (xl (isAgg9 _) hv15) (qg 15 (sxQ (v:=(vp r1)) (jE (S8 (S4 (jA (jA (jA jD)))))) (wy 28 hg3) rfl (by kernel_rfl) (qg 16 ?_)))
 obtain ⟨a13,hp14,h⟩:=h
 refine sxQ (jE (S8 (S8 jD))) (wy 28 hg3) rfl (xn hp14) (qg 17 (sxQ (v:=(vp (some (a13.add 1)))) (jE (S8 (S8 (jA jD)))) (wy 28 hg3) rfl (by kernel_rfl) (qg 18 ?_)))
 obtain ⟨v12,hv14,h⟩:=h
 refine sxQ (jE (S8 (S8 (jA (jA jD))))) (wy 28 hg3) rfl (xl (isAgg3 _) hv14) (qg 19 ?_)
 obtain ⟨e3,hv13,h⟩:=h
 refine sxQ (v:=(.int .u8 e3)) (jE (S8 (S8 (jA (jA (jA jD)))))) (wy 28 hg3) rfl (zZ (by kernel_rfl) (by kernel_rfl) hv13) (qg 20 (sxQ (v:=(vb (decide (e3≥48)))) (jE (S8 (S8 (S4 jD)))) (wy 28 hg3) rfl (by kernel_rfl) (qr 21 (vb (decide (e3≥48))) (jE (S8 (S8 (S4 (jA jD))))) (xT hg3) (qq 22 (vb (decide (e3≥48))) (jE (S8 (S8 (S4 (jA (jA jD)))))) (qg 23 ?_)))))
 obtain ⟨hg4,h⟩|⟨hg4,h⟩:=h.br
 refine sxQ (v:=(vp r1)) (jE (S8 (S8 (S4 (jA (jA (jA jD))))))) (wy 40 hg4) rfl (by kernel_rfl) (qg 24 ?_)
 obtain ⟨a14,hp15,h⟩:=h
 refine sxQ (jE (S8 (S8 (S8 jD)))) (wy 40 hg4) rfl (xn hp15) (qg 25 (sxQ (v:=(vp (some a14))) (jE (S8 (S8 (S8 (jA jD))))) (wy 40 hg4) rfl (by kernel_rfl) (qg 26 ?_)))
 obtain ⟨v13,hv12,h⟩:=h
 refine sxQ (jE (S8 (S8 (S8 (jA (jA jD)))))) (wy 40 hg4) rfl (xl (isAgg9 _) hv12) (qg 27 (sxQ (v:=(vp r1)) (jE (S8 (S8 (S8 (jA (jA (jA jD))))))) (wy 40 hg4) rfl (by kernel_rfl) (qg 28 ?_)))
 obtain ⟨a15,hp16,h⟩:=h
 refine sxQ (jE (S8 (S8 (S8 (S4 jD))))) (wy 40 hg4) rfl (xn hp16) (qg 29 (sxQ (v:=(vp (some (a15.add 1)))) (jE (S8 (S8 (S8 (S4 (jA jD)))))) (wy 40 hg4) rfl (by kernel_rfl) (qg 30 ?_)))
 obtain ⟨v14,hv11,h⟩:=h
 refine sxQ (jE (S8 (S8 (S8 (S4 (jA (jA jD))))))) (wy 40 hg4) rfl (xl (isAgg3 _) hv11) (qg 31 ?_)
 obtain ⟨e4,hv10,h⟩:=h
 refine sxQ (v:=(.int .u8 e4)) (jE (S8 (S8 (S8 (S4 (jA (jA (jA jD)))))))) (wy 40 hg4) rfl (zZ (by kernel_rfl) (by kernel_rfl) hv10) (qg 32 (sxQ (v:=(vb (decide (e4≤57)))) (jE (S8 (S8 (S8 (S8 jD))))) (wy 40 hg4) rfl (by kernel_rfl) (qr 33 (vb (decide (e4≤57))) (jE (S8 (S8 (S8 (S8 (jA jD)))))) (xT hg4) (wn (jL ⟨(decide (e4≤57)),Hl1,hm,hs,hb,h⟩)))))
 refine kM (jE (S8 (S8 (S4 (jA (jA (jA jD))))))) (jH rfl (yD 40 hg4) rfl) (qn 24 (jE (S8 (S8 (S8 jD)))) (jH rfl (yD 40 hg4) rfl) (qn 25 (jE (S8 (S8 (S8 (jA jD))))) (jH rfl (yD 40 hg4) rfl) (qn 26 (jE (S8 (S8 (S8 (jA (jA jD)))))) (jH rfl (yD 40 hg4) rfl) (qn 27 (jE (S8 (S8 (S8 (jA (jA (jA jD))))))) (jH rfl (yD 40 hg4) rfl) (qn 28 (jE (S8 (S8 (S8 (S4 jD))))) (jH rfl (yD 40 hg4) rfl) (qn 29 (jE (S8 (S8 (S8 (S4 (jA jD)))))) (jH rfl (yD 40 hg4) rfl) (qn 30 (jE (S8 (S8 (S8 (S4 (jA (jA jD))))))) (jH rfl (yD 40 hg4) rfl) (qn 31 (jE (S8 (S8 (S8 (S4 (jA (jA (jA jD)))))))) (jH rfl (yD 40 hg4) rfl) (qn 32 (jE (S8 (S8 (S8 (S8 jD))))) (jH rfl (yD 40 hg4) rfl) (qr 33 (vb false) (jE (S8 (S8 (S8 (S8 (jA jD)))))) (xF hg4) (wn (jL ⟨false,Hl1,hm,hs,hb,h⟩))))))))))))
 refine kM (jE (S8 (jA (jA (jA jD))))) (jH rfl (yD 28 hg3) rfl) (qn 12 (jE (S8 (S4 jD))) (jH rfl (yD 28 hg3) rfl) (qn 13 (jE (S8 (S4 (jA jD)))) (jH rfl (yD 28 hg3) rfl) (qn 14 (jE (S8 (S4 (jA (jA jD))))) (jH rfl (yD 28 hg3) rfl) (qn 15 (jE (S8 (S4 (jA (jA (jA jD)))))) (jH rfl (yD 28 hg3) rfl) (qn 16 (jE (S8 (S8 jD))) (jH rfl (yD 28 hg3) rfl) (qn 17 (jE (S8 (S8 (jA jD)))) (jH rfl (yD 28 hg3) rfl) (qn 18 (jE (S8 (S8 (jA (jA jD))))) (jH rfl (yD 28 hg3) rfl) (qn 19 (jE (S8 (S8 (jA (jA (jA jD)))))) (jH rfl (yD 28 hg3) rfl) (qn 20 (jE (S8 (S8 (S4 jD)))) (jH rfl (yD 28 hg3) rfl) (qr 21 (vb false) (jE (S8 (S8 (S4 (jA jD))))) (xF hg3) (qq 22 (vb false) (jE (S8 (S8 (S4 (jA (jA jD)))))) (qn 23 (jE (S8 (S8 (S4 (jA (jA (jA jD))))))) (jH rfl (yD (c:=false) 40 rfl) rfl) (qn 24 (jE (S8 (S8 (S8 jD)))) (jH rfl (yD (c:=false) 40 rfl) rfl) (qn 25 (jE (S8 (S8 (S8 (jA jD))))) (jH rfl (yD (c:=false) 40 rfl) rfl) (qn 26 (jE (S8 (S8 (S8 (jA (jA jD)))))) (jH rfl (yD (c:=false) 40 rfl) rfl) (qn 27 (jE (S8 (S8 (S8 (jA (jA (jA jD))))))) (jH rfl (yD (c:=false) 40 rfl) rfl) (qn 28 (jE (S8 (S8 (S8 (S4 jD))))) (jH rfl (yD (c:=false) 40 rfl) rfl) (qn 29 (jE (S8 (S8 (S8 (S4 (jA jD)))))) (jH rfl (yD (c:=false) 40 rfl) rfl) (qn 30 (jE (S8 (S8 (S8 (S4 (jA (jA jD))))))) (jH rfl (yD (c:=false) 40 rfl) rfl) (qn 31 (jE (S8 (S8 (S8 (S4 (jA (jA (jA jD)))))))) (jH rfl (yD (c:=false) 40 rfl) rfl) (qn 32 (jE (S8 (S8 (S8 (S8 jD))))) (jH rfl (yD (c:=false) 40 rfl) rfl) (qq 33 (vb false) (jE (S8 (S8 (S8 (S8 (jA jD)))))) (wn ?_)))))))))))))))))))))))
 refine jL ⟨false,Hl1,hm,hs,hb,h⟩
def m_A3 (r1:Option Addr) (not1:Int) (w0:World) (K:Int→WP):Prop :=Calls prog 159 #[(vp r1)] w0 (fun e w1=>∃r2 r3,e=.returned (.tuple #[(vu r2),(vi r3)])∧∃a1,r1=some a1∧∃v1,w1.cell? (a1.add 3)=some (vi v1)∧Br ((v1 == 0) && ((decide (r2≥16)) || (((q6.wrap r2):Int) == not1))) (Calls prog 66 #[(vp r1),(vi 50),(vi r3)] w1 (fun e w5=>e=.returned (.tuple #[])∧∃a2,r1=some a2∧∃v2,w5.cell? (a2.add 3)=some (vi v2)∧Br (v2 != 0) (K 0 w5) (K (q6.wrap r2) w5))) (∃a3,r1=some a3∧∃v3,w1.cell? (a3.add 3)=some (vi v3)∧Br (v3 != 0) (K 0 w1) (K (q6.wrap r2) w1)))
theorem w_A3 (r1 not1 w0 K) (h:m_A3 r1 not1 w0 K):
  Calls prog 158 #[(vp r1),(vi not1)] w0 (fun e w'=>∃r4,e=.returned (vi r4)∧K r4 w'):=by
 refine cw (args:=[(vp r1),(vi not1)]) func158 ntmps158 (eg (q0 (vi 0) (ln (eg (q0 (vp r1) ?_)))))
 refine sc call159 (h.mono fun e w1 ⟨r2,r3,k,h⟩=>⟨_,k,?_⟩)
 refine q (qd (ln (jB (eg (q (qm h fun a1 h=>q (ql (isAgg3 _) h fun v1 h=>qb (jM 9 (fun ρ wJ=>∃b2'0:Bool,((v1 == 0)=b2'0)∧w1=wJ∧Has ρ [(0,(vp r1)),(5,(vu r2)),(6,(vi r3)),(26,(vb (b2'0 && ((decide (r2≥16)) || (((q6.wrap r2):Int) == not1)))))]) ?_ ?_))))))))
 rintro ρ w3 ⟨b2'0,he0,hw,hH⟩
 subst he0
 subst hw
 refine jR hH (ln (cbr h ?_ ?_))<;>intro h
 refine rg (qb (sc call66 (h.mono fun e w5 ⟨k,h⟩=>⟨_,k,?_⟩)))
 refine ln (jB (eg (q (qm h fun a2 h=>q (ql (isAgg3 _) h fun v2 h=>q (ln (cbr h ?_ ?_)))))))<;>intro h
 refine eg (q (ln (er (zM (rs1 results158 ⟨0,rfl,h⟩)))))
 refine jF (jL (eg (qc (ln (er (rs1 results158 ⟨(q6.wrap r2),rfl,h⟩))))))
 refine jF (jL (jB (eg (q (qm h fun a3 h=>q (ql (isAgg3 _) h fun v3 h=>q (ln (cbr h ?_ ?_))))))))<;>intro h
 refine eg (q (ln (er (zM (rs1 results158 ⟨0,rfl,h⟩)))))
 refine jF (jL (eg (qc (ln (er (rs1 results158 ⟨(q6.wrap r2),rfl,h⟩))))))
 rcases bte (v1 == 0) with hg4 | hg4
 refine qk 17 hg4 (qk 17 hg4 (qk 17 hg4 (jM 5 (fun ρ wJ=>∃b3'0:Bool,((decide (r2≥16))=b3'0)∧w1=wJ∧Has ρ [(0,(vp r1)),(5,(vu r2)),(6,(vi r3)),(17,(vb (v1 == 0))),(25,(vb (b3'0 || (((q6.wrap r2):Int) == not1))))]) ?_ ?_)))
 rintro ρ w4 ⟨b3'0,he0,hw,hH⟩
 subst he0
 subst hw
 refine jR hH (q2 (vb ((decide (r2≥16)) || (((q6.wrap r2):Int) == not1))) (xT hg4) (jC ⟨true,hg4,rfl,hm⟩))
 rcases bte (decide (r2≥16)) with hg6 | hg6
 refine sj4 20 hg6 (stq (v:=(vb true)) (wy 17 hg4) (xT hg6) (jC ⟨true,hg6,rfl,hm⟩))
 refine qk 20 hg6 (qk 20 hg6 (qk 20 hg6 (qk 20 hg6 (stq (v:=(vb (((q6.wrap r2):Int) == not1))) (wy 17 hg4) (xF hg6) (jC ⟨false,hg6,rfl,hm⟩)))))
 refine sj3 17 hg4 (sm (sm (sm (sm (sj 17 hg4 (q2 (vb false) (xF hg4) (jC ⟨false,hg4,rfl,hm⟩)))))))
def s_N (c1:Int):Int :=(cond ((decide (c1≥48)) && (decide (c1≤57))) (q6.wrap (IntKind.u8.wrap (c1 - 48))) (cond ((decide (c1≥97)) && (decide (c1≤102))) (q6.wrap ((q6.wrap (IntKind.u8.wrap (c1 - 97)))+10)) (cond ((decide (c1≥65)) && (decide (c1≤70))) (q6.wrap ((q6.wrap (IntKind.u8.wrap (c1 - 65)))+10)) (-1))))
theorem pw_N (c1:Int) (w0:World) :
  Calls prog 239 #[(.int .u8 c1)] w0 (fun e w'=>∃b'0 b'1 b'2:Bool,(((decide (c1≥48)) && (decide (c1≤57)))=b'0∧((decide (c1≥97)) && (decide (c1≤102)))=b'1∧((decide (c1≥65)) && (decide (c1≤70)))=b'2)∧(e=.returned (vi (cond b'0 (q6.wrap (IntKind.u8.wrap (c1 - 48))) (cond b'1 (q6.wrap ((q6.wrap (IntKind.u8.wrap (c1 - 97)))+10)) (cond b'2 (q6.wrap ((q6.wrap (IntKind.u8.wrap (c1 - 65)))+10)) (-1))))))∧Pure w0 w'):=by
 refine cw (args:=[(.int .u8 c1)]) func239 ntmps239 (eg (q0 (vi 0) (ln (jB (jO (jB ?_))))))
 refine zH (fun ρ wJ=>w0=wJ∧Has ρ [(0,(.int .u8 c1)),(3,(vb ((decide (c1≥48)) && (decide (c1≤57)))))]) ?_ ?_
 refine rg (qc (jM 3 (fun ρ wJ=>∃b3'0:Bool,((decide (c1≥48))=b3'0)∧w0=wJ∧Has ρ [(0,(.int .u8 c1)),(9,(vb (b3'0 && (decide (c1≤57)))))]) ?_ ?_))
 rintro ρ w3 ⟨b3'0,he0,hw,hH⟩
 subst he0
 subst hw
 refine jR hH (q (ln ⟨rfl,hm⟩))
 rcases bte (decide (c1≥48)) with hg4 | hg4
 refine qk 6 hg4 (qk 6 hg4 (q2 (vb (decide (c1≤57))) (xT hg4) (jC ⟨true,hg4,rfl,hm⟩)))
 refine sj2 6 hg4 (q2 (vb false) (xF hg4) (jC ⟨false,hg4,rfl,hm⟩))
 rintro ρ w2 ⟨hw,hH⟩
 subst hw
 refine zA hH (jL (zO (t:=((decide (c1≥48)) && (decide (c1≤57)))) (by kernel_rfl) (fun hc1=>?_) (fun hc1=>?_)))
 refine eg (qd (ln (er (vR (zM (rs1 results239 (v:=(vi (q6.wrap (IntKind.u8.wrap (c1 - 48))))) ⟨true,_,_,⟨hc1,rfl,rfl⟩,by kernel_rfl,Ext.refl _⟩))))))
 refine jB (zH (fun ρ wJ=>w0=wJ∧Has ρ [(0,(.int .u8 c1)),(13,(vb ((decide (c1≥97)) && (decide (c1≤102)))))]) ?_ ?_)
 refine rg (qc (jM 3 (fun ρ wJ=>∃b6'0:Bool,((decide (c1≥97))=b6'0)∧w0=wJ∧Has ρ [(0,(.int .u8 c1)),(19,(vb (b6'0 && (decide (c1≤102)))))]) ?_ ?_))
 rintro ρ w6 ⟨b6'0,he0,hw,hH⟩
 subst he0
 subst hw
 refine jR hH (q (ln ⟨rfl,hm⟩))
 rcases bte (decide (c1≥97)) with hg8 | hg8
 refine qk 16 hg8 (qk 16 hg8 (q2 (vb (decide (c1≤102))) (xT hg8) (jC ⟨true,hg8,rfl,hm⟩)))
 refine sj2 16 hg8 (q2 (vb false) (xF hg8) (jC ⟨false,hg8,rfl,hm⟩))
 rintro ρ w5 ⟨hw,hH⟩
 subst hw
 refine zA hH (jL (zO (t:=((decide (c1≥97)) && (decide (c1≤102)))) (by kernel_rfl) (fun hc2=>?_) (fun hc2=>?_)))
 refine eg (q (qd (ln (er (vR (zM (rs1 results239 (v:=(vi (q6.wrap ((q6.wrap (IntKind.u8.wrap (c1 - 97)))+10)))) ⟨false,true,_,⟨hc1,hc2,rfl⟩,by kernel_rfl,Ext.refl _⟩)))))))
 refine jB (zH (fun ρ wJ=>w0=wJ∧Has ρ [(0,(.int .u8 c1)),(24,(vb ((decide (c1≥65)) && (decide (c1≤70)))))]) ?_ ?_)
 refine rg (qc (jM 3 (fun ρ wJ=>∃b9'0:Bool,((decide (c1≥65))=b9'0)∧w0=wJ∧Has ρ [(0,(.int .u8 c1)),(30,(vb (b9'0 && (decide (c1≤70)))))]) ?_ ?_))
 rintro ρ w9 ⟨b9'0,he0,hw,hH⟩
 subst he0
 subst hw
 refine jR hH (q (ln ⟨rfl,hm⟩))
 rcases bte (decide (c1≥65)) with hg12 | hg12
 refine qk 27 hg12 (qk 27 hg12 (q2 (vb (decide (c1≤70))) (xT hg12) (jC ⟨true,hg12,rfl,hm⟩)))
 refine sj2 27 hg12 (q2 (vb false) (xF hg12) (jC ⟨false,hg12,rfl,hm⟩))
 rintro ρ w8 ⟨hw,hH⟩
 subst hw
 refine zA hH (jL (zO (t:=((decide (c1≥65)) && (decide (c1≤70)))) (by kernel_rfl) (fun hc3=>?_) (fun hc3=>?_)))
 refine eg (q (qd (ln (er (vR (zM (rs1 results239 (v:=(vi (q6.wrap ((q6.wrap (IntKind.u8.wrap (c1 - 65)))+10)))) ⟨false,false,true,⟨hc1,hc2,hc3⟩,by kernel_rfl,Ext.refl _⟩)))))))
 refine jF (kW (jL (eg (q (ln (er (rs1 results239 (v:=(vi (-1))) ⟨false,false,false,⟨hc1,hc2,hc3⟩,by kernel_rfl,Ext.refl _⟩)))))))
theorem p_N (c1:Int) (w0:World):Calls prog 239 #[(.int .u8 c1)] w0 (fun e w'=>e=.returned (.int .i64 (s_N c1))∧Pure w0 w'):=by
 refine (pw_N c1 w0).mono ?_;rintro e w' ⟨b'0,b'1,b'2,⟨e0,e1,e2⟩,h,E⟩;subst e0;subst e1;subst e2;exact ⟨h,E⟩
def m_B3 (r1:Option Addr) (w0:World) (K:Int→WP):Prop :=∃a1,r1=some a1∧∃v1,w0.cell? (a1.add 3)=some (vi v1)∧Br (v1 != 0) (K 0 w0) (∃a2,r1=some a2∧∃v2,w0.cell? (a2.add 1)=some (vi v2)∧¬ None (a2.add 1).block∧∃a3,r1=some a3∧∃v3,w0.cell? a3=some (vs v3)∧¬ None a3.block∧Br (decide (v2<(v3.size:Int))) (∃a4,r1=some a4∧∃v4,w0.cell? a4=some (vs v4)∧¬ None a4.block∧∃a5,r1=some a5∧∃v5,w0.cell? (a5.add 1)=some (vi v5)∧¬ None (a5.add 1).block∧∃e1:Int,(∀(H':NP) (w':World),Hst w0 None w0 H' w'→(Instr.index 9 (vs v4) (vi v5)).run prog w'=.ok (.int .u8 e1) w')∧Br (decide ((s_N e1)≥0)) (∃a6,r1=some a6∧∀H1 w3,Hst w0 None w0 H1 w3→∃v6,w3.cell? (a6.add 1)=some (vi v6)∧∃a7,r1=some a7∧kG w3 (a7.add 1)∧¬ H1 (a7.add 1).block∧∀w5,w5=w3.setCell (a7.add 1) (vi (q6.wrap (v6+1)))→∃a8,r1=some a8∧∃v7,w5.cell? a8=some (vs v7)∧¬ H1 a8.block∧∃a9,r1=some a9∧∃v8,w5.cell? (a9.add 1)=some (vi v8)∧¬ H1 (a9.add 1).block∧∃e2:Int,(∀(H':NP) (w':World),Hst w0 H1 w5 H' w'→(Instr.index 9 (vs v7) (vi (q6.wrap (v8 - 1)))).run prog w'=.ok (.int .u8 e2) w')∧∀H2 w8,Hst w0 H1 w5 H2 w8→K (s_N e2) w8) (∀H1 w3,Hst w0 None w0 H1 w3→Calls prog 119 #[(vp r1)] w3 (fun e w10=>e=.returned (.tuple #[])∧Kept H1 w3 w10∧K 0 w10))) (∀H3 w11,Hst w0 None w0 H3 w11→Calls prog 119 #[(vp r1)] w11 (fun e w12=>e=.returned (.tuple #[])∧Kept H3 w11 w12∧K 0 w12)))
theorem w_B3 (r1 w0 K) (h:m_B3 r1 w0 K):
  Calls prog 210 #[(vp r1)] w0 (fun e w'=>∃r2,e=.returned (vi r2)∧K r2 w'):=by
 refine cw (args:=[(vp r1)]) func210 ntmps210 ?_
 obtain ⟨hs,hb⟩:=st0 w0
 refine eg (q (ln (jB (eg (q (qm h fun a1 h=>q (ql (isAgg3 _) h fun v1 h=>q (ln (cbr h ?_ ?_)))))))))<;>intro h
 refine eg (q (ln (er (zM (rs1 results210 ⟨0,rfl,h⟩)))))
 refine jF (jL (jB (jB (vX (fun x=>∃H',Hst w0 None w0 H' x∧HB H' x []) [20] [] (by kernel_rfl) (by kernel_rfl) (by kernel_rfl) (by kernel_rfl) ⟨_,hs.drew,hb.drew⟩ ?_))))
 intro w1 hw1
 have hs:Hst w0 None w0 None w1:=by rw [hw1];exact hs.drew
 have hb:HB None w1 []:=by rw [hw1];exact hb.drew
 refine qx 0 (vp r1) Kp0 (qg 1 ?_)
 obtain ⟨a2,hp2,h⟩:=h
 refine sy Kp1 (fun _ _=>xn hp2) (qx 2 (vp (some (a2.add 1))) Kp2 (qg 3 ?_))
 obtain ⟨v2,hv9,hnh,h⟩:=h
 refine sy (v:=(vi v2)) Kp3 (fun w' hw'=>by obtain ⟨H',hs',hb'⟩:=hw';exact (xl (isAgg3 _) (uH hv9 hnh hs'))) (qx 4 (vp r1) Kp4 (qg 5 ?_))
 obtain ⟨a3,hp3,h⟩:=h
 refine sy Kp5 (fun _ _=>xn hp3) (qx 6 (vp (some a3)) Kp6 (qg 7 ?_))
 obtain ⟨v3,hv8,hnh,h⟩:=h
 refine sy (v:=(vs v3)) Kp7 (fun w' hw'=>by obtain ⟨H',hs',hb'⟩:=hw';exact (xl (isAgg9 _) (uH hv8 hnh hs'))) (qx 8 (vi (v3.size:Int)) Kp8 (qx 9 (vb (decide (v2<(v3.size:Int)))) Kp9 (qx 10 (vb (decide (v2<(v3.size:Int)))) (jE (S8 (jA (jA jD)))) (qg 11 ?_))))
 obtain ⟨hg1,h⟩|⟨hg1,h⟩:=h.br
 refine sz (v:=(vp r1)) (jE (S8 (jA (jA (jA jD))))) (wy 18 hg1) (fun _ _=>(by kernel_rfl)) (qg 12 ?_)
 obtain ⟨a4,hp4,h⟩:=h
 refine sz (jE (S8 (S4 jD))) (wy 18 hg1) (fun _ _=>xn hp4) (qw 13 (vp (some a4)) (jE (S8 (S4 (jA jD)))) (wy 18 hg1) (qg 14 ?_))
 obtain ⟨v4,hv7,hnh,h⟩:=h
 refine sz (v:=(vs v4)) (jE (S8 (S4 (jA (jA jD))))) (wy 18 hg1) (fun w' hw'=>by obtain ⟨H',hs',hb'⟩:=hw';exact (xl (isAgg9 _) (uH hv7 hnh hs'))) (qw 15 (vp r1) (jE (S8 (S4 (jA (jA (jA jD)))))) (wy 18 hg1) (qg 16 ?_))
 obtain ⟨a5,hp5,h⟩:=h
 refine sz (jE (S8 (S8 jD))) (wy 18 hg1) (fun _ _=>xn hp5) (qw 17 (vp (some (a5.add 1))) (jE (S8 (S8 (jA jD)))) (wy 18 hg1) (qg 18 ?_))
 obtain ⟨v5,hv6,hnh,h⟩:=h
 refine sz (v:=(vi v5)) (jE (S8 (S8 (jA (jA jD))))) (wy 18 hg1) (fun w' hw'=>by obtain ⟨H',hs',hb'⟩:=hw';exact (xl (isAgg3 _) (uH hv6 hnh hs'))) (qg 19 ?_)
 obtain ⟨e1,hv5,h⟩:=h
 refine sz (v:=(.int .u8 e1)) (jE (S8 (S8 (jA (jA (jA jD)))))) (wy 18 hg1) (fun w' hw'=>by obtain ⟨H',hs',hb'⟩:=hw';exact (zZ (by kernel_rfl) (by kernel_rfl) (hv5 H' w' hs'))) (jDD (fun ρ wJ=>∃HJ:NP,Hst w0 None w0 HJ wJ∧HB HJ wJ []∧Has ρ [(0,(vp r1)),(30,(vb (decide ((s_N e1)≥0))))]) ?_ ?_)
 refine lg 20 (gQ (jE (S8 (S8 (S4 jD)))) (wy 18 hg1) (by kernel_rfl) (xc call239) ((p_N e1 w1).mono ?_))
 rintro e w4 ⟨he,hE⟩
 obtain ⟨hs,hb⟩:=hs.pp hb hE
 refine ⟨(vi (s_N e1)),he.trans (by kernel_rfl),.inr ⟨_,hs,hb⟩,?_⟩
 refine qw 21 (vb (decide ((s_N e1)≥0))) (jE (S8 (S8 (S4 (jA jD))))) (wy 18 hg1) (qz 22 (vb (decide ((s_N e1)≥0))) (jE (S8 (S8 (S4 (jA (jA jD)))))) (fun _ _=>(xT hg1)) (wn ⟨_,hs,hb,hm⟩))
 rintro ρ w3 ⟨H1,hs,hb,hH⟩
 refine jLS hH (jL (cbr h ?_ ?_))<;>intro h
 refine eg (q (qm h fun a6 h=>q ?_))
 have ⟨h,hs⟩:=hs.hr (h H1 w3)
 refine ql (isAgg3 _) h fun v6 h=>q (qm h fun a7 h=>q (st2 (sizeOf3 _) hs hb h fun w5 hs hb h=>ln (jB (vX (fun x=>∃H',Hst w0 H1 w5 H' x∧HB H' x []) [10] [] (by kernel_rfl) (by kernel_rfl) (by kernel_rfl) (by kernel_rfl) ⟨_,hs.drew,hb.drew⟩ ?_))))
 intro w6 hw6
 have hs:Hst w0 H1 w5 H1 w6:=by rw [hw6];exact hs.drew
 have hb:HB H1 w6 []:=by rw [hw6];exact hb.drew
 refine qx 0 (vp r1) Kp0 (qg 1 ?_)
 obtain ⟨a8,hp9,h⟩:=h
 refine sy Kp1 (fun _ _=>xn hp9) (qx 2 (vp (some a8)) Kp2 (qg 3 ?_))
 obtain ⟨v7,hv3,hnh,h⟩:=h
 refine sy (v:=(vs v7)) Kp3 (fun w' hw'=>by obtain ⟨H',hs',hb'⟩:=hw';exact (xl (isAgg9 _) (uH hv3 hnh hs'))) (qx 4 (vp r1) Kp4 (qg 5 ?_))
 obtain ⟨a9,hp10,h⟩:=h
 refine sy Kp5 (fun _ _=>xn hp10) (qx 6 (vp (some (a9.add 1))) Kp6 (qg 7 ?_))
 obtain ⟨v8,hv2,hnh,h⟩:=h
 refine sy (v:=(vi v8)) Kp7 (fun w' hw'=>by obtain ⟨H',hs',hb'⟩:=hw';exact (xl (isAgg3 _) (uH hv2 hnh hs'))) (qx 8 (vi (q6.wrap (v8 - 1))) Kp8 (qg 9 ?_))
 obtain ⟨e2,hv1,h⟩:=h
 refine sy (v:=(.int .u8 e2)) Kp9 (fun w' hw'=>by obtain ⟨H',hs',hb'⟩:=hw';exact (zZ (by kernel_rfl) (by kernel_rfl) (hv1 H' w' hs'))) (jDD (fun ρ wJ=>∃HJ:NP,Hst w0 H1 w5 HJ wJ∧HB HJ wJ []∧Has ρ [(2,(vi (s_N e2)))]) ?_ ?_)
 refine lg 10 (slc (jE (S8 (jA (jA jD)))) call239 ((p_N e2 w6).mono ?_))
 rintro e w9 ⟨he,hE⟩
 obtain ⟨hs,hb⟩:=hs.pp hb hE
 refine ⟨(vi (s_N e2)),he.trans (by kernel_rfl),.inr ⟨_,hs,hb⟩,?_⟩
 refine qx 11 (vi (s_N e2)) (jE (S8 (jA (jA (jA jD))))) (wn ⟨_,hs,hb,hm⟩)
 rintro ρ w8 ⟨H2,hs,hb,hH⟩
 refine jLS hH (jL (er (zM ?_)))
 have ⟨h,hs⟩:=hs.hr (h H2 w8)
 refine rs1 results210 ⟨(s_N e2),rfl,h⟩
 refine jF (jL (eg (q ?_)))
 have ⟨h,hs⟩:=hs.hr (h H1 w3)
 refine sc call119 (h.mono fun e w10 ⟨k,hk,h⟩=>have ⟨hs,hb⟩:=hk.hh hs hb;⟨_,k,?_⟩)
 refine ln (eg (q (ln (er (rs1 results210 ⟨0,rfl,h⟩)))))
 refine kM (jE (S8 (jA (jA (jA jD))))) (jH rfl (yD 18 hg1) rfl) (qn 12 (jE (S8 (S4 jD))) (jH rfl (yD 18 hg1) rfl) (qn 13 (jE (S8 (S4 (jA jD)))) (jH rfl (yD 18 hg1) rfl) (qn 14 (jE (S8 (S4 (jA (jA jD))))) (jH rfl (yD 18 hg1) rfl) (qn 15 (jE (S8 (S4 (jA (jA (jA jD)))))) (jH rfl (yD 18 hg1) rfl) (qn 16 (jE (S8 (S8 jD))) (jH rfl (yD 18 hg1) rfl) (qn 17 (jE (S8 (S8 (jA jD)))) (jH rfl (yD 18 hg1) rfl) (qn 18 (jE (S8 (S8 (jA (jA jD))))) (jH rfl (yD 18 hg1) rfl) (qn 19 (jE (S8 (S8 (jA (jA (jA jD)))))) (jH rfl (yD 18 hg1) rfl) (jDD (fun ρ wJ=>∃HJ:NP,Hst w0 None w0 HJ wJ∧HB HJ wJ []∧Has ρ [(0,(vp r1)),(30,(vb false))]) ?_ ?_)))))))))
 refine lg 20 (kM (jE (S8 (S8 (S4 jD)))) (jH rfl (yD 18 hg1) rfl) (qn 21 (jE (S8 (S8 (S4 (jA jD))))) (jH rfl (yD 18 hg1) rfl) (qz 22 (vb false) (jE (S8 (S8 (S4 (jA (jA jD)))))) (fun _ _=>(xF hg1)) (wn ⟨_,hs,hb,hm⟩))))
 rintro ρ w11 ⟨H3,hs,hb,hH⟩
 refine jLS hH (jL (kF (by kernel_rfl) (jF (jL (eg (q0 (vp r1) ?_))))))
 have ⟨h,hs⟩:=hs.hr (h H3 w11)
 refine sc call119 (h.mono fun e w12 ⟨k,hk,h⟩=>have ⟨hs,hb⟩:=hk.hh hs hb;⟨_,k,?_⟩)
 refine ln (eg (q (ln (er (rs1 results210 ⟨0,rfl,h⟩)))))
def m_I_j3 (r1:Option Addr) (b1:Sl) (c3:Int) (w0:World) (H:NP) (w:World) (Kc1:Sl→NP→WP) (_K:ByteArray→WP):Prop :=Br (cond (c3 == 34) (c3 == 34) (c3 == 92)) (∃a9,r1=some a9∧∀H1 w6,Hst w0 H w H1 w6→∃v8,w6.cell? (a9.add 1)=some (vi v8)∧∃a10,r1=some a10∧kG w6 (a10.add 1)∧¬ H1 (a10.add 1).block∧∀w7,w7=w6.setCell (a10.add 1) (vi (q6.wrap (v8+1)))→∀p1 w8,New w7 (.cells #[(.int .u8 c3)] 5) p1 w8→∃s1:Sl,∃w9:World,(Builtin.append_ #[54,54] 54 #[b1.v,(Sl.mk (some p1) 1 1).v]).run prog w8=.ok s1.v w9∧Kept H1 w8 w9∧Kc1 s1 H1 w9) (Br (c3 == 120) (∃a11,r1=some a11∧∀H1 w6,Hst w0 H w H1 w6→∃v9,w6.cell? (a11.add 1)=some (vi v9)∧∃a12,r1=some a12∧kG w6 (a12.add 1)∧¬ H1 (a12.add 1).block∧∀w10,w10=w6.setCell (a12.add 1) (vi (q6.wrap (v9+1)))→Calls prog 210 #[(vp r1)] w10 (fun e w11=>∃r2,e=.returned (vi r2)∧Kept H1 w10 w11∧Calls prog 210 #[(vp r1)] w11 (fun e w12=>∃r3,e=.returned (vi r3)∧Kept H1 w11 w12∧∀p2 w13,New w12 (.cells #[(.int .u8 (IntKind.u8.wrap (q6.wrap ((q6.wrap (16*r2))+r3))))] 5) p2 w13→∃s2:Sl,∃w14:World,(Builtin.append_ #[54,54] 54 #[b1.v,(Sl.mk (some p2) 1 1).v]).run prog w13=.ok s2.v w14∧Kept H1 w13 w14∧Kc1 s2 H1 w14))) (∀H1 w6,Hst w0 H w H1 w6→Calls prog 119 #[(vp r1)] w6 (fun e w15=>e=.returned (.tuple #[])∧Kept H1 w6 w15∧∀p3 w16,New w15 (.cells #[(.int .u8 c3)] 5) p3 w16→∃s3:Sl,∃w17:World,(Builtin.append_ #[54,54] 54 #[b1.v,(Sl.mk (some p3) 1 1).v]).run prog w16=.ok s3.v w17∧Kept H1 w16 w17∧Kc1 s3 H1 w17)))
def m_I_j2 (r1:Option Addr) (v1:Int) (b1:Sl) (x1:Bool) (w0:World) (H:NP) (w:World) (Kc1:Sl→NP→WP) (K:ByteArray→WP):Prop :=Br x1 (Calls prog 119 #[(vp r1)] w (fun e w1=>e=.returned (.tuple #[])∧Kept H w w1∧K ⟨#[]⟩ w1)) (∃a3,r1=some a3∧∀w2,Hst w0 H w H w2→∃v3,w2.cell? a3=some (vs v3)∧∃a4,r1=some a4∧∃v4,w2.cell? (a4.add 1)=some (vi v4)∧∃e1:Int,(Instr.index 9 (vs v3) (vi v4)).run prog w2=.ok (.int .u8 e1) w2∧∃a5,r1=some a5∧∃v5,w2.cell? (a5.add 1)=some (vi v5)∧∃a6,r1=some a6∧kG w2 (a6.add 1)∧¬ H (a6.add 1).block∧∀w3,w3=w2.setCell (a6.add 1) (vi (q6.wrap (v5+1)))→Br (e1 == 34) (Br (decide ((b1.len:Int)>64)) (Calls prog 66 #[(vp r1),(vi 1),(vi (q6.wrap (v1 - 1)))] w3 (fun e w4=>e=.returned (.tuple #[])∧Kept H w3 w4∧∃c1,(convert 54 9 b1.v).run prog w4=.ok (vs c1) w4∧K c1 w4)) (∃c2,(convert 54 9 b1.v).run prog w3=.ok (vs c2) w3∧K c2 w3)) (Br (e1 == 92) (∃a7,r1=some a7∧∀w5,Hst w0 H w3 H w5→∃v6,w5.cell? (a7.add 1)=some (vi v6)∧∃a8,r1=some a8∧∃v7,w5.cell? a8=some (vs v7)∧Br (decide (v6<(v7.size:Int))) (∃a13,r1=some a13∧∀w18,Hst w0 H w5 H w18→∃v10,w18.cell? a13=some (vs v10)∧∃a14,r1=some a14∧∃v11,w18.cell? (a14.add 1)=some (vi v11)∧∃e2:Int,(Instr.index 9 (vs v10) (vi v11)).run prog w18=.ok (.int .u8 e2) w18∧m_I_j3 r1 b1 e2 w0 H w18 Kc1 K) (m_I_j3 r1 b1 0 w0 H w5 Kc1 K)) (∀p4 w19,New w3 (.cells #[(.int .u8 e1)] 5) p4 w19→∃s4:Sl,∃w20:World,(Builtin.append_ #[54,54] 54 #[b1.v,(Sl.mk (some p4) 1 1).v]).run prog w19=.ok s4.v w20∧Kept H w19 w20∧Kc1 s4 H w20)))
def m_I_l1 (r1:Option Addr) (v1:Int) (b1:Sl) (w0:World) (Hl1:NP) (wl1:World) (Kc1:Sl→NP→WP) (K:ByteArray→WP):Prop :=∃a2,r1=some a2∧∃v2,wl1.cell? (a2.add 3)=some (vi v2)∧Br (v2 == 0) (∃a15,r1=some a15∧∀w21,Hst w0 Hl1 wl1 Hl1 w21→∃v12,w21.cell? (a15.add 1)=some (vi v12)∧∃a16,r1=some a16∧∃v13,w21.cell? a16=some (vs v13)∧Br (decide (v12≥(v13.size:Int))) (m_I_j2 r1 v1 b1 true w0 Hl1 w21 Kc1 K) (∃a17,r1=some a17∧∃v14,w21.cell? a17=some (vs v14)∧∃a18,r1=some a18∧∃v15,w21.cell? (a18.add 1)=some (vi v15)∧∃e3:Int,(Instr.index 9 (vs v14) (vi v15)).run prog w21=.ok (.int .u8 e3) w21∧Br (decide (e3<32)) (m_I_j2 r1 v1 b1 true w0 Hl1 w21 Kc1 K) (∃a19,r1=some a19∧∃v16,w21.cell? a19=some (vs v16)∧∃a20,r1=some a20∧∃v17,w21.cell? (a20.add 1)=some (vi v17)∧∃e4:Int,(Instr.index 9 (vs v16) (vi v17)).run prog w21=.ok (.int .u8 e4) w21∧m_I_j2 r1 v1 b1 (decide (e4>126)) w0 Hl1 w21 Kc1 K))) (Br (decide ((b1.len:Int)>64)) (Calls prog 66 #[(vp r1),(vi 1),(vi (q6.wrap (v1 - 1)))] wl1 (fun e w22=>e=.returned (.tuple #[])∧Kept Hl1 wl1 w22∧∃c4,(convert 54 9 b1.v).run prog w22=.ok (vs c4) w22∧K c4 w22)) (∃c5,(convert 54 9 b1.v).run prog wl1=.ok (vs c5) wl1∧K c5 wl1))
def m_I (r1:Option Addr) (w0:World) (K:ByteArray→WP):Prop :=∃a1,r1=some a1∧∃v1,w0.cell? (a1.add 1)=some (vi v1)∧∃(I1:Sl→NP→WP) (mu1:Sl→World→Nat),I1 Sl.nil None w0∧∀(b1:Sl) (Hl1:NP) (wl1:World),Hst w0 Hl1 wl1 Hl1 wl1→I1 b1 Hl1 wl1→m_I_l1 r1 v1 b1 w0 Hl1 wl1 (fun y'0 H' w'=>I1 y'0 H' w'∧mu1 y'0 w'<mu1 b1 wl1) K
theorem w_I (r1 w0 K) (h:m_I r1 w0 K):
  Calls prog 160 #[(vp r1)] w0 (fun e w'=>∃r4,e=.returned (vs r4)∧K r4 w'):=by
 refine cw (args:=[(vp r1)]) func160 ntmps160 ?_
 obtain ⟨hs,hb⟩:=st0 w0
 refine eg (q (ln (eg (q (qm h fun a1 h=>q (ql (isAgg3 _) h fun v1 h=>qb (ln (eg (q (ln (jB (jO ?_))))))))))))
 obtain ⟨I1,mu1,h0,hr⟩:=h
 refine zU (σ:=Sl×NP×World) (fun s ρ w=>w=s.2.2∧Has ρ [(0,(vp r1)),(3,(vi (q6.wrap (v1 - 1)))),(4,s.1.v)]∧Hst w0 s.2.1 w s.2.1 w∧HB s.2.1 w []∧I1 s.1 s.2.1 s.2.2) (fun s=>mu1 s.1 s.2.2) (Sl.nil,None,w0) ⟨rfl,hm,hs,hb,h0⟩ ?_
 rintro ⟨b1,Hl1,wl1⟩ ρ w ⟨hw,hH,hs,hb,hI⟩
 dsimp only at hw hH hs hb;subst w
 have h:=hr b1 Hl1 wl1 hs hI
 refine jY hH (jB (eg (q (qm h fun a2 h=>q (ql (isAgg3 _) h fun v2 h=>q (ln (cbr h ?_ ?_)))))))<;>intro h
 refine jF (jL (jO (jB (jB (zD (fun ρ w=>∃x1,∃H:NP,Has ρ [(0,(vp r1)),(3,(vi (q6.wrap (v1 - 1)))),(4,b1.v),(51,(vb x1))]∧Hst w0 H w H w∧HB H w []∧m_I_j2 r1 v1 b1 x1 w0 H w (fun y'0 H' w'=>I1 y'0 H' w'∧mu1 y'0 w'<mu1 b1 wl1) K) ?_ ?_)))))
 rintro ρ w ⟨x1,H,hH,hs,hb,h⟩
 refine jY hH (cbr h ?_ ?_)<;>intro h
 refine eg (q (sc call119 (h.mono fun e w1 ⟨k,hk,h⟩=>have ⟨hs,hb⟩:=hk.hh hs hb;⟨_,k,?_⟩)))
 refine ln (eg (q (ln (er (zM (vR (zM (vR (zM (rs1 results160 ⟨⟨#[]⟩,rfl,h⟩))))))))))
 refine jF (jL (jB (zJ (by kernel_rfl) (by kernel_rfl) (by kernel_rfl) (by kernel_rfl) ?_)))
 intro w2 hw2
 have hs:Hst w0 H w H w2:=by rw [hw2];exact hs.drew
 have hb:HB H w2 []:=by rw [hw2];exact hb.drew
 refine qq 0 (vp r1) Kp0 (qg 1 ?_)
 obtain ⟨a3,hp3,h⟩:=h
 refine sxQ Kp1 (jG rfl) rfl (xn hp3) (qq 2 (vp (some a3)) Kp2 (qg 3 ?_))
 have ⟨h,hs⟩:=hs.hr (h w2)
 obtain ⟨v3,hv17,h⟩:=h
 refine sxQ Kp3 (jG rfl) rfl (xl (isAgg9 _) hv17) (qq 4 (vp r1) Kp4 (qg 5 ?_))
 obtain ⟨a4,hp4,h⟩:=h
 refine sxQ Kp5 (jG rfl) rfl (xn hp4) (qq 6 (vp (some (a4.add 1))) Kp6 (qg 7 ?_))
 obtain ⟨v4,hv16,h⟩:=h
 refine sxQ Kp7 (jG rfl) rfl (xl (isAgg3 _) hv16) (qg 8 ?_)
 obtain ⟨e1,hv15,h⟩:=h
 refine sxQ (v:=(.int .u8 e1)) Kp8 (jG rfl) rfl (zZ (by kernel_rfl) (by kernel_rfl) hv15) (qq 9 (.int .u8 e1) Kp9 (wn (jL (eg (q (qm h fun a5 h=>q (ql (isAgg3 _) h fun v5 h=>q (qm h fun a6 h=>q (st2 (sizeOf3 _) hs hb h fun w3 hs hb h=>ln (jB (eg (qb (ln (cbr h ?_ ?_))))))))))))))<;>intro h
 refine zI (vM (bl_ne rfl (vM (vI (jL (jB (eg (q0 b1.v (q0 (vi (b1.len:Int)) (q0 (vb (decide ((b1.len:Int)>64))) (ln (cbr h ?_ ?_))))))))))))<;>intro h
 refine rg (qb (sc call66 (h.mono fun e w4 ⟨k,hk,h⟩=>have ⟨hs,hb⟩:=hk.hh hs hb;⟨_,k,?_⟩)))
 refine ln (eg (q ?_))
 obtain ⟨c1,hv1,h⟩:=h
 refine q2 (vs c1) (vF (by kernel_rfl) hv1) (q (ln (er (rs1 results160 ⟨c1,rfl,h⟩))))
 refine jF (jL (eg (q ?_)))
 obtain ⟨c2,hv2,h⟩:=h
 refine q2 (vs c2) (vF (by kernel_rfl) hv2) (q (ln (er (rs1 results160 ⟨c2,rfl,h⟩))))
 refine jF (jL (jB (eg (qb (ln (cbr h ?_ ?_))))))<;>intro h
 refine eg (q (ln (jB (jB (zJ (by kernel_rfl) (by kernel_rfl) (by kernel_rfl) (by kernel_rfl) ?_)))))
 intro w5 hw5
 have hs:Hst w0 H w3 H w5:=by rw [hw5];exact hs.drew
 have hb:HB H w5 []:=by rw [hw5];exact hb.drew
 refine qq 0 (vp r1) Kp0 (qg 1 ?_)
 obtain ⟨a7,hp8,h⟩:=h
 refine sxQ Kp1 (jG rfl) rfl (xn hp8) (qq 2 (vp (some (a7.add 1))) Kp2 (qg 3 ?_))
 have ⟨h,hs⟩:=hs.hr (h w5)
 obtain ⟨v6,hv12,h⟩:=h
 refine sxQ Kp3 (jG rfl) rfl (xl (isAgg3 _) hv12) (qq 4 (vp r1) Kp4 (qg 5 ?_))
 obtain ⟨a8,hp9,h⟩:=h
 refine sxQ Kp5 (jG rfl) rfl (xn hp9) (qq 6 (vp (some a8)) Kp6 (qg 7 ?_))
 obtain ⟨v7,hv11,h⟩:=h
 refine sxQ Kp7 (jG rfl) rfl (xl (isAgg9 _) hv11) (qq 8 (vi (v7.size:Int)) Kp8 (qq 9 (vb (decide (v6<(v7.size:Int)))) Kp9 (wn (jL (zD (fun ρ w=>∃c3:Int,∃H:NP,Has ρ [(0,(vp r1)),(3,(vi (q6.wrap (v1 - 1)))),(4,b1.v),(5,(.int .u8 c3))]∧Hst w0 H w H w∧HB H w []∧m_I_j3 r1 b1 c3 w0 H w (fun y'0 H' w'=>I1 y'0 H' w'∧mu1 y'0 w'<mu1 b1 wl1) K) ?_ ?_)))))
 rintro ρ w ⟨c3,H,hH,hs,hb,h⟩
 refine jY hH (eg (q (ln (jO (jB (eg (qb (jC (jL (zH (fun ρ wJ=>∃b2'0:Bool,∃HJ:NP,((c3 == 34)=b2'0)∧Hst w0 H w HJ wJ∧HB HJ wJ []∧Has ρ [(0,(vp r1)),(3,(vi (q6.wrap (v1 - 1)))),(4,b1.v),(5,(.int .u8 c3)),(93,(.int .u8 c3)),(96,(vb (cond b2'0 (c3 == 34) (c3 == 92))))]) ?_ ?_))))))))))
 refine zO (t:=(c3 == 34)) (by kernel_rfl) (fun hc7=>?_) (fun hc7=>?_)
 refine jF (jL ⟨true,_,hc7,hs,hb,hm⟩)
 refine rg (qb (ln ⟨false,_,hc7,hs,hb,hm⟩))
 rintro ρ w6 ⟨b2'0,H1,he0,hs,hb,hH⟩
 subst he0
 refine zA hH (jL (cbr h ?_ ?_))<;>intro h
 refine rg (q (qm h fun a9 h=>q ?_))
 have ⟨h,hs⟩:=hs.hr (h H1 w6)
 refine ql (isAgg3 _) h fun v8 h=>q (qm h fun a10 h=>q (st2 (sizeOf3 _) hs hb h fun w7 hs hb h=>jC (kW (jL (rg (qb (nw5 (fun p=>(Sl.mk (some p) 1 1).v) hs hb h fun p1 w8 hs hb h=>?_)))))))
 obtain ⟨s1,w9,hv3,hk,h⟩:=h
 refine st (v:=s1.v) (jG rfl) (jI (args:=#[b1.v,(Sl.mk (some p1) 1 1).v]) (by kernel_rfl) (fun _=>rfl) hv3) ?_
 obtain ⟨hs,hb⟩:=hk.hh hs hb
 refine q (jC (kW (jL ⟨(s1,H1,w9),⟨rfl,hm,hs,hb,h.1⟩,h.2⟩)))
 refine eg (qb (ln (cbr h ?_ ?_)))<;>intro h
 refine eg (q (qm h fun a11 h=>q ?_))
 have ⟨h,hs⟩:=hs.hr (h H1 w6)
 refine ql (isAgg3 _) h fun v9 h=>q (qm h fun a12 h=>q (st2 (sizeOf3 _) hs hb h fun w10 hs hb h=>ln (eg (q (sc call210 (h.mono fun e w11 ⟨r2,k,hk,h⟩=>have ⟨hs,hb⟩:=hk.hh hs hb;⟨_,k,?_⟩))))))
 refine q (ln (eg (q (sc call210 (h.mono fun e w12 ⟨r3,k,hk,h⟩=>have ⟨hs,hb⟩:=hk.hh hs hb;⟨_,k,?_⟩)))))
 refine q (ln (rg (qb (qd (jC (kW (jL (rg (qb (nw5 (fun p=>(Sl.mk (some p) 1 1).v) hs hb h fun p2 w13 hs hb h=>?_))))))))))
 obtain ⟨s2,w14,hv5,hk,h⟩:=h
 refine st (v:=s2.v) (jG rfl) (jI (args:=#[b1.v,(Sl.mk (some p2) 1 1).v]) (by kernel_rfl) (fun _=>rfl) hv5) ?_
 obtain ⟨hs,hb⟩:=hk.hh hs hb
 refine q (jC (kW (jL ⟨(s2,H1,w14),⟨rfl,hm,hs,hb,h.1⟩,h.2⟩)))
 refine rg (q ?_)
 have ⟨h,hs⟩:=hs.hr (h H1 w6)
 refine sc call119 (h.mono fun e w15 ⟨k,hk,h⟩=>have ⟨hs,hb⟩:=hk.hh hs hb;⟨_,k,?_⟩)
 refine jC (kW (jL (rg (qb (nw5 (fun p=>(Sl.mk (some p) 1 1).v) hs hb h fun p3 w16 hs hb h=>?_)))))
 obtain ⟨s3,w17,hv7,hk,h⟩:=h
 refine st (v:=s3.v) (jG rfl) (jI (args:=#[b1.v,(Sl.mk (some p3) 1 1).v]) (by kernel_rfl) (fun _=>rfl) hv7) ?_
 obtain ⟨hs,hb⟩:=hk.hh hs hb
 refine q (jC (kW (jL ⟨(s3,H1,w17),⟨rfl,hm,hs,hb,h.1⟩,h.2⟩)))
 refine cbr h ?_ ?_<;>intro h
 refine zJ (by kernel_rfl) (by kernel_rfl) (by kernel_rfl) (by kernel_rfl) ?_
 intro w18 hw18
 have hs:Hst w0 H w5 H w18:=by rw [hw18];exact hs.drew
 have hb:HB H w18 []:=by rw [hw18];exact hb.drew
 refine qq 0 (vp r1) Kp0 (qg 1 ?_)
 obtain ⟨a13,hp16,h⟩:=h
 refine sxQ Kp1 (jG rfl) rfl (xn hp16) (qq 2 (vp (some a13)) Kp2 (qg 3 ?_))
 have ⟨h,hs⟩:=hs.hr (h w18)
 obtain ⟨v10,hv10,h⟩:=h
 refine sxQ Kp3 (jG rfl) rfl (xl (isAgg9 _) hv10) (qq 4 (vp r1) Kp4 (qg 5 ?_))
 obtain ⟨a14,hp17,h⟩:=h
 refine sxQ Kp5 (jG rfl) rfl (xn hp17) (qq 6 (vp (some (a14.add 1))) Kp6 (qg 7 ?_))
 obtain ⟨v11,hv9,h⟩:=h
 refine sxQ Kp7 (jG rfl) rfl (xl (isAgg3 _) hv9) (qg 8 ?_)
 obtain ⟨e2,hv8,h⟩:=h
 refine sxQ (v:=(.int .u8 e2)) Kp8 (jG rfl) rfl (zZ (by kernel_rfl) (by kernel_rfl) hv8) (qq 9 (.int .u8 e2) Kp9 (wn (jL ⟨e2,H,hm,hs,hb,h⟩)))
 refine jF (jL ⟨0,H,hm,hs,hb,h⟩)
 refine jF (jL (rg (qb (nw5 (fun p=>(Sl.mk (some p) 1 1).v) hs hb h fun p4 w19 hs hb h=>?_))))
 obtain ⟨s4,w20,hv13,hk,h⟩:=h
 refine st (v:=s4.v) (jG rfl) (jI (args:=#[b1.v,(Sl.mk (some p4) 1 1).v]) (by kernel_rfl) (fun _=>rfl) hv13) ?_
 obtain ⟨hs,hb⟩:=hk.hh hs hb
 refine q (jC (kW (jL ⟨(s4,H,w20),⟨rfl,hm,hs,hb,h.1⟩,h.2⟩)))
 refine zJ (by kernel_rfl) (by kernel_rfl) (by kernel_rfl) (by kernel_rfl) ?_
 intro w21 hw21
 have hs:Hst w0 Hl1 wl1 Hl1 w21:=by rw [hw21];exact hs.drew
 have hb:HB Hl1 w21 []:=by rw [hw21];exact hb.drew
 refine qq 0 (vp r1) Kp0 (qg 1 ?_)
 obtain ⟨a15,hp18,h⟩:=h
 refine sxQ Kp1 (jG rfl) rfl (xn hp18) (qq 2 (vp (some (a15.add 1))) Kp2 (qg 3 ?_))
 have ⟨h,hs⟩:=hs.hr (h w21)
 obtain ⟨v12,hv25,h⟩:=h
 refine sxQ Kp3 (jG rfl) rfl (xl (isAgg3 _) hv25) (qq 4 (vp r1) Kp4 (qg 5 ?_))
 obtain ⟨a16,hp19,h⟩:=h
 refine sxQ Kp5 (jG rfl) rfl (xn hp19) (qq 6 (vp (some a16)) Kp6 (qg 7 ?_))
 obtain ⟨v13,hv24,h⟩:=h
 refine sxQ Kp7 (jG rfl) rfl (xl (isAgg9 _) hv24) (qq 8 (vi (v13.size:Int)) Kp8 (qq 9 (vb (decide (v12≥(v13.size:Int)))) Kp9 (qq 10 (vb (decide (v12≥(v13.size:Int)))) (jE (S8 (jA (jA jD)))) (qg 11 ?_))))
 obtain ⟨hg1,h⟩|⟨hg1,h⟩:=h.br
 refine kM (jE (S8 (jA (jA (jA jD))))) (jH rfl (yD 28 hg1) rfl) (qn 12 (jE (S8 (S4 jD))) (jH rfl (yD 28 hg1) rfl) (qn 13 (jE (S8 (S4 (jA jD)))) (jH rfl (yD 28 hg1) rfl) (qn 14 (jE (S8 (S4 (jA (jA jD))))) (jH rfl (yD 28 hg1) rfl) (qn 15 (jE (S8 (S4 (jA (jA (jA jD)))))) (jH rfl (yD 28 hg1) rfl) (qn 16 (jE (S8 (S8 jD))) (jH rfl (yD 28 hg1) rfl) (qn 17 (jE (S8 (S8 (jA jD)))) (jH rfl (yD 28 hg1) rfl) (qn 18 (jE (S8 (S8 (jA (jA jD))))) (jH rfl (yD 28 hg1) rfl) (qn 19 (jE (S8 (S8 (jA (jA (jA jD)))))) (jH rfl (yD 28 hg1) rfl) (qn 20 (jE (S8 (S8 (S4 jD)))) (jH rfl (yD 28 hg1) rfl) (qr 21 (vb true) (jE (S8 (S8 (S4 (jA jD))))) (xT hg1) (qq 22 (vb true) (jE (S8 (S8 (S4 (jA (jA jD)))))) (qn 23 (jE (S8 (S8 (S4 (jA (jA (jA jD))))))) (jH rfl (yD (c:=true) 40 rfl) rfl) (qn 24 (jE (S8 (S8 (S8 jD)))) (jH rfl (yD (c:=true) 40 rfl) rfl) (qn 25 (jE (S8 (S8 (S8 (jA jD))))) (jH rfl (yD (c:=true) 40 rfl) rfl) (qn 26 (jE (S8 (S8 (S8 (jA (jA jD)))))) (jH rfl (yD (c:=true) 40 rfl) rfl) (qn 27 (jE (S8 (S8 (S8 (jA (jA (jA jD))))))) (jH rfl (yD (c:=true) 40 rfl) rfl) (qn 28 (jE (S8 (S8 (S8 (S4 jD))))) (jH rfl (yD (c:=true) 40 rfl) rfl) (qn 29 (jE (S8 (S8 (S8 (S4 (jA jD)))))) (jH rfl (yD (c:=true) 40 rfl) rfl) (qn 30 (jE (S8 (S8 (S8 (S4 (jA (jA jD))))))) (jH rfl (yD (c:=true) 40 rfl) rfl) (qn 31 (jE (S8 (S8 (S8 (S4 (jA (jA (jA jD)))))))) (jH rfl (yD (c:=true) 40 rfl) rfl) (qn 32 (jE (S8 (S8 (S8 (S8 jD))))) (jH rfl (yD (c:=true) 40 rfl) rfl) (qq 33 (vb true) (jE (S8 (S8 (S8 (S8 (jA jD)))))) (wn ?_)))))))))))))))))))))))
 refine jL ⟨true,Hl1,hm,hs,hb,h⟩
 refine sxQ (v:=(vp r1)) (jE (S8 (jA (jA (jA jD))))) (wy 28 hg1) rfl (by kernel_rfl) (qg 12 ?_)
 obtain ⟨a17,hp20,h⟩:=h
 refine sxQ (jE (S8 (S4 jD))) (wy 28 hg1) rfl (xn hp20) (qg 13 (sxQ (v:=(vp (some a17))) (jE (S8 (S4 (jA jD)))) (wy 28 hg1) rfl (by kernel_rfl) (qg 14 ?_)))
 obtain ⟨v14,hv23,h⟩:=h
 refine sxQ (jE (S8 (S4 (jA (jA jD))))) (wy 28 hg1) rfl (xl (isAgg9 _) hv23) (qg 15 (sxQ (v:=(vp r1)) (jE (S8 (S4 (jA (jA (jA jD)))))) (wy 28 hg1) rfl (by kernel_rfl) (qg 16 ?_)))
 obtain ⟨a18,hp21,h⟩:=h
 refine sxQ (jE (S8 (S8 jD))) (wy 28 hg1) rfl (xn hp21) (qg 17 (sxQ (v:=(vp (some (a18.add 1)))) (jE (S8 (S8 (jA jD)))) (wy 28 hg1) rfl (by kernel_rfl) (qg 18 ?_)))
 obtain ⟨v15,hv22,h⟩:=h
 refine sxQ (jE (S8 (S8 (jA (jA jD))))) (wy 28 hg1) rfl (xl (isAgg3 _) hv22) (qg 19 ?_)
 obtain ⟨e3,hv21,h⟩:=h
 refine sxQ (v:=(.int .u8 e3)) (jE (S8 (S8 (jA (jA (jA jD)))))) (wy 28 hg1) rfl (zZ (by kernel_rfl) (by kernel_rfl) hv21) (qg 20 (sxQ (v:=(vb (decide (e3<32)))) (jE (S8 (S8 (S4 jD)))) (wy 28 hg1) rfl (by kernel_rfl) (qr 21 (vb (decide (e3<32))) (jE (S8 (S8 (S4 (jA jD))))) (xF hg1) (qq 22 (vb (decide (e3<32))) (jE (S8 (S8 (S4 (jA (jA jD)))))) (qg 23 ?_)))))
 obtain ⟨hg2,h⟩|⟨hg2,h⟩:=h.br
 refine kM (jE (S8 (S8 (S4 (jA (jA (jA jD))))))) (jH rfl (yD 40 hg2) rfl) (qn 24 (jE (S8 (S8 (S8 jD)))) (jH rfl (yD 40 hg2) rfl) (qn 25 (jE (S8 (S8 (S8 (jA jD))))) (jH rfl (yD 40 hg2) rfl) (qn 26 (jE (S8 (S8 (S8 (jA (jA jD)))))) (jH rfl (yD 40 hg2) rfl) (qn 27 (jE (S8 (S8 (S8 (jA (jA (jA jD))))))) (jH rfl (yD 40 hg2) rfl) (qn 28 (jE (S8 (S8 (S8 (S4 jD))))) (jH rfl (yD 40 hg2) rfl) (qn 29 (jE (S8 (S8 (S8 (S4 (jA jD)))))) (jH rfl (yD 40 hg2) rfl) (qn 30 (jE (S8 (S8 (S8 (S4 (jA (jA jD))))))) (jH rfl (yD 40 hg2) rfl) (qn 31 (jE (S8 (S8 (S8 (S4 (jA (jA (jA jD)))))))) (jH rfl (yD 40 hg2) rfl) (qn 32 (jE (S8 (S8 (S8 (S8 jD))))) (jH rfl (yD 40 hg2) rfl) (qr 33 (vb true) (jE (S8 (S8 (S8 (S8 (jA jD)))))) (xT hg2) (wn (jL ⟨true,Hl1,hm,hs,hb,h⟩))))))))))))
 refine sxQ (v:=(vp r1)) (jE (S8 (S8 (S4 (jA (jA (jA jD))))))) (wy 40 hg2) rfl (by kernel_rfl) (qg 24 ?_)
 obtain ⟨a19,hp22,h⟩:=h
 refine sxQ (jE (S8 (S8 (S8 jD)))) (wy 40 hg2) rfl (xn hp22) (qg 25 (sxQ (v:=(vp (some a19))) (jE (S8 (S8 (S8 (jA jD))))) (wy 40 hg2) rfl (by kernel_rfl) (qg 26 ?_)))
 obtain ⟨v16,hv20,h⟩:=h
 refine sxQ (jE (S8 (S8 (S8 (jA (jA jD)))))) (wy 40 hg2) rfl (xl (isAgg9 _) hv20) (qg 27 (sxQ (v:=(vp r1)) (jE (S8 (S8 (S8 (jA (jA (jA jD))))))) (wy 40 hg2) rfl (by kernel_rfl) (qg 28 ?_)))
 obtain ⟨a20,hp23,h⟩:=h
 refine sxQ (jE (S8 (S8 (S8 (S4 jD))))) (wy 40 hg2) rfl (xn hp23) (qg 29 (sxQ (v:=(vp (some (a20.add 1)))) (jE (S8 (S8 (S8 (S4 (jA jD)))))) (wy 40 hg2) rfl (by kernel_rfl) (qg 30 ?_)))
 obtain ⟨v17,hv19,h⟩:=h
 refine sxQ (jE (S8 (S8 (S8 (S4 (jA (jA jD))))))) (wy 40 hg2) rfl (xl (isAgg3 _) hv19) (qg 31 ?_)
 obtain ⟨e4,hv18,h⟩:=h
 refine sxQ (v:=(.int .u8 e4)) (jE (S8 (S8 (S8 (S4 (jA (jA (jA jD)))))))) (wy 40 hg2) rfl (zZ (by kernel_rfl) (by kernel_rfl) hv18) (qg 32 (sxQ (v:=(vb (decide (e4>126)))) (jE (S8 (S8 (S8 (S8 jD))))) (wy 40 hg2) rfl (by kernel_rfl) (qr 33 (vb (decide (e4>126))) (jE (S8 (S8 (S8 (S8 (jA jD)))))) (xF hg2) (wn (jL ⟨(decide (e4>126)),Hl1,hm,hs,hb,h⟩)))))
 refine zI (vM (vM (vI (jL (jB (eg (q0 b1.v (q0 (vi (b1.len:Int)) (q0 (vb (decide ((b1.len:Int)>64))) (jC (jL (cbr h ?_ ?_))))))))))))<;>intro h
 refine rg (qb (sc call66 (h.mono fun e w22 ⟨k,hk,h⟩=>have ⟨hs,hb⟩:=hk.hh hs hb;⟨_,k,?_⟩)))
 refine ln (eg (q ?_))
 obtain ⟨c4,hv26,h⟩:=h
 refine q2 (vs c4) (vF (by kernel_rfl) hv26) (q (ln (er (rs1 results160 ⟨c4,rfl,h⟩))))
 refine jF (jL (eg (q ?_)))
 obtain ⟨c5,hv27,h⟩:=h
 refine q2 (vs c5) (vF (by kernel_rfl) hv27) (q (ln (er (rs1 results160 ⟨c5,rfl,h⟩))))
def m_T_j1 (r1:Option Addr) (x1:Bool) (H:NP) (w:World) (K:WP):Prop :=Br x1 (∃a2,r1=some a2∧∃v2,w.cell? (a2.add 1)=some (vi v2)∧∃a3,r1=some a3∧kG w (a3.add 1)∧¬ H (a3.add 1).block∧∀w1,w1=w.setCell (a3.add 1) (vi (q6.wrap (v2+1)))→K w1) (Calls prog 119 #[(vp r1)] w (fun e w2=>e=.returned (.tuple #[])∧Kept H w w2∧K w2))
def m_T (r1:Option Addr) (c1:Int) (w0:World) (K:WP):Prop :=∃a1,r1=some a1∧∃v1,w0.cell? (a1.add 3)=some (vi v1)∧Br (v1 != 0) (K w0) (∃a4,r1=some a4∧∀w3,Hst w0 None w0 None w3→∃v3,w3.cell? (a4.add 1)=some (vi v3)∧∃a5,r1=some a5∧∃v4,w3.cell? a5=some (vs v4)∧Br (decide (v3<(v4.size:Int))) (∃a6,r1=some a6∧∃v5,w3.cell? a6=some (vs v5)∧∃a7,r1=some a7∧∃v6,w3.cell? (a7.add 1)=some (vi v6)∧∃e1:Int,(Instr.index 9 (vs v5) (vi v6)).run prog w3=.ok (.int .u8 e1) w3∧m_T_j1 r1 (e1 == c1) None w3 K) (m_T_j1 r1 false None w3 K))
theorem w_T (r1 c1 w0 K) (h:m_T r1 c1 w0 K):
  Calls prog 161 #[(vp r1),(.int .u8 c1)] w0 (fun e w'=>e=.returned (.tuple #[])∧K  w'):=by
 refine cw (args:=[(vp r1),(.int .u8 c1)]) func161 ntmps161 ?_
 obtain ⟨hs,hb⟩:=st0 w0
 refine jB (eg (q (qm h fun a1 h=>q (ql (isAgg3 _) h fun v1 h=>q (ln (cbr h ?_ ?_))))))<;>intro h
 refine er (zM (jDK (.inl rfl) results161 ⟨rfl,h⟩))
 refine jF (jL (jB (jB (zD (fun ρ w=>∃x1,∃H:NP,Has ρ [(0,(vp r1)),(31,(vb x1))]∧Hst w0 H w H w∧HB H w []∧m_T_j1 r1 x1 H w K) ?_ ?_))))
 rintro ρ w ⟨x1,H,hH,hs,hb,h⟩
 refine jY hH (cbr h ?_ ?_)<;>intro h
 refine eg (q (qm h fun a2 h=>q (ql (isAgg3 _) h fun v2 h=>q (qm h fun a3 h=>q (st2 (sizeOf3 _) hs hb h fun w1 hs hb h=>ln (er (zM (jDK (.inl rfl) results161 ⟨rfl,h⟩))))))))
 refine jF (jL (rg (q (sc call119 (h.mono fun e w2 ⟨k,hk,h⟩=>have ⟨hs,hb⟩:=hk.hh hs hb;⟨_,k,?_⟩)))))
 refine jC (jDK (.inr rfl) results161 ⟨rfl,h⟩)
 refine zJ (by kernel_rfl) (by kernel_rfl) (by kernel_rfl) (by kernel_rfl) ?_
 intro w3 hw3
 have hs:Hst w0 None w0 None w3:=by rw [hw3];exact hs.drew
 have hb:HB None w3 []:=by rw [hw3];exact hb.drew
 refine qq 0 (vp r1) Kp0 (qg 1 ?_)
 obtain ⟨a4,hp5,h⟩:=h
 refine sxQ Kp1 (jG rfl) rfl (xn hp5) (qq 2 (vp (some (a4.add 1))) Kp2 (qg 3 ?_))
 have ⟨h,hs⟩:=hs.hr (h w3)
 obtain ⟨v3,hv6,h⟩:=h
 refine sxQ Kp3 (jG rfl) rfl (xl (isAgg3 _) hv6) (qq 4 (vp r1) Kp4 (qg 5 ?_))
 obtain ⟨a5,hp6,h⟩:=h
 refine sxQ Kp5 (jG rfl) rfl (xn hp6) (qq 6 (vp (some a5)) Kp6 (qg 7 ?_))
 obtain ⟨v4,hv5,h⟩:=h
 refine sxQ Kp7 (jG rfl) rfl (xl (isAgg9 _) hv5) (qq 8 (vi (v4.size:Int)) Kp8 (qq 9 (vb (decide (v3<(v4.size:Int)))) Kp9 (qq 10 (vb (decide (v3<(v4.size:Int)))) (jE (S8 (jA (jA jD)))) (qg 11 ?_))))
 obtain ⟨hg1,h⟩|⟨hg1,h⟩:=h.br
 refine sxQ (v:=(vp r1)) (jE (S8 (jA (jA (jA jD))))) (wy 19 hg1) rfl (by kernel_rfl) (qg 12 ?_)
 obtain ⟨a6,hp7,h⟩:=h
 refine sxQ (jE (S8 (S4 jD))) (wy 19 hg1) rfl (xn hp7) (qg 13 (sxQ (v:=(vp (some a6))) (jE (S8 (S4 (jA jD)))) (wy 19 hg1) rfl (by kernel_rfl) (qg 14 ?_)))
 obtain ⟨v5,hv4,h⟩:=h
 refine sxQ (jE (S8 (S4 (jA (jA jD))))) (wy 19 hg1) rfl (xl (isAgg9 _) hv4) (qg 15 (sxQ (v:=(vp r1)) (jE (S8 (S4 (jA (jA (jA jD)))))) (wy 19 hg1) rfl (by kernel_rfl) (qg 16 ?_)))
 obtain ⟨a7,hp8,h⟩:=h
 refine sxQ (jE (S8 (S8 jD))) (wy 19 hg1) rfl (xn hp8) (qg 17 (sxQ (v:=(vp (some (a7.add 1)))) (jE (S8 (S8 (jA jD)))) (wy 19 hg1) rfl (by kernel_rfl) (qg 18 ?_)))
 obtain ⟨v6,hv3,h⟩:=h
 refine sxQ (jE (S8 (S8 (jA (jA jD))))) (wy 19 hg1) rfl (xl (isAgg3 _) hv3) (qg 19 ?_)
 obtain ⟨e1,hv2,h⟩:=h
 refine sxQ (v:=(.int .u8 e1)) (jE (S8 (S8 (jA (jA (jA jD)))))) (wy 19 hg1) rfl (zZ (by kernel_rfl) (by kernel_rfl) hv2) (qg 20 (sxQ (v:=(.int .u8 c1)) (jE (S8 (S8 (S4 jD)))) (wy 19 hg1) rfl (by kernel_rfl) (qg 21 (sxQ (v:=(vb (e1 == c1))) (jE (S8 (S8 (S4 (jA jD))))) (wy 19 hg1) rfl (by kernel_rfl) (qr 22 (vb (e1 == c1)) (jE (S8 (S8 (S4 (jA (jA jD)))))) (xT hg1) (wn (jL ⟨(e1 == c1),None,hm,hs,hb,h⟩)))))))
 refine kM (jE (S8 (jA (jA (jA jD))))) (jH rfl (yD 19 hg1) rfl) (qn 12 (jE (S8 (S4 jD))) (jH rfl (yD 19 hg1) rfl) (qn 13 (jE (S8 (S4 (jA jD)))) (jH rfl (yD 19 hg1) rfl) (qn 14 (jE (S8 (S4 (jA (jA jD))))) (jH rfl (yD 19 hg1) rfl) (qn 15 (jE (S8 (S4 (jA (jA (jA jD)))))) (jH rfl (yD 19 hg1) rfl) (qn 16 (jE (S8 (S8 jD))) (jH rfl (yD 19 hg1) rfl) (qn 17 (jE (S8 (S8 (jA jD)))) (jH rfl (yD 19 hg1) rfl) (qn 18 (jE (S8 (S8 (jA (jA jD))))) (jH rfl (yD 19 hg1) rfl) (qn 19 (jE (S8 (S8 (jA (jA (jA jD)))))) (jH rfl (yD 19 hg1) rfl) (qn 20 (jE (S8 (S8 (S4 jD)))) (jH rfl (yD 19 hg1) rfl) (qn 21 (jE (S8 (S8 (S4 (jA jD))))) (jH rfl (yD 19 hg1) rfl) (qr 22 (vb false) (jE (S8 (S8 (S4 (jA (jA jD)))))) (xF hg1) (wn (jL ⟨false,None,hm,hs,hb,h⟩)))))))))))))
def m_C3 (r1:Option Addr) (aA aH:Int) (aI aJ:Int) (aK:ByteArray) (aL:Sl) (deep1:Int) (w0:World) (K:Int→Int→Int→Int→ByteArray→Sl→WP):Prop :=∀H2 w2,Hst w0 None w0 H2 w2→Calls prog 161 #[(vp r1),(.int .u8 40)] w2 (fun e w3=>e=.returned (.tuple #[])∧Kept H2 w2 w3∧Calls prog 65 #[(vp r1),(vi (q6.wrap (deep1+1)))] w3 (fun e w4=>∃aB aC aD aE aF aG,e=.returned (Ab aB aC aD aE aF aG)∧Kept H2 w3 w4∧∀p3 w5,New w4 (.cells #[(vi aB),(vi aC),(vi aD),(vu aE),(vs aF),aG.v] 28) p3 w5→∀w6,Hst w0 H2 w5 H2 w6→Calls prog 161 #[(vp r1),(.int .u8 41)] w6 (fun e w7=>e=.returned (.tuple #[])∧Kept H2 w6 w7∧∀w8,Hst w0 H2 w7 H2 w8→K aA aH aI aJ aK (Sl.mk (some p3) 1 1) w8)))
theorem w_C3 (r1 aA aH aI aJ aK aL deep1 w0 K) (h:m_C3 r1 aA aH aI aJ aK aL deep1 w0 K):
  Calls prog 162 #[(vp r1),(.agg #[(vi aA),(vi aH),(vi aI),(vu aJ),(vs aK),aL.v]),(vi deep1)] w0 (fun e w'=>∃aM aN aO aP aQ aR,e=.returned (Ab aM aN aO aP aQ aR)∧K aM aN aO aP aQ aR w'):=by
 refine cw (args:=[(vp r1),(Ab aA aH aI aJ aK aL),(vi deep1)]) func162 ntmps162 ?_
 obtain ⟨hs,hb⟩:=st0 w0
 refine eg (nw3 (Aa aA aH aI aJ aK aL) 28 hs hb xb fun p1 w1 H1 hs hb=>nw3 [(vi 0),(vi 0),(vi 0),(vu 0),ve,Sl.nil.v] 28 hs hb (jW (zeroValue28 _) rfl) fun p2 w2 H2 hs hb=>ln (eg (q ?_)))
 have ⟨h,hs⟩:=hs.hr (h H2 w2)
 refine sc call161 (h.mono fun e w3 ⟨k,hk,h⟩=>have ⟨hs,hb⟩:=hk.hh hs hb;⟨_,k,?_⟩)
 refine ln (eg (qc (sc call65 (h.mono fun e w4 ⟨aB,aC,aD,aE,aF,aG,k,hk,h⟩=>have ⟨hs,hb⟩:=hk.hh hs hb;⟨_,k,?_⟩))))
 refine nw5 (fun p=>(Sl.mk (some p) 1 1).v) hs hb h fun p3 w5 hs hb h=>q (zF (jG rfl) (zY (a:=(p1.add 5)) (v:=(Sl.mk (some p3) 1 1).v) (by kernel_rfl) (by kernel_rfl) rfl (sizeOf22 _) (hb.canW 1 5 (gS gZ) (by kernel_rfl))) ?_)
 intro w6 hn3
 have hsb:Hst w0 H2 w5 H2 w6∧HB H2 w6 [(p2,[(vi 0),(vi 0),(vi 0),(vu 0),ve,Sl.nil.v],28),(p1,[(vi aA),(vi aH),(vi aI),(vu aJ),(vs aK),(Sl.mk (some p3) 1 1).v],28)]:=by
  rw [hn3];exact hb.set (i:=1) 5 (v:=(Sl.mk (some p3) 1 1).v) hs (gS gZ) (by kernel_rfl)
 obtain ⟨hs,hb⟩:=hsb
 refine ln (eg (q ?_))
 have ⟨h,hs⟩:=hs.hr (h w6)
 refine sc call161 (h.mono fun e w7 ⟨k,hk,h⟩=>have ⟨hs,hb⟩:=hk.hh hs hb;⟨_,k,?_⟩)
 refine ln (eg (q2 (.agg #[(vi aA),(vi aH),(vi aI),(vu aJ),(vs aK),(Sl.mk (some p3) 1 1).v]) (xa p1 [(vi aA),(vi aH),(vi aI),(vu aJ),(vs aK),(Sl.mk (some p3) 1 1).v] (isAgg28 _) (sizeOf28 _) (hb.r0 1 6 (gS gZ))) (zF (jG rfl) (xo p2 [(vi aA),(vi aH),(vi aI),(vu aJ),(vs aK),(Sl.mk (some p3) 1 1).v] (sizeOf28 _) (hb.k0 0 6 gZ)) ?_)))
 intro w8 hn4
 obtain ⟨hs,hb⟩:=hb.st1 0 hs hn4 gZ
 refine ln (er ?_)
 have ⟨h,hs⟩:=hs.hr (h w8)
 refine uD (.inl rfl) (vs:=[(.agg #[(vi aA),(vi aH),(vi aI),(vu aJ),(vs aK),(Sl.mk (some p3) 1 1).v])]) (v:=(.agg #[(vi aA),(vi aH),(vi aI),(vu aJ),(vs aK),(Sl.mk (some p3) 1 1).v])) results162 ⟨(rva (isAgg28 _) (sizeOf28 _) (hb.r0 0 6 gZ)),trivial⟩ (by kernel_rfl) ⟨aA,aH,aI,aJ,aK,(Sl.mk (some p3) 1 1),rfl,h⟩
def m_D3 (r1:Option Addr) (c1 deep1:Int) (w0:World) (K:Int→Int→Int→Int→ByteArray→Sl→WP):Prop :=Br (c1 == 110) (∀H1 w1,Hst w0 None w0 H1 w1→Calls prog 158 #[(vp r1),(vi (-1))] w1 (fun e w2=>∃r2,e=.returned (vi r2)∧Kept H1 w1 w2∧∀w3,Hst w0 H1 w2 H1 w3→K 1 r2 0 0 ⟨#[]⟩ Sl.nil w3)) (Br (c1 == 107) (∀H1 w1,Hst w0 None w0 H1 w1→Calls prog 158 #[(vp r1),(vi (-1))] w1 (fun e w4=>∃r3,e=.returned (vi r3)∧Kept H1 w1 w4∧∀w5,Hst w0 H1 w4 H1 w5→K 6 r3 0 0 ⟨#[]⟩ Sl.nil w5)) (Br (c1 == 35) (∀H1 w1,Hst w0 None w0 H1 w1→Calls prog 159 #[(vp r1)] w1 (fun e w6=>∃r4 r5,e=.returned (.tuple #[(vu r4),(vi r5)])∧Kept H1 w1 w6∧∀w7,Hst w0 H1 w6 H1 w7→K 2 0 0 r4 ⟨#[]⟩ Sl.nil w7)) (Br (c1 == 34) (∀H1 w1,Hst w0 None w0 H1 w1→Calls prog 160 #[(vp r1)] w1 (fun e w8=>∃r6,e=.returned (vs r6)∧Kept H1 w1 w8∧∀w9,Hst w0 H1 w8 H1 w9→K 3 0 0 0 r6 Sl.nil w9)) (Br (c1 == 40) (∀H1 w1,Hst w0 None w0 H1 w1→Calls prog 65 #[(vp r1),(vi (q6.wrap (deep1+1)))] w1 (fun e w10=>∃aB aC aD aE aF aG,e=.returned (Ab aB aC aD aE aF aG)∧Kept H1 w1 w10∧∀H2 w12,Hst w0 H1 w10 H2 w12→Calls prog 65 #[(vp r1),(vi (q6.wrap (deep1+1)))] w12 (fun e w13=>∃aM aN aO aP aQ aR,e=.returned (Ab aM aN aO aP aQ aR)∧Kept H2 w12 w13∧∀H3 w15,Hst w0 H2 w13 H3 w15→Calls prog 161 #[(vp r1),(.int .u8 41)] w15 (fun e w16=>e=.returned (.tuple #[])∧Kept H3 w15 w16∧∀p4 w17,New w16 (.cells #[(vi aB),(vi aC),(vi aD),(vu aE),(vs aF),aG.v,(vi aM),(vi aN),(vi aO),(vu aP),(vs aQ),aR.v] 28) p4 w17→∀w18,Hst w0 H3 w17 H3 w18→K 4 0 0 0 ⟨#[]⟩ (Sl.mk (some p4) 2 2) w18)))) (Br (c1 == 104) (∀H1 w1,Hst w0 None w0 H1 w1→Calls prog 162 #[(vp r1),(.agg #[(vi 5),(vi 0),(vi 0),(vu 0),ve,Sl.nil.v]),(vi deep1)] w1 (fun e w19=>∃aS aT aU aV aW aX,e=.returned (Ab aS aT aU aV aW aX)∧Kept H1 w1 w19∧∀w20,Hst w0 H1 w19 H1 w20→K aS aT aU aV aW aX w20)) (Br (c1 == 115) (∀H1 w1,Hst w0 None w0 H1 w1→Calls prog 158 #[(vp r1),(vi (-1))] w1 (fun e w21=>∃r7,e=.returned (vi r7)∧Kept H1 w1 w21∧Calls prog 162 #[(vp r1),(.agg #[(vi 7),(vi r7),(vi 0),(vu 0),ve,Sl.nil.v]),(vi deep1)] w21 (fun e w22=>∃aY aZ bA bB bC bD,e=.returned (Ab aY aZ bA bB bC bD)∧Kept H1 w21 w22∧∀w23,Hst w0 H1 w22 H1 w23→K aY aZ bA bB bC bD w23))) (∀H1 w1,Hst w0 None w0 H1 w1→Calls prog 158 #[(vp r1),(vi (-1))] w1 (fun e w24=>∃r8,e=.returned (vi r8)∧Kept H1 w1 w24∧∀H5 w28,Hst w0 H1 w24 H5 w28→Calls prog 161 #[(vp r1),(.int .u8 62)] w28 (fun e w30=>e=.returned (.tuple #[])∧Kept H5 w28 w30∧Calls prog 158 #[(vp r1),(vi r8)] w30 (fun e w31=>∃r9,e=.returned (vi r9)∧Kept H5 w30 w31∧∀w32,Hst w0 H5 w31 H5 w32→Calls prog 162 #[(vp r1),(.agg #[(vi (cond (c1 == 102) 9 8)),(vi r8),(vi r9),(vu 0),ve,Sl.nil.v]),(vi deep1)] w32 (fun e w33=>∃bE bF bG bH bI bJ,e=.returned (Ab bE bF bG bH bI bJ)∧Kept H5 w32 w33∧∀w34,Hst w0 H5 w33 H5 w34→K bE bF bG bH bI bJ w34)))))))))))
theorem w_D3 (r1 c1 deep1 w0 K) (h:m_D3 r1 c1 deep1 w0 K):
  Calls prog 120 #[(vp r1),(.int .u8 c1),(vi deep1)] w0 (fun e w'=>∃cU cV cW cX cY cZ,e=.returned (Ab cU cV cW cX cY cZ)∧K cU cV cW cX cY cZ w'):=by
 refine cw (args:=[(vp r1),(.int .u8 c1),(vi deep1)]) func120 ntmps120 ?_
 obtain ⟨hs,hb⟩:=st0 w0
 refine eg (nw3 [(vi 0),(vi 0),(vi 0),(vu 0),ve,Sl.nil.v] 28 hs hb (jW (zeroValue28 _) rfl) fun p1 w1 H1 hs hb=>ln (jB (eg (q (ln (jO (eg (q (q (ln (cbr h ?_ ?_)))))))))))<;>intro h
 refine eg (q ?_)
 have ⟨h,hs⟩:=hs.hr (h H1 w1)
 refine sc call158 (h.mono fun e w2 ⟨r2,k,hk,h⟩=>have ⟨hs,hb⟩:=hk.hh hs hb;⟨_,k,?_⟩)
 refine q (zF (jG rfl) (xo p1 [(vi 1),(vi r2),(vi 0),(vu 0),ve,Sl.nil.v] (sizeOf28 _) (hb.k0 0 6 gZ)) ?_)
 intro w3 hn2
 obtain ⟨hs,hb⟩:=hb.st1 0 hs hn2 gZ
 refine ln (er (vR (zM ?_)))
 have ⟨h,hs⟩:=hs.hr (h w3)
 refine uD (.inl rfl) (vs:=[(.agg #[(vi 1),(vi r2),(vi 0),(vu 0),ve,Sl.nil.v])]) (v:=(.agg #[(vi 1),(vi r2),(vi 0),(vu 0),ve,Sl.nil.v])) results120 ⟨(rva (isAgg28 _) (sizeOf28 _) (hb.r0 0 6 gZ)),trivial⟩ (by kernel_rfl) ⟨1,r2,0,0,⟨#[]⟩,Sl.nil,rfl,h⟩
 refine eg (qb (ln (cbr h ?_ ?_)))<;>intro h
 refine eg (q ?_)
 have ⟨h,hs⟩:=hs.hr (h H1 w1)
 refine sc call158 (h.mono fun e w4 ⟨r3,k,hk,h⟩=>have ⟨hs,hb⟩:=hk.hh hs hb;⟨_,k,?_⟩)
 refine q (zF (jG rfl) (xo p1 [(vi 6),(vi r3),(vi 0),(vu 0),ve,Sl.nil.v] (sizeOf28 _) (hb.k0 0 6 gZ)) ?_)
 intro w5 hn3
 obtain ⟨hs,hb⟩:=hb.st1 0 hs hn3 gZ
 refine ln (er (vR (zM ?_)))
 have ⟨h,hs⟩:=hs.hr (h w5)
 refine uD (.inl rfl) (vs:=[(.agg #[(vi 6),(vi r3),(vi 0),(vu 0),ve,Sl.nil.v])]) (v:=(.agg #[(vi 6),(vi r3),(vi 0),(vu 0),ve,Sl.nil.v])) results120 ⟨(rva (isAgg28 _) (sizeOf28 _) (hb.r0 0 6 gZ)),trivial⟩ (by kernel_rfl) ⟨6,r3,0,0,⟨#[]⟩,Sl.nil,rfl,h⟩
 refine eg (qb (ln (cbr h ?_ ?_)))<;>intro h
 refine eg (q ?_)
 have ⟨h,hs⟩:=hs.hr (h H1 w1)
 refine sc call159 (h.mono fun e w6 ⟨r4,r5,k,hk,h⟩=>have ⟨hs,hb⟩:=hk.hh hs hb;⟨_,k,?_⟩)
 refine q (qd (ln (eg (qb (zF (jG rfl) (xo p1 [(vi 2),(vi 0),(vi 0),(vu r4),ve,Sl.nil.v] (sizeOf28 _) (hb.k0 0 6 gZ)) ?_)))))
 intro w7 hn4
 obtain ⟨hs,hb⟩:=hb.st1 0 hs hn4 gZ
 refine ln (er (vR (zM ?_)))
 have ⟨h,hs⟩:=hs.hr (h w7)
 refine uD (.inl rfl) (vs:=[(.agg #[(vi 2),(vi 0),(vi 0),(vu r4),ve,Sl.nil.v])]) (v:=(.agg #[(vi 2),(vi 0),(vi 0),(vu r4),ve,Sl.nil.v])) results120 ⟨(rva (isAgg28 _) (sizeOf28 _) (hb.r0 0 6 gZ)),trivial⟩ (by kernel_rfl) ⟨2,0,0,r4,⟨#[]⟩,Sl.nil,rfl,h⟩
 refine eg (qb (ln (cbr h ?_ ?_)))<;>intro h
 refine eg (q ?_)
 have ⟨h,hs⟩:=hs.hr (h H1 w1)
 refine sc call160 (h.mono fun e w8 ⟨r6,k,hk,h⟩=>have ⟨hs,hb⟩:=hk.hh hs hb;⟨_,k,?_⟩)
 refine q (zF (jG rfl) (xo p1 [(vi 3),(vi 0),(vi 0),(vu 0),(vs r6),Sl.nil.v] (sizeOf28 _) (hb.k0 0 6 gZ)) ?_)
 intro w9 hn5
 obtain ⟨hs,hb⟩:=hb.st1 0 hs hn5 gZ
 refine ln (er (vR (zM ?_)))
 have ⟨h,hs⟩:=hs.hr (h w9)
 refine uD (.inl rfl) (vs:=[(.agg #[(vi 3),(vi 0),(vi 0),(vu 0),(vs r6),Sl.nil.v])]) (v:=(.agg #[(vi 3),(vi 0),(vi 0),(vu 0),(vs r6),Sl.nil.v])) results120 ⟨(rva (isAgg28 _) (sizeOf28 _) (hb.r0 0 6 gZ)),trivial⟩ (by kernel_rfl) ⟨3,0,0,0,r6,Sl.nil,rfl,h⟩
 refine eg (qb (ln (cbr h ?_ ?_)))<;>intro h
 refine eg (qc ?_)
 have ⟨h,hs⟩:=hs.hr (h H1 w1)
 refine sc call65 (h.mono fun e w10 ⟨aB,aC,aD,aE,aF,aG,k,hk,h⟩=>have ⟨hs,hb⟩:=hk.hh hs hb;⟨_,k,?_⟩)
 refine nw3 [(vi 0),(vi 0),(vi 0),(vu 0),ve,Sl.nil.v] 28 hs hb (jW (zeroValue28 _) rfl) fun p2 w11 H2 hs hb=>sbx 0 (Aa aB aC aD aE aF aG) (sizeOf28 _) hs hb gZ fun w12 hs hb=>ln (eg (qc ?_))
 have ⟨h,hs⟩:=hs.hr (h H2 w12)
 refine sc call65 (h.mono fun e w13 ⟨aM,aN,aO,aP,aQ,aR,k,hk,h⟩=>have ⟨hs,hb⟩:=hk.hh hs hb;⟨_,k,?_⟩)
 refine nw3 [(vi 0),(vi 0),(vi 0),(vu 0),ve,Sl.nil.v] 28 hs hb (jW (zeroValue28 _) rfl) fun p3 w14 H3 hs hb=>sbx 0 (Aa aM aN aO aP aQ aR) (sizeOf28 _) hs hb gZ fun w15 hs hb=>ln (eg (q ?_))
 have ⟨h,hs⟩:=hs.hr (h H3 w15)
 refine sc call161 (h.mono fun e w16 ⟨k,hk,h⟩=>have ⟨hs,hb⟩:=hk.hh hs hb;⟨_,k,?_⟩)
 refine ln (eg (q2 (Ab aB aC aD aE aF aG) (xa p2 (Aa aB aC aD aE aF aG) (isAgg28 _) (sizeOf28 _) (hb.r0 1 6 (gS gZ))) (q2 (Ab aM aN aO aP aQ aR) (xa p3 (Aa aM aN aO aP aQ aR) (isAgg28 _) (sizeOf28 _) (hb.r0 0 6 gZ)) (nw5 (fun p=>(Sl.mk (some p) 2 2).v) hs hb h fun p4 w17 hs hb h=>q (zF (jG rfl) (xo p1 [(vi 4),(vi 0),(vi 0),(vu 0),ve,(Sl.mk (some p4) 2 2).v] (sizeOf28 _) (hb.k0 2 6 (gS (gS gZ)))) ?_)))))
 intro w18 hn10
 obtain ⟨hs,hb⟩:=hb.st1 2 hs hn10 (gS (gS gZ))
 refine ln (er (vR (zM ?_)))
 have ⟨h,hs⟩:=hs.hr (h w18)
 refine uD (.inl rfl) (vs:=[(.agg #[(vi 4),(vi 0),(vi 0),(vu 0),ve,(Sl.mk (some p4) 2 2).v])]) (v:=(.agg #[(vi 4),(vi 0),(vi 0),(vu 0),ve,(Sl.mk (some p4) 2 2).v])) results120 ⟨(rva (isAgg28 _) (sizeOf28 _) (hb.r0 2 6 (gS (gS gZ)))),trivial⟩ (by kernel_rfl) ⟨4,0,0,0,⟨#[]⟩,(Sl.mk (some p4) 2 2),rfl,h⟩
 refine eg (qb (ln (cbr h ?_ ?_)))<;>intro h
 refine eg (qc ?_)
 have ⟨h,hs⟩:=hs.hr (h H1 w1)
 refine sc call162 (h.mono fun e w19 ⟨aS,aT,aU,aV,aW,aX,k,hk,h⟩=>have ⟨hs,hb⟩:=hk.hh hs hb;⟨_,k,?_⟩)
 refine sbx 0 (Aa aS aT aU aV aW aX) (sizeOf28 _) hs hb gZ fun w20 hs hb=>ln (er (vR (zM ?_)))
 have ⟨h,hs⟩:=hs.hr (h w20)
 refine uD (.inl rfl) (vs:=[(Ab aS aT aU aV aW aX)]) (v:=(Ab aS aT aU aV aW aX)) results120 ⟨(rva (isAgg28 _) (sizeOf28 _) (hb.r0 0 6 gZ)),trivial⟩ (by kernel_rfl) ⟨aS,aT,aU,aV,aW,aX,rfl,h⟩
 refine eg (qb (ln (cbr h ?_ ?_)))<;>intro h
 refine eg (qb ?_)
 have ⟨h,hs⟩:=hs.hr (h H1 w1)
 refine sc call158 (h.mono fun e w21 ⟨r7,k,hk,h⟩=>have ⟨hs,hb⟩:=hk.hh hs hb;⟨_,k,?_⟩)
 refine qb (sc call162 (h.mono fun e w22 ⟨aY,aZ,bA,bB,bC,bD,k,hk,h⟩=>have ⟨hs,hb⟩:=hk.hh hs hb;⟨_,k,?_⟩))
 refine sbx 0 (Aa aY aZ bA bB bC bD) (sizeOf28 _) hs hb gZ fun w23 hs hb=>ln (er (vR (zM ?_)))
 have ⟨h,hs⟩:=hs.hr (h w23)
 refine uD (.inl rfl) (vs:=[(Ab aY aZ bA bB bC bD)]) (v:=(Ab aY aZ bA bB bC bD)) results120 ⟨(rva (isAgg28 _) (sizeOf28 _) (hb.r0 0 6 gZ)),trivial⟩ (by kernel_rfl) ⟨aY,aZ,bA,bB,bC,bD,rfl,h⟩
 refine jF (kW (jL (eg (q ?_))))
 have ⟨h,hs⟩:=hs.hr (h H1 w1)
 refine sc call158 (h.mono fun e w24 ⟨r8,k,hk,h⟩=>have ⟨hs,hb⟩:=hk.hh hs hb;⟨_,k,?_⟩)
 refine q (nw3 [(vi 0),(vi 0),(vi 0),(vu 0),ve,Sl.nil.v] 28 hs hb (jW (zeroValue28 _) rfl) fun p5 w25 H4 hs hb=>sbx 0 [(vi 8),(vi r8),(vi 0),(vu 0),ve,Sl.nil.v] (sizeOf28 _) hs hb gZ fun w26 hs hb=>ln (jB (eg (qb (ln (zH (fun ρ wJ=>∃b1'0:Bool,∃HJ:NP,((c1 == 102)=b1'0)∧Hst w0 H1 w24 HJ wJ∧HB HJ wJ [(p5,[(vi (cond b1'0 9 8)),(vi r8),(vi 0),(vu 0),ve,Sl.nil.v],28),(p1,[(vi 0),(vi 0),(vi 0),(vu 0),ve,Sl.nil.v],28)]∧Has ρ [(0,(vp r1)),(2,(vi deep1)),(6,(vp (some p1))),(11,(vp (some p5)))]) ?_ ?_))))))
 refine zO (t:=(c1 == 102)) (by kernel_rfl) (fun hc9=>?_) (fun hc9=>?_)
 refine rg (q (zF (jG rfl) (zY (a:=p5) (v:=(vi 9)) (by kernel_rfl) (by kernel_rfl) rfl (sizeOf3 _) (hb.canW0 0 gZ (by kernel_rfl))) ?_))
 intro w29 hn17
 have hsb:Hst w0 H1 w24 H4 w29∧HB H4 w29 [(p5,[(vi 9),(vi r8),(vi 0),(vu 0),ve,Sl.nil.v],28),(p1,[(vi 0),(vi 0),(vi 0),(vu 0),ve,Sl.nil.v],28)]:=by
  rw [hn17];exact hb.set0 (i:=0) (v:=(vi 9)) hs gZ (by kernel_rfl)
 obtain ⟨hs,hb⟩:=hsb
 refine ln ⟨true,_,hc9,hs,hb,hm⟩
 refine jF (jL ⟨false,_,hc9,hs,hb,hm⟩)
 rintro ρ w28 ⟨b1'0,H5,he0,hs,hb,hH⟩
 subst he0
 refine zA hH (jL (eg (q ?_)))
 have ⟨h,hs⟩:=hs.hr (h H5 w28)
 refine sc call161 (h.mono fun e w30 ⟨k,hk,h⟩=>have ⟨hs,hb⟩:=hk.hh hs hb;⟨_,k,?_⟩)
 refine ln (eg (qb (q3 (xl (isAgg3 _) (hb.d 0 1 gZ)) (sc call158 (h.mono fun e w31 ⟨r9,k,hk,h⟩=>have ⟨hs,hb⟩:=hk.hh hs hb;⟨_,k,?_⟩)))))
 refine q (zF (jG rfl) (zY (a:=(p5.add 2)) (v:=(vi r9)) (by kernel_rfl) (by kernel_rfl) rfl (sizeOf3 _) (hb.canW 0 2 gZ (by kernel_rfl))) ?_)
 intro w32 hn18
 have hsb:Hst w0 H5 w31 H5 w32∧HB H5 w32 [(p5,[(vi (cond (c1 == 102) 9 8)),(vi r8),(vi r9),(vu 0),ve,Sl.nil.v],28),(p1,[(vi 0),(vi 0),(vi 0),(vu 0),ve,Sl.nil.v],28)]:=by
  rw [hn18];exact hb.set (i:=0) 2 (v:=(vi r9)) hs gZ (by kernel_rfl)
 obtain ⟨hs,hb⟩:=hsb
 refine ln (eg (q (q2 (.agg #[(vi (cond (c1 == 102) 9 8)),(vi r8),(vi r9),(vu 0),ve,Sl.nil.v]) (xa p5 [(vi (cond (c1 == 102) 9 8)),(vi r8),(vi r9),(vu 0),ve,Sl.nil.v] (isAgg28 _) (sizeOf28 _) (hb.r0 0 6 gZ)) (q ?_))))
 have ⟨h,hs⟩:=hs.hr (h w32)
 refine sc call162 (h.mono fun e w33 ⟨bE,bF,bG,bH,bI,bJ,k,hk,h⟩=>have ⟨hs,hb⟩:=hk.hh hs hb;⟨_,k,?_⟩)
 refine sbx 1 (Aa bE bF bG bH bI bJ) (sizeOf28 _) hs hb (gS gZ) fun w34 hs hb=>ln (er ?_)
 have ⟨h,hs⟩:=hs.hr (h w34)
 refine uD (.inl rfl) (vs:=[(Ab bE bF bG bH bI bJ)]) (v:=(Ab bE bF bG bH bI bJ)) results120 ⟨(rva (isAgg28 _) (sizeOf28 _) (hb.r0 1 6 (gS gZ))),trivial⟩ (by kernel_rfl) ⟨bE,bF,bG,bH,bI,bJ,rfl,h⟩
def m_H1_j1 (r1:Option Addr) (deep1 e1:Int) (x1:Bool) (w0:World) (H:NP) (w:World) (K:Int→Int→Int→Int→ByteArray→Sl→WP):Prop :=Br x1 (∃a6,r1=some a6∧∃v6,w.cell? (a6.add 1)=some (vi v6)∧Calls prog 66 #[(vp r1),(vi 52),(vi v6)] w (fun e w27=>e=.returned (.tuple #[])∧Kept H w w27∧∀w28,Hst w0 H w27 H w28→K 0 0 0 0 ⟨#[]⟩ Sl.nil w28)) (∃a7,r1=some a7∧∃v7,w.cell? (a7.add 2)=some (vi v7)∧∃a8,r1=some a8∧kG w (a8.add 2)∧¬ H (a8.add 2).block∧∀w29,w29=w.setCell (a8.add 2) (vi (q6.wrap (v7+1)))→∃a9,r1=some a9∧∃v8,w29.cell? (a9.add 1)=some (vi v8)∧∃a10,r1=some a10∧kG w29 (a10.add 1)∧¬ H (a10.add 1).block∧∀w30,w30=w29.setCell (a10.add 1) (vi (q6.wrap (v8+1)))→Calls prog 120 #[(vp r1),(.int .u8 e1),(vi deep1)] w30 (fun e w31=>∃aB aC aD aE aF aG,e=.returned (Ab aB aC aD aE aF aG)∧Kept H w30 w31∧∀H19 w33,Hst w0 H w31 H19 w33→Calls prog 118 #[(vp r1)] w33 (fun e w34=>e=.returned (.tuple #[])∧Kept H19 w33 w34∧∀w35,Hst w0 H19 w34 H19 w35→K aB aC aD aE aF aG w35)))
def m_H1 (r1:Option Addr) (deep1:Int) (w0:World) (K:Int→Int→Int→Int→ByteArray→Sl→WP):Prop :=∃a1,r1=some a1∧∀H1 w1,Hst w0 None w0 H1 w1→∃v1,w1.cell? (a1.add 3)=some (vi v1)∧Br (v1 != 0) (∀w2,Hst w0 H1 w1 H1 w2→K 0 0 0 0 ⟨#[]⟩ Sl.nil w2) (Calls prog 118 #[(vp r1)] w1 (fun e w3=>e=.returned (.tuple #[])∧Kept H1 w1 w3∧∃a2,r1=some a2∧∀w4,Hst w0 H1 w3 H1 w4→∃v2,w4.cell? (a2.add 1)=some (vi v2)∧∃a3,r1=some a3∧∃v3,w4.cell? a3=some (vs v3)∧Br (decide (v2≥(v3.size:Int))) (Calls prog 119 #[(vp r1)] w4 (fun e w5=>e=.returned (.tuple #[])∧Kept H1 w4 w5∧∀w6,Hst w0 H1 w5 H1 w6→K 0 0 0 0 ⟨#[]⟩ Sl.nil w6)) (∃a4,r1=some a4∧∀w7,Hst w0 H1 w4 H1 w7→∃v4,w7.cell? a4=some (vs v4)∧∃a5,r1=some a5∧∃v5,w7.cell? (a5.add 1)=some (vi v5)∧∃e1:Int,(Instr.index 9 (vs v4) (vi v5)).run prog w7=.ok (.int .u8 e1) w7∧Br (!(((((((((e1 == 110) || (e1 == 35)) || (e1 == 107)) || (e1 == 34)) || (e1 == 40)) || (e1 == 104)) || (e1 == 115)) || (e1 == 112)) || (e1 == 102))) (∀H10 w16,Hst w0 H1 w7 H10 w16→Calls prog 119 #[(vp r1)] w16 (fun e w25=>e=.returned (.tuple #[])∧Kept H10 w16 w25∧∀w26,Hst w0 H10 w25 H10 w26→K 0 0 0 0 ⟨#[]⟩ Sl.nil w26)) (∃a11,r1=some a11∧∀H10 w16,Hst w0 H1 w7 H10 w16→∃v9,w16.cell? (a11.add 2)=some (vi v9)∧∀H20 w36,Hst w0 H10 w16 H20 w36→m_H1_j1 r1 deep1 e1 ((decide (v9≥4096)) || (decide (deep1≥64))) w0 H20 w36 K))))
theorem w_H1 (r1 deep1 w0 K) (h:m_H1 r1 deep1 w0 K):
  Calls prog 65 #[(vp r1),(vi deep1)] w0 (fun e w'=>∃aM aN aO aP aQ aR,e=.returned (Ab aM aN aO aP aQ aR)∧K aM aN aO aP aQ aR w'):=by
 refine cw (args:=[(vp r1),(vi deep1)]) func65 ntmps65 ?_
 obtain ⟨hs,hb⟩:=st0 w0
 refine eg (nw3 [(vi 0),(vi 0),(vi 0),(vu 0),ve,Sl.nil.v] 28 hs hb (jW (zeroValue28 _) rfl) fun p1 w1 H1 hs hb=>ln (jB (eg (q (qm h fun a1 h=>q ?_)))))
 have ⟨h,hs⟩:=hs.hr (h H1 w1)
 refine ql (isAgg3 _) h fun v1 h=>q (ln (cbr h ?_ ?_))<;>intro h
 refine eg (q (zF (jG rfl) (xo p1 [(vi 0),(vi 0),(vi 0),(vu 0),ve,Sl.nil.v] (sizeOf28 _) (hb.k0 0 6 gZ)) ?_))
 intro w2 hn2
 obtain ⟨hs,hb⟩:=hb.st1 0 hs hn2 gZ
 refine ln (er (zM ?_))
 have ⟨h,hs⟩:=hs.hr (h w2)
 refine uD (.inl rfl) (vs:=[(.agg #[(vi 0),(vi 0),(vi 0),(vu 0),ve,Sl.nil.v])]) (v:=(.agg #[(vi 0),(vi 0),(vi 0),(vu 0),ve,Sl.nil.v])) results65 ⟨(rva (isAgg28 _) (sizeOf28 _) (hb.r0 0 6 gZ)),trivial⟩ (by kernel_rfl) ⟨0,0,0,0,⟨#[]⟩,Sl.nil,rfl,h⟩
 refine jF (jL (eg (q (sc call118 (h.mono fun e w3 ⟨k,hk,h⟩=>have ⟨hs,hb⟩:=hk.hh hs hb;⟨_,k,?_⟩)))))
 refine ln (jB (jB (zJ (by kernel_rfl) (by kernel_rfl) (by kernel_rfl) (by kernel_rfl) ?_)))
 intro w4 hw4
 have hs:Hst w0 H1 w3 H1 w4:=by rw [hw4];exact hs.drew
 have hb:HB H1 w4 [(p1,[(vi 0),(vi 0),(vi 0),(vu 0),ve,Sl.nil.v],28)]:=by rw [hw4];exact hb.drew
 refine qq 0 (vp r1) Kp0 (qg 1 ?_)
 obtain ⟨a2,hp2,h⟩:=h
 refine sxQ Kp1 (jG rfl) rfl (xn hp2) (qq 2 (vp (some (a2.add 1))) Kp2 (qg 3 ?_))
 have ⟨h,hs⟩:=hs.hr (h w4)
 obtain ⟨v2,hv9,h⟩:=h
 refine sxQ Kp3 (jG rfl) rfl (xl (isAgg3 _) hv9) (qq 4 (vp r1) Kp4 (qg 5 ?_))
 obtain ⟨a3,hp3,h⟩:=h
 refine sxQ Kp5 (jG rfl) rfl (xn hp3) (qq 6 (vp (some a3)) Kp6 (qg 7 ?_))
 obtain ⟨v3,hv8,h⟩:=h
 refine sxQ Kp7 (jG rfl) rfl (xl (isAgg9 _) hv8) (qq 8 (vi (v3.size:Int)) Kp8 (qq 9 (vb (decide (v2≥(v3.size:Int)))) Kp9 (wn (jL (cbr h ?_ ?_)))))<;>intro h
 refine eg (q (sc call119 (h.mono fun e w5 ⟨k,hk,h⟩=>have ⟨hs,hb⟩:=hk.hh hs hb;⟨_,k,?_⟩)))
 refine ln (eg (q (zF (jG rfl) (xo p1 [(vi 0),(vi 0),(vi 0),(vu 0),ve,Sl.nil.v] (sizeOf28 _) (hb.k0 0 6 gZ)) ?_)))
 intro w6 hn3
 obtain ⟨hs,hb⟩:=hb.st1 0 hs hn3 gZ
 refine ln (er (zM ?_))
 have ⟨h,hs⟩:=hs.hr (h w6)
 refine uD (.inl rfl) (vs:=[(.agg #[(vi 0),(vi 0),(vi 0),(vu 0),ve,Sl.nil.v])]) (v:=(.agg #[(vi 0),(vi 0),(vi 0),(vu 0),ve,Sl.nil.v])) results65 ⟨(rva (isAgg28 _) (sizeOf28 _) (hb.r0 0 6 gZ)),trivial⟩ (by kernel_rfl) ⟨0,0,0,0,⟨#[]⟩,Sl.nil,rfl,h⟩
 refine jF (jL (jB (zJ (by kernel_rfl) (by kernel_rfl) (by kernel_rfl) (by kernel_rfl) ?_)))
 intro w7 hw7
 have hs:Hst w0 H1 w4 H1 w7:=by rw [hw7];exact hs.drew
 have hb:HB H1 w7 [(p1,[(vi 0),(vi 0),(vi 0),(vu 0),ve,Sl.nil.v],28)]:=by rw [hw7];exact hb.drew
 refine qq 0 (vp r1) Kp0 (qg 1 ?_)
 obtain ⟨a4,hp4,h⟩:=h
 refine sxQ Kp1 (jG rfl) rfl (xn hp4) (qq 2 (vp (some a4)) Kp2 (qg 3 ?_))
 have ⟨h,hs⟩:=hs.hr (h w7)
 obtain ⟨v4,hv7,h⟩:=h
 refine sxQ Kp3 (jG rfl) rfl (xl (isAgg9 _) hv7) (qq 4 (vp r1) Kp4 (qg 5 ?_))
 obtain ⟨a5,hp5,h⟩:=h
 refine sxQ Kp5 (jG rfl) rfl (xn hp5) (qq 6 (vp (some (a5.add 1))) Kp6 (qg 7 ?_))
 obtain ⟨v5,hv6,h⟩:=h
 refine sxQ Kp7 (jG rfl) rfl (xl (isAgg3 _) hv6) (qg 8 ?_)
 obtain ⟨e1,hv5,h⟩:=h
 refine sxQ (v:=(.int .u8 e1)) Kp8 (jG rfl) rfl (zZ (by kernel_rfl) (by kernel_rfl) hv5) (qq 9 (.int .u8 e1) Kp9 (wn (jL (jB (zH (fun ρ wJ=>∃HJ:NP,Hst w0 H1 w7 HJ wJ∧HB HJ wJ [(p1,[(vi 0),(vi 0),(vi 0),(vu 0),ve,Sl.nil.v],28)]∧Has ρ [(0,(vp r1)),(1,(vi deep1)),(4,(vp (some p1))),(5,(.int .u8 e1)),(6,(vb (((((((((e1 == 110) || (e1 == 35)) || (e1 == 107)) || (e1 == 34)) || (e1 == 40)) || (e1 == 104)) || (e1 == 115)) || (e1 == 112)) || (e1 == 102))))]) ?_ ?_)))))
 refine rg (qc (jM 3 (fun ρ wJ=>∃b10'0:Bool,∃HJ:NP,((e1 == 110)=b10'0)∧Hst w0 H1 w7 HJ wJ∧HB HJ wJ [(p1,[(vi 0),(vi 0),(vi 0),(vu 0),ve,Sl.nil.v],28)]∧Has ρ [(0,(vp r1)),(1,(vi deep1)),(4,(vp (some p1))),(5,(.int .u8 e1)),(43,(vb (b10'0 || (e1 == 35))))]) ?_ ?_))
 rintro ρ w17 ⟨b10'0,H11,he0,hs,hb,hH⟩
 subst he0
 refine jR hH (q (jM 3 (fun ρ wJ=>∃b11'0:Bool,∃HJ:NP,(((e1 == 110) || (e1 == 35))=b11'0)∧Hst w0 H1 w7 HJ wJ∧HB HJ wJ [(p1,[(vi 0),(vi 0),(vi 0),(vu 0),ve,Sl.nil.v],28)]∧Has ρ [(0,(vp r1)),(1,(vi deep1)),(4,(vp (some p1))),(5,(.int .u8 e1)),(47,(vb (b11'0 || (e1 == 107))))]) ?_ ?_))
 rintro ρ w18 ⟨b11'0,H12,he0,hs,hb,hH⟩
 subst he0
 refine jR hH (q (jM 3 (fun ρ wJ=>∃b12'0:Bool,∃HJ:NP,((((e1 == 110) || (e1 == 35)) || (e1 == 107))=b12'0)∧Hst w0 H1 w7 HJ wJ∧HB HJ wJ [(p1,[(vi 0),(vi 0),(vi 0),(vu 0),ve,Sl.nil.v],28)]∧Has ρ [(0,(vp r1)),(1,(vi deep1)),(4,(vp (some p1))),(5,(.int .u8 e1)),(51,(vb (b12'0 || (e1 == 34))))]) ?_ ?_))
 rintro ρ w19 ⟨b12'0,H13,he0,hs,hb,hH⟩
 subst he0
 refine jR hH (q (jM 3 (fun ρ wJ=>∃b13'0:Bool,∃HJ:NP,(((((e1 == 110) || (e1 == 35)) || (e1 == 107)) || (e1 == 34))=b13'0)∧Hst w0 H1 w7 HJ wJ∧HB HJ wJ [(p1,[(vi 0),(vi 0),(vi 0),(vu 0),ve,Sl.nil.v],28)]∧Has ρ [(0,(vp r1)),(1,(vi deep1)),(4,(vp (some p1))),(5,(.int .u8 e1)),(55,(vb (b13'0 || (e1 == 40))))]) ?_ ?_))
 rintro ρ w20 ⟨b13'0,H14,he0,hs,hb,hH⟩
 subst he0
 refine jR hH (q (jM 3 (fun ρ wJ=>∃b14'0:Bool,∃HJ:NP,((((((e1 == 110) || (e1 == 35)) || (e1 == 107)) || (e1 == 34)) || (e1 == 40))=b14'0)∧Hst w0 H1 w7 HJ wJ∧HB HJ wJ [(p1,[(vi 0),(vi 0),(vi 0),(vu 0),ve,Sl.nil.v],28)]∧Has ρ [(0,(vp r1)),(1,(vi deep1)),(4,(vp (some p1))),(5,(.int .u8 e1)),(59,(vb (b14'0 || (e1 == 104))))]) ?_ ?_))
 rintro ρ w21 ⟨b14'0,H15,he0,hs,hb,hH⟩
 subst he0
 refine jR hH (q (jM 3 (fun ρ wJ=>∃b15'0:Bool,∃HJ:NP,(((((((e1 == 110) || (e1 == 35)) || (e1 == 107)) || (e1 == 34)) || (e1 == 40)) || (e1 == 104))=b15'0)∧Hst w0 H1 w7 HJ wJ∧HB HJ wJ [(p1,[(vi 0),(vi 0),(vi 0),(vu 0),ve,Sl.nil.v],28)]∧Has ρ [(0,(vp r1)),(1,(vi deep1)),(4,(vp (some p1))),(5,(.int .u8 e1)),(63,(vb (b15'0 || (e1 == 115))))]) ?_ ?_))
 rintro ρ w22 ⟨b15'0,H16,he0,hs,hb,hH⟩
 subst he0
 refine jR hH (q (jM 3 (fun ρ wJ=>∃b16'0:Bool,∃HJ:NP,((((((((e1 == 110) || (e1 == 35)) || (e1 == 107)) || (e1 == 34)) || (e1 == 40)) || (e1 == 104)) || (e1 == 115))=b16'0)∧Hst w0 H1 w7 HJ wJ∧HB HJ wJ [(p1,[(vi 0),(vi 0),(vi 0),(vu 0),ve,Sl.nil.v],28)]∧Has ρ [(0,(vp r1)),(1,(vi deep1)),(4,(vp (some p1))),(5,(.int .u8 e1)),(67,(vb (b16'0 || (e1 == 112))))]) ?_ ?_))
 rintro ρ w23 ⟨b16'0,H17,he0,hs,hb,hH⟩
 subst he0
 refine jR hH (q (jM 3 (fun ρ wJ=>∃b17'0:Bool,∃HJ:NP,(((((((((e1 == 110) || (e1 == 35)) || (e1 == 107)) || (e1 == 34)) || (e1 == 40)) || (e1 == 104)) || (e1 == 115)) || (e1 == 112))=b17'0)∧Hst w0 H1 w7 HJ wJ∧HB HJ wJ [(p1,[(vi 0),(vi 0),(vi 0),(vu 0),ve,Sl.nil.v],28)]∧Has ρ [(0,(vp r1)),(1,(vi deep1)),(4,(vp (some p1))),(5,(.int .u8 e1)),(71,(vb (b17'0 || (e1 == 102))))]) ?_ ?_))
 rintro ρ w24 ⟨b17'0,H18,he0,hs,hb,hH⟩
 subst he0
 refine jR hH (q (ln ⟨_,hs,hb,hm⟩))
 rcases bte ((((((((e1 == 110) || (e1 == 35)) || (e1 == 107)) || (e1 == 34)) || (e1 == 40)) || (e1 == 104)) || (e1 == 115)) || (e1 == 112)) with hg32 | hg32
 refine sj2 68 hg32 (q2 (vb true) (xT hg32) (jC ⟨true,_,hg32,hs,hb,hm⟩))
 refine qk 68 hg32 (qk 68 hg32 (q2 (vb (e1 == 102)) (xF hg32) (jC ⟨false,_,hg32,hs,hb,hm⟩)))
 rcases bte (((((((e1 == 110) || (e1 == 35)) || (e1 == 107)) || (e1 == 34)) || (e1 == 40)) || (e1 == 104)) || (e1 == 115)) with hg30 | hg30
 refine sj2 64 hg30 (q2 (vb true) (xT hg30) (jC ⟨true,_,hg30,hs,hb,hm⟩))
 refine qk 64 hg30 (qk 64 hg30 (q2 (vb (e1 == 112)) (xF hg30) (jC ⟨false,_,hg30,hs,hb,hm⟩)))
 rcases bte ((((((e1 == 110) || (e1 == 35)) || (e1 == 107)) || (e1 == 34)) || (e1 == 40)) || (e1 == 104)) with hg28 | hg28
 refine sj2 60 hg28 (q2 (vb true) (xT hg28) (jC ⟨true,_,hg28,hs,hb,hm⟩))
 refine qk 60 hg28 (qk 60 hg28 (q2 (vb (e1 == 115)) (xF hg28) (jC ⟨false,_,hg28,hs,hb,hm⟩)))
 rcases bte (((((e1 == 110) || (e1 == 35)) || (e1 == 107)) || (e1 == 34)) || (e1 == 40)) with hg26 | hg26
 refine sj2 56 hg26 (q2 (vb true) (xT hg26) (jC ⟨true,_,hg26,hs,hb,hm⟩))
 refine qk 56 hg26 (qk 56 hg26 (q2 (vb (e1 == 104)) (xF hg26) (jC ⟨false,_,hg26,hs,hb,hm⟩)))
 rcases bte ((((e1 == 110) || (e1 == 35)) || (e1 == 107)) || (e1 == 34)) with hg24 | hg24
 refine sj2 52 hg24 (q2 (vb true) (xT hg24) (jC ⟨true,_,hg24,hs,hb,hm⟩))
 refine qk 52 hg24 (qk 52 hg24 (q2 (vb (e1 == 40)) (xF hg24) (jC ⟨false,_,hg24,hs,hb,hm⟩)))
 rcases bte (((e1 == 110) || (e1 == 35)) || (e1 == 107)) with hg22 | hg22
 refine sj2 48 hg22 (q2 (vb true) (xT hg22) (jC ⟨true,_,hg22,hs,hb,hm⟩))
 refine qk 48 hg22 (qk 48 hg22 (q2 (vb (e1 == 34)) (xF hg22) (jC ⟨false,_,hg22,hs,hb,hm⟩)))
 rcases bte ((e1 == 110) || (e1 == 35)) with hg20 | hg20
 refine sj2 44 hg20 (q2 (vb true) (xT hg20) (jC ⟨true,_,hg20,hs,hb,hm⟩))
 refine qk 44 hg20 (qk 44 hg20 (q2 (vb (e1 == 107)) (xF hg20) (jC ⟨false,_,hg20,hs,hb,hm⟩)))
 rcases bte (e1 == 110) with hg18 | hg18
 refine sj2 40 hg18 (q2 (vb true) (xT hg18) (jC ⟨true,_,hg18,hs,hb,hm⟩))
 refine qk 40 hg18 (qk 40 hg18 (q2 (vb (e1 == 35)) (xF hg18) (jC ⟨false,_,hg18,hs,hb,hm⟩)))
 rintro ρ w16 ⟨H10,hs,hb,hH⟩
 refine zA hH (jL (jB (eg (qb (ln (cbr h ?_ ?_))))))<;>intro h
 refine eg (q ?_)
 have ⟨h,hs⟩:=hs.hr (h H10 w16)
 refine sc call119 (h.mono fun e w25 ⟨k,hk,h⟩=>have ⟨hs,hb⟩:=hk.hh hs hb;⟨_,k,?_⟩)
 refine ln (eg (q (zF (jG rfl) (xo p1 [(vi 0),(vi 0),(vi 0),(vu 0),ve,Sl.nil.v] (sizeOf28 _) (hb.k0 0 6 gZ)) ?_)))
 intro w26 hn4
 obtain ⟨hs,hb⟩:=hb.st1 0 hs hn4 gZ
 refine ln (er (zM ?_))
 have ⟨h,hs⟩:=hs.hr (h w26)
 refine uD (.inl rfl) (vs:=[(.agg #[(vi 0),(vi 0),(vi 0),(vu 0),ve,Sl.nil.v])]) (v:=(.agg #[(vi 0),(vi 0),(vi 0),(vu 0),ve,Sl.nil.v])) results65 ⟨(rva (isAgg28 _) (sizeOf28 _) (hb.r0 0 6 gZ)),trivial⟩ (by kernel_rfl) ⟨0,0,0,0,⟨#[]⟩,Sl.nil,rfl,h⟩
 refine jF (jL (jB (jB (zD (fun ρ w=>∃x1,∃H:NP,Has ρ [(0,(vp r1)),(1,(vi deep1)),(4,(vp (some p1))),(5,(.int .u8 e1)),(85,(vb x1))]∧Hst w0 H w H w∧HB H w [(p1,[(vi 0),(vi 0),(vi 0),(vu 0),ve,Sl.nil.v],28)]∧m_H1_j1 r1 deep1 e1 x1 w0 H w K) ?_ ?_))))
 rintro ρ w ⟨x1,H,hH,hs,hb,h⟩
 refine jY hH (cbr h ?_ ?_)<;>intro h
 refine eg (qb (qm h fun a6 h=>q (ql (isAgg3 _) h fun v6 h=>sc call66 (h.mono fun e w27 ⟨k,hk,h⟩=>have ⟨hs,hb⟩:=hk.hh hs hb;⟨_,k,?_⟩))))
 refine ln (eg (q (zF (jG rfl) (xo p1 [(vi 0),(vi 0),(vi 0),(vu 0),ve,Sl.nil.v] (sizeOf28 _) (hb.k0 0 6 gZ)) ?_)))
 intro w28 hn5
 obtain ⟨hs,hb⟩:=hb.st1 0 hs hn5 gZ
 refine ln (er (zM ?_))
 have ⟨h,hs⟩:=hs.hr (h w28)
 refine uD (.inl rfl) (vs:=[(.agg #[(vi 0),(vi 0),(vi 0),(vu 0),ve,Sl.nil.v])]) (v:=(.agg #[(vi 0),(vi 0),(vi 0),(vu 0),ve,Sl.nil.v])) results65 ⟨(rva (isAgg28 _) (sizeOf28 _) (hb.r0 0 6 gZ)),trivial⟩ (by kernel_rfl) ⟨0,0,0,0,⟨#[]⟩,Sl.nil,rfl,h⟩
 refine jF (jL (eg (q (qm h fun a7 h=>q (ql (isAgg3 _) h fun v7 h=>q (qm h fun a8 h=>q (st2 (sizeOf3 _) hs hb h fun w29 hs hb h=>ln (eg (q (qm h fun a9 h=>q (ql (isAgg3 _) h fun v8 h=>q (qm h fun a10 h=>q (st2 (sizeOf3 _) hs hb h fun w30 hs hb h=>ln (eg (qc (sc call120 (h.mono fun e w31 ⟨aB,aC,aD,aE,aF,aG,k,hk,h⟩=>have ⟨hs,hb⟩:=hk.hh hs hb;⟨_,k,?_⟩)))))))))))))))))
 refine nw3 [(vi 0),(vi 0),(vi 0),(vu 0),ve,Sl.nil.v] 28 hs hb (jW (zeroValue28 _) rfl) fun p2 w32 H19 hs hb=>sbx 0 (Aa aB aC aD aE aF aG) (sizeOf28 _) hs hb gZ fun w33 hs hb=>ln (eg (q ?_))
 have ⟨h,hs⟩:=hs.hr (h H19 w33)
 refine sc call118 (h.mono fun e w34 ⟨k,hk,h⟩=>have ⟨hs,hb⟩:=hk.hh hs hb;⟨_,k,?_⟩)
 refine ln (eg (q2 (Ab aB aC aD aE aF aG) (xa p2 (Aa aB aC aD aE aF aG) (isAgg28 _) (sizeOf28 _) (hb.r0 0 6 gZ)) (zF (jG rfl) (xo p1 (Aa aB aC aD aE aF aG) (sizeOf28 _) (hb.k0 1 6 (gS gZ))) ?_)))
 intro w35 hn10
 obtain ⟨hs,hb⟩:=hb.st1 1 hs hn10 (gS gZ)
 refine ln (er ?_)
 have ⟨h,hs⟩:=hs.hr (h w35)
 refine uD (.inl rfl) (vs:=[(Ab aB aC aD aE aF aG)]) (v:=(Ab aB aC aD aE aF aG)) results65 ⟨(rva (isAgg28 _) (sizeOf28 _) (hb.r0 1 6 (gS gZ))),trivial⟩ (by kernel_rfl) ⟨aB,aC,aD,aE,aF,aG,rfl,h⟩
 refine rg (q (qm h fun a11 h=>q ?_))
 have ⟨h,hs⟩:=hs.hr (h H10 w16)
 refine ql (isAgg3 _) h fun v9 h=>qb (jM 3 (fun ρ wJ=>∃b18'0:Bool,∃HJ:NP,((decide (v9≥4096))=b18'0)∧Hst w0 H10 w16 HJ wJ∧HB HJ wJ [(p1,[(vi 0),(vi 0),(vi 0),(vu 0),ve,Sl.nil.v],28)]∧Has ρ [(0,(vp r1)),(1,(vi deep1)),(4,(vp (some p1))),(5,(.int .u8 e1)),(85,(vb (b18'0 || (decide (deep1≥64)))))]) ?_ ?_)
 rintro ρ w36 ⟨b18'0,H20,he0,hs,hb,hH⟩
 subst he0
 refine jR hH (jC ?_)
 have ⟨h,hs⟩:=hs.hr (h H20 w36)
 refine jL ⟨((decide (v9≥4096)) || (decide (deep1≥64))),H20,hm,hs,hb,h⟩
 rcases bte (decide (v9≥4096)) with hg34 | hg34
 refine sj2 82 hg34 (q2 (vb true) (xT hg34) (jC ⟨true,_,hg34,hs,hb,hm⟩))
 refine qk 82 hg34 (qk 82 hg34 (q2 (vb (decide (deep1≥64))) (xF hg34) (jC ⟨false,_,hg34,hs,hb,hm⟩)))
def m_O_j2 (p1 p2:Addr) (aB aC:Int) (aD aE:Int) (aF:ByteArray) (aG:Sl) (H:NP) (w:World) (K:Int→Int→Int→Int→ByteArray→Sl→Int→Int→WP):Prop :=∃v1,w.cell? (p2.add 3)=some (vi v1)∧Br (v1 != 0) (∃C1:WP,C1 w.drew∧∀w7,w7=w.drew→∃v2,(∀w',C1 w'→w'.cell? (p2.add 3)=some (vi v2))∧∃v3,(∀w',C1 w'→w'.cell? (p2.add 4)=some (vi v3))∧(∀j,j<6→kG w7 (p1.add j))∧¬ H p1.block∧∀w8,w8=storeRow w7 p1 [(vi 0),(vi 0),(vi 0),(vu 0),ve,Sl.nil.v]→C1 w8∧∃bW bX bY bZ cA cB,Row w8 p1 (Aa bW bX bY bZ cA cB)∧K bW bX bY bZ cA cB v2 v3 w8) ((∀j,j<6→kG w (p1.add j))∧¬ H p1.block∧∀w9,w9=storeRow w p1 (Aa aB aC aD aE aF aG)→∃cC cD cE cF cG cH,Row w9 p1 (Aa cC cD cE cF cG cH)∧K cC cD cE cF cG cH 0 0 w9)
def m_O_j1 (p1 p2:Addr) (aB aC:Int) (aD aE:Int) (aF:ByteArray) (aG:Sl) (x1:Bool) (H:NP) (w:World) (K:Int→Int→Int→Int→ByteArray→Sl→Int→Int→WP):Prop :=Br x1 (∃v4,w.cell? (p2.add 1)=some (vi v4)∧Calls prog 66 #[(vp (some p2)),(vi 4),(vi v4)] w (fun e w10=>e=.returned (.tuple #[])∧Kept H w w10∧m_O_j2 p1 p2 aB aC aD aE aF aG H w10 K)) (m_O_j2 p1 p2 aB aC aD aE aF aG H w K)
def m_O (text1:ByteArray) (w0:World) (K:Int→Int→Int→Int→ByteArray→Sl→Int→Int→WP):Prop :=∀p1 w1,New w0 (.cells #[(vi 0),(vi 0),(vi 0),(vu 0),ve,Sl.nil.v] 28) p1 w1→Br (decide ((text1.size:Int)>1048576)) ((∀j,j<6→kG w1 (p1.add j))∧¬ None p1.block∧∀w2,w2=storeRow w1 p1 [(vi 0),(vi 0),(vi 0),(vu 0),ve,Sl.nil.v]→∃cI cJ cK cL cM cN,Row w2 p1 (Aa cI cJ cK cL cM cN)∧K cI cJ cK cL cM cN 1 0 w2) (∀p2 w3,New w1 (.cells #[(vs text1),(vi 0),(vi 0),(vi 0),(vi 0)] 109) p2 w3→Calls prog 65 #[(vp (some p2)),(vi 0)] w3 (fun e w4=>∃aB aC aD aE aF aG,e=.returned (Ab aB aC aD aE aF aG)∧Kept None w3 w4∧∀H1 w6,Hst w0 None w4 H1 w6→∃v5,w6.cell? (p2.add 3)=some (vi v5)∧Br (v5 == 0) (∃v6,w6.cell? (p2.add 1)=some (vi v6)∧m_O_j1 p1 p2 aB aC aD aE aF aG (decide (v6<(text1.size:Int))) H1 w6 K) (m_O_j1 p1 p2 aB aC aD aE aF aG false H1 w6 K)))
theorem w_O (text1 w0 K) (h:m_O text1 w0 K):
  Calls prog 21 #[(vs text1)] w0 (fun e w'=>∃aM aN aO aP aQ aR r1 r2,e=.returned (.tuple #[(Ab aM aN aO aP aQ aR),(vi r1),(vi r2)])∧K aM aN aO aP aQ aR r1 r2 w'):=by
 refine cw (args:=[(vs text1)]) func21 ntmps21 ?_
 obtain ⟨hs,hb⟩:=st0 w0
 refine eg (nw2 hs hb h (jW (zeroValue28 _) rfl) fun p1 w1 hs hb h=>qb (ln (jB (eg (qc (ln (cbr h ?_ ?_)))))))<;>intro h
 refine eg (q ?_)
 obtain ⟨hp1,hnh,h⟩:=h
 refine ss (xo p1 [(vi 0),(vi 0),(vi 0),(vu 0),ve,Sl.nil.v] (sizeOf28 _) hp1) ?_
 intro w2 hn1
 have h:=h w2 hn1
 have hk:Kept None w1 w2:=by rw [hn1];exact Kept.storeRow hnh
 obtain ⟨hs,hb⟩:=hk.hh hs hb
 refine qb (ln (er (zM ?_)))
 obtain ⟨cI,cJ,cK,cL,cM,cN,hv1,h⟩:=h
 refine uD (.inl rfl) (vs:=[(Ab cI cJ cK cL cM cN),(vi 1),(vi 0)]) (v:=(.tuple #[(Ab cI cJ cK cL cM cN),(vi 1),(vi 0)])) results21 ⟨(rva (isAgg28 _) (sizeOf28 _) hv1),(rvT (by kernel_rfl)),(rvT (by kernel_rfl)),trivial⟩ (by kernel_rfl) ⟨cI,cJ,cK,cL,cM,cN,1,0,rfl,h⟩
 refine jF (jL (eg (qb (nw2 hs hb h xb fun p2 w3 hs hb h=>q (ln (eg (q (sc call65 (h.mono fun e w4 ⟨aB,aC,aD,aE,aF,aG,k,hk,h⟩=>have ⟨hs,hb⟩:=hk.hh hs hb;⟨_,k,?_⟩)))))))))
 refine nw3 [(vi 0),(vi 0),(vi 0),(vu 0),ve,Sl.nil.v] 28 hs hb (jW (zeroValue28 _) rfl) fun p3 w5 H1 hs hb=>sbx 0 (Aa aB aC aD aE aF aG) (sizeOf28 _) hs hb gZ fun w6 hs hb=>ln (jB (jB (zD (fun ρ w=>∃x1,∃H:NP,Has ρ [(2,(vp (some p1))),(5,(vp (some p2))),(6,(vp (some p3))),(29,(vb x1))]∧Hst w0 H w H w∧HB H w [(p3,(Aa aB aC aD aE aF aG),28)]∧m_O_j1 p1 p2 aB aC aD aE aF aG x1 H w K) ?_ ?_)))
 rintro ρ w ⟨x1,H,hH,hs,hb,h⟩
 refine jY hH (zD (fun ρ w=>∃H:NP,Has ρ [(2,(vp (some p1))),(5,(vp (some p2))),(6,(vp (some p3)))]∧Hst w0 H w H w∧HB H w [(p3,(Aa aB aC aD aE aF aG),28)]∧m_O_j2 p1 p2 aB aC aD aE aF aG H w K) ?_ ?_)
 rintro ρ w ⟨H,hH,hs,hb,h⟩
 refine jY hH (jB (eg (qc (ql (isAgg3 _) h fun v1 h=>q (ln (cbr h ?_ ?_))))))<;>intro h
 refine jB ?_
 obtain ⟨C1,hC,h⟩:=h
 refine dr2 (fun x=>C1 x∧HB H x _) [9] [] ⟨hC,hb.drew⟩ h hs hb fun w7 hs hb h=>?_
 have hs:=hs.here
 refine qx 0 (.agg #[(vi 0),(vi 0),(vi 0),(vu 0),ve,Sl.nil.v]) Kp0 (qx 1 (vp (some p2)) Kp1 (qx 2 (vp (some p2)) Kp2 (qx 3 (vp (some (p2.add 3))) Kp3 (qg 4 ?_))))
 obtain ⟨v2,hv4,h⟩:=h
 refine sy Kp4 (fun _ k=>xl (isAgg3 _) (hv4 _ k.1)) (qx 5 (vp (some p2)) Kp5 (qx 6 (vp (some p2)) Kp6 (qx 7 (vp (some (p2.add 4))) Kp7 (qg 8 ?_))))
 obtain ⟨v3,hv3,h⟩:=h
 refine sy Kp8 (fun _ k=>xl (isAgg3 _) (hv3 _ k.1)) (lg 9 ?_)
 obtain ⟨hp2,hnh,h⟩:=h
 refine jBF Kp9 (jG rfl) (by kernel_rfl) (xo p1 [(vi 0),(vi 0),(vi 0),(vu 0),ve,Sl.nil.v] (sizeOf28 _) hp2) ?_
 intro w8 hn4
 have h:=h w8 hn4
 refine ⟨.inr ⟨h.1,hb.kept (by rw [hn4];exact Kept.storeRow hnh)⟩,?_⟩
 have h:=h.2
 have hk:Kept H w7 w8:=by rw [hn4];exact Kept.storeRow hnh
 obtain ⟨hs,hb⟩:=hk.hh hs hb
 refine qx 10 (vi v2) (jE (S8 (jA (jA jD)))) (qx 11 (vi v3) (jE (S8 (jA (jA (jA jD))))) (wn (jL (er (zM ?_)))))
 obtain ⟨bW,bX,bY,bZ,cA,cB,hv2,h⟩:=h
 refine uD (.inl rfl) (vs:=[(Ab bW bX bY bZ cA cB),(vi v2),(vi v3)]) (v:=(.tuple #[(Ab bW bX bY bZ cA cB),(vi v2),(vi v3)])) results21 ⟨(rva (isAgg28 _) (sizeOf28 _) hv2),(rvT (by kernel_rfl)),(rvT (by kernel_rfl)),trivial⟩ (by kernel_rfl) ⟨bW,bX,bY,bZ,cA,cB,v2,v3,rfl,h⟩
 refine jF (jL (eg (q2 (Ab aB aC aD aE aF aG) (xa p3 (Aa aB aC aD aE aF aG) (isAgg28 _) (sizeOf28 _) (hb.r0 0 6 gZ)) ?_)))
 obtain ⟨hp3,hnh,h⟩:=h
 refine ss (xo p1 (Aa aB aC aD aE aF aG) (sizeOf28 _) hp3) ?_
 intro w9 hn5
 have h:=h w9 hn5
 have hk:Kept H w w9:=by rw [hn5];exact Kept.storeRow hnh
 obtain ⟨hs,hb⟩:=hk.hh hs hb
 refine qb (ln (er ?_))
 obtain ⟨cC,cD,cE,cF,cG,cH,hv5,h⟩:=h
 refine uD (.inl rfl) (vs:=[(Ab cC cD cE cF cG cH),(vi 0),(vi 0)]) (v:=(.tuple #[(Ab cC cD cE cF cG cH),(vi 0),(vi 0)])) results21 ⟨(rva (isAgg28 _) (sizeOf28 _) hv5),(rvT (by kernel_rfl)),(rvT (by kernel_rfl)),trivial⟩ (by kernel_rfl) ⟨cC,cD,cE,cF,cG,cH,0,0,rfl,h⟩
 refine cbr h ?_ ?_<;>intro h
 refine rg (qd (ql (isAgg3 _) h fun v4 h=>sc call66 (h.mono fun e w10 ⟨k,hk,h⟩=>have ⟨hs,hb⟩:=hk.hh hs hb;⟨_,k,?_⟩)))
 refine ln ⟨H,hm,hs,hb,h⟩
 refine jF (jL ⟨H,hm,hs,hb,h⟩)
 refine rg (qc ?_)
 have ⟨h,hs⟩:=hs.hr (h H1 w6)
 refine ql (isAgg3 _) h fun v5 h=>qb ?_
 obtain ⟨hg1,h⟩|⟨hg1,h⟩:=h.br
 refine qk 21 hg1 (qk 21 hg1 (qk 21 hg1 ?_))
 obtain ⟨v6,hv8,h⟩:=h
 refine q4 21 hg1 (xl (isAgg3 _) hv8) (qk 21 hg1 (qk 21 hg1 (qk 21 hg1 (q2 (vb (decide (v6<(text1.size:Int)))) (xT hg1) (ln ⟨(decide (v6<(text1.size:Int))),H1,hm,hs,hb,h⟩)))))
 refine sj2 21 hg1 (sj5 21 hg1 (q2 (vb false) (xF hg1) (ln ⟨false,H1,hm,hs,hb,h⟩)))
end Go.Proofs
end
section
open Go Go.SE
namespace Go.Proofs
open Tryz
attribute [local irreducible] Calls
theorem jAP:∀(m n:Nat),n≤m→n<18446744073709551616→∀w0:World,
  Calls prog 113 #[.int .u64 (n:Int)] w0 (fun e w'=>∃r:ByteArray,e=.returned (.string r)∧r=⟨(Lib.decDigits n).toArray⟩∧w'=w0):=by
 intro m
 induction m with
 | zero =>
  intro n hm hn w0
  refine w_N1 _ w0 (fun r w'=>r=⟨(Lib.decDigits n).toArray⟩∧w'=w0) ?_
  unfold m_N1
  refine ⟨fun h=>?_,fun h=>?_⟩
  ·exact ⟨_,jKW n (by omega) w0,rfl,rfl⟩
  ·have:=of_decide_eq_false h;omega
 | succ m ih =>
  intro n hm hn w0
  refine w_N1 _ w0 (fun r w'=>r=⟨(Lib.decDigits n).toArray⟩∧w'=w0) ?_
  unfold m_N1
  refine ⟨fun h=>?_,fun h=>?_⟩
  ·have h:=of_decide_eq_true h
   exact ⟨_,jKW n (by omega) w0,rfl,rfl⟩
  ·have h:=of_decide_eq_false h
   refine ⟨_,jBJ n hn,?_⟩
   refine (ih (n / 10) (by omega) (by omega) w0).mono ?_
   rintro _ w1 ⟨r1,rfl,rfl,rfl⟩
   refine ⟨_,rfl,_,jHF n,?_⟩
   refine (ih (n % 10) (by omega) (by omega) w1).mono ?_
   rintro _ w2 ⟨r2,rfl,rfl,rfl⟩
   have h1:=nd20 (n:=n / 10) (by omega)
   have h2:=nd20 (n:=n % 10) (by omega)
   refine ⟨_,rfl,_,jLO _ _ (by omega) (by omega),?_,rfl⟩
   have e:Lib.decDigits n=Lib.decDigits (n / 10)++Lib.decDigits (n % 10):=by
    rw [Lib.decDigits,dif_neg (by omega),Lib.decDigits_one (i:=n % 10) (by omega)]
   rw [e]
theorem yX (n:Nat) (hn:n<18446744073709551616) (w0:World):Calls prog 113 #[.int .u64 (n:Int)] w0 (fun e w'=>∃r:ByteArray,e=.returned (.string r)∧r=⟨(Lib.decDigits n).toArray⟩∧w'=w0):=jAP n n (Nat.le_refl _) hn w0
theorem jCT (n:Nat) (h:n<16) (w0:World):Calls prog 156 #[.int .u8 (n:Int)] w0 (fun e w'=>∃r:Int,e=.returned (.int .u8 r)∧(r=((Sp.jAW n).toNat:Int)∧w'=w0)):=by
 refine w_W2 _ w0 (fun r w'=>r=((Sp.jAW n).toNat:Int)∧w'=w0) ?_;unfold m_W2;exact ⟨_,jDU n h w0,rfl,rfl⟩
theorem jHG {P:Program} {t:TypeId} {w:World} (n:Nat) (h:n<256):(Go.binOp .quo t (.int .u8 (n:Int)) (.int .u8 16)).run P w=.ok (.int .u8 ((n / 16:Nat):Int)) w:=by
 have:IntKind.u8.wrap ((n:Int).tdiv 16)=((n / 16:Nat):Int):=by
  rw [Int.tdiv_eq_ediv_of_nonneg (by omega)];simp only [IntKind.wrap,IntKind.bits,IntKind.signed];simp;omega
 show ((pure (Value.int .u8 (IntKind.u8.wrap ((n:Int).tdiv 16))):Sem Value)).run P w=_;rw [this];rfl
theorem jHE {P:Program} {t:TypeId} {w:World} (n:Nat):(Go.binOp .rem t (.int .u8 (n:Int)) (.int .u8 16)).run P w=.ok (.int .u8 ((n % 16:Nat):Int)) w:=by
 have:(n:Int).tmod 16=((n % 16:Nat):Int):=by
  rw [Int.tmod_eq_emod_of_nonneg (by omega)];simp
 simp [Go.binOp,Op.intDiv,this]
theorem jLM {w w1:World} {p:Addr} {c:UInt8} (h:New w (.cells #[.int .u8 (c.toNat:Int)] 5) p w1):Rws w1 5 1 (Sl.mk (some p) 1 1) (byr [c]):=by
 obtain ⟨hp,hw⟩:=id h;refine ⟨by simp [byr],by simp [byr],.inr ⟨w.heap.size,#[.int .u8 (c.toNat:Int)],?_,?_,by simp [byr],by simp [maxLen],by simp,by simp [byr]⟩⟩
 ·show some p=_;rw [hp]
 ·have:=h.block_new;rw [hp] at this;exact this
theorem jCS (x:ByteArray) (w0:World) (hx:x.size≤1000000) :
  Calls prog 114 #[.string x] w0 (fun e w'=>∃r:Sl,e=.returned r.v∧(Rws w' 5 1 r (byr (Sp.jAV (bts x)))∧Pure w0 w'∧∀k,r.blk k→w0.heap.size≤k)):=by
 refine w_K1 _ w0 (fun r w'=>Rws w' 5 1 r (byr (Sp.jAV (bts x)))∧Pure w0 w'∧∀k,r.blk k→w0.heap.size≤k) ?_
 unfold m_K1
 have hbl:=kR x
 intro p1 w1 n1
 have E1:Pure w0 w1:=Ext.new n1
 have hp:=n1.at_size
 have z1:=E1.size
 have A:AppO w1 None w1 (Sl.mk (some p1) 1 1) (Sl.mk (some p1) 1 1) [34]:=AppO.start (jLM (c:=34) n1)
 refine ⟨fun b2 i w=>∃j:Nat,i=j∧j≤(bts x).length∧AppO w1 None w (Sl.mk (some p1) 1 1) b2 (34 :: ((bts x).take j).flatMap Sp.qEsc),fun _ i _=>(((bts x).length:Int) - i).toNat,⟨0,rfl,Nat.zero_le _,by simpa using A⟩,?_⟩
 rintro b2 _ wl ⟨j,rfl,hj,O⟩
 unfold m_K1_l1
 have hlen:((((bts x).take j).flatMap Sp.qEsc)).length≤4000000:=by
  have:=Sp.yB ((bts x).take j);rw [List.length_take] at this;omega
 have step : ∀ {s : Sl} {w : World} (hlt : j < (bts x).length), AppO w1 None w (Sl.mk (some p1) 1 1) s ((34 :: ((bts x).take j).flatMap Sp.qEsc) ++ Sp.qEsc (bts x)[j]) →
   (fun (b2:Sl) (i:Int) (w:World)=>(∃j:Nat,i=j∧j≤(bts x).length∧AppO w1 None w (Sl.mk (some p1) 1 1) b2 (34 :: ((bts x).take j).flatMap Sp.qEsc))∧(fun (_:Sl) i (_:World)=>(((bts x).length:Int) - i).toNat) b2 i w<(fun (_:Sl) i (_:World)=>(((bts x).length:Int) - i).toNat) b2 (j:Int) wl) s (IntKind.i64.wrap ((j:Int)+1)) w:=fun {s w} hlt A=>by
  rw [kX hlt (by omega)]
  refine ⟨⟨j+1,rfl,hlt,?_⟩,gD hlt⟩
  rw [List.take_succ_eq_append_getElem hlt,List.flatMap_append]
  simpa using A
 refine ⟨fun hlt=>?_,fun hlt=>?_⟩
 ·have hlt:j<(bts x).length:=by have:=of_decide_eq_true hlt;omega
  refine ⟨_,yQ x j hlt wl,?_⟩
  generalize hc:(bts x)[j]=c at *
  have hc256:=c.toNat_lt
  refine ⟨fun h1=>?_,fun h1=>⟨fun h2=>?_,fun h2=>?_⟩⟩
  ·have h1:c.toNat=34∨c.toNat=92:=by simp at h1;omega
   intro p2 w6 n6
   obtain ⟨s3,w7,hr7,_,A7⟩:=O.app [92,c] (by simp) (by simp only [List.length_cons,List.length_nil];omega) n6
   refine ⟨s3,w7,hr7,step hlt ?_⟩
   rw [hc,show Sp.qEsc c=[92,c] by unfold Sp.qEsc;rw [if_pos h1]];exact A7
  ·have h1:¬ (c.toNat=34∨c.toNat=92):=by simp at h1;omega
   have h2:¬ (c.toNat<32∨126<c.toNat):=by simp at h2;omega
   intro p3 w10 n10
   obtain ⟨s5,w15,hr15,_,A15⟩:=O.app [c] (by simp) (by simp only [List.length_cons,List.length_nil];omega) n10
   refine ⟨s5,w15,hr15,step hlt ?_⟩
   rw [hc,show Sp.qEsc c=[c] by unfold Sp.qEsc;rw [if_neg h1,if_neg h2]];exact A15
  ·have h1:¬ (c.toNat=34∨c.toNat=92):=by simp at h1;omega
   have h2:c.toNat<32∨126<c.toNat:=by simp at h2;omega
   refine ⟨_,jHG c.toNat hc256,?_⟩
   refine (jCT (c.toNat / 16) (by omega) wl).mono ?_
   rintro _ w12 ⟨r1,rfl,rfl,rfl⟩
   refine ⟨_,rfl,_,jHE c.toNat,?_⟩
   refine (jCT (c.toNat % 16) (by omega) w12).mono ?_
   rintro _ w13 ⟨r2,rfl,rfl,rfl⟩
   refine ⟨_,rfl,?_⟩
   intro p4 w14 n14
   obtain ⟨s4,w15,hr15,_,A15⟩:=O.app [92,120,Sp.jAW (c.toNat / 16),Sp.jAW (c.toNat % 16)] (by simp) (by simp only [List.length_cons,List.length_nil];omega) n14
   refine ⟨s4,w15,hr15,step hlt ?_⟩
   rw [hc,show Sp.qEsc c=[92,120,Sp.jAW (c.toNat / 16),Sp.jAW (c.toNat % 16)] by unfold Sp.qEsc;rw [if_neg h1,if_pos h2]];exact A15
 ·have:j=(bts x).length:=by have:=of_decide_eq_false hlt;omega
  subst this
  rw [List.take_length] at O hlen
  intro p5 w16 n16
  obtain ⟨s6,w17,hr17,_,A17⟩:=O.app [34] (by simp) (by simp only [List.length_cons,List.length_nil];omega) n16
  refine ⟨s6,w17,hr17,by have:=A17.rows;simpa [Sp.jAV] using this,E1.trans' A17.ext (fun b hb hh=>?_),fun k hk=>?_⟩
  ·obtain ⟨q,hq,rfl⟩:=hh
   cases hq;omega
  ·rcases A17.new k hk with ⟨q,hq,rfl⟩ | h
   ·cases hq;omega
   ·omega
theorem AppO.appStr {w0 w:World} {H:NP} {b r:Sl} {acc:List UInt8} (h:AppO w0 H w b r acc) (l:List UInt8) (hl:acc.length+l.length≤200000000) :
  ∃s w2,(Builtin.append_ #[54,9] 54 #[r.v,.string ⟨l.toArray⟩]).run prog w=.ok s.v w2∧Kept H w w2∧AppO w0 H w2 b s (acc++l):=by
 obtain ⟨s,w2,hr,R,X,o⟩:=h.rows.appendStr (P:=prog) (ty:=54) uK underlying9 ⟨l.toArray⟩ (by rw [zG];simp [ByteArray.size];omega) (by rw [zG];simp [ByteArray.size,maxLen];omega)
 obtain ⟨k1,k2⟩:=h.call (r2:=s) (acc2:=acc++l) ⟨by simpa [byr] using R,X,o⟩
 exact ⟨s,w2,hr,k1,k2⟩
abbrev PutC (t:Sp.Tree):Prop:=jIV 60 t
theorem put_j1 {S:NP} {w0 w:World} {H:NP} {b b2 xs:Sl} {acc:List UInt8} {B0:Nat} {A:Sp.Tree} {k f t u:Int} {y:ByteArray} (hA:PutC A) (O:AppO w0 H w b b2 acc) (hbB:∀k,b.blk k→B0≤k) (hB0:B0≤w0.heap.size) (hS:∀k,S k→k<B0) (hlen:acc.length+400*Sp.cnt A≤79999900)
  (hsl:(Sp.shw A).length≤400*Sp.cnt A) (hP:∀w,Ext (fun k=>B0≤k) w0 w→Pow w) (hT:TreeAt S w xs (.mk k f t u y [A])) :
  m_R_j1 xs b2 H w (fun r w'=>AppR w0 b r (acc++Sp.yK [A]) w'):=by
 unfold m_R_j1
 cases hT with
 | mk _ _ _ _ _ _ _ rs len fit row kid =>
 obtain ⟨a1,h1,h2,h3⟩:=row 0 (by simp)
 have k0:=kid 0 (by simp)
 simp only [List.getElem_cons_zero] at h3 k0
 generalize rs 0=sa at *
 obtain ⟨kk,ff,tt,uu,yy,ks⟩:=A
 refine ⟨fun w'=>Row w' a1 (kK (.mk kk ff tt uu yy ks) sa)∧TreeAt S w' sa (.mk kk ff tt uu yy ks),⟨(Ext.drew (F:=None) w).row h3 id,k0.pure (Ext.drew w)⟩,?_⟩
 rintro _ rfl
 refine ⟨a1,h1,kk,ff,tt,uu,yy,sa,fun _ h=>h.1,?_⟩
 exact uC _ (S:=S) (B0:=B0) (A:=.mk kk ff tt uu yy ks) (a1:=a1) 40 (fun w'=>Row w' a1 (kK (.mk kk ff tt uu yy ks) sa)∧TreeAt S w' sa (.mk kk ff tt uu yy ks)) hA (O.pure (Ext.drew w)) hbB hB0 hS hlen hsl hP ⟨(Ext.drew (F:=None) w).row h3 id,k0.pure (Ext.drew w)⟩ (fun _ h=>h.2)
  (fun _ _ h E=>⟨E.row h.1 (fun hh=>by have:=hS _ h2;omega),h.2.ext E (fun b hb hh=>by have:=hS b hb;omega)⟩) (fun r w'=>AppR w0 b r (acc++Sp.yK [.mk kk ff tt uu yy ks]) w') (fun r w' h=>by simpa [Sp.yK,Sp.jDA] using h)
set_option maxHeartbeats 1000000 in
theorem jIN (t:Sp.Tree):Sp.Good t→Sp.NumT t→PutC t:=by
 induction t using Sp.Tree.ind with
 | h k f t u y ks ih =>
  intro hg hn S sl b acc w0 B0 hT hS hB0 hR hbB hlen hP
  obtain ⟨_,_,_,_,_,_,own,kids⟩:=hg
  obtain ⟨_,_,_,_,_,_,hu,hnk⟩:=hn
  have hu:0≤u∧u<18446744073709551616:=hu
  obtain ⟨hy,hk⟩:=Sp.xW own
  have nd:∀n,n<18446744073709551616→(Lib.decDigits n).length≤20:=fun n h=>nd20 h
  have hlens:∀i (hi:i<ks.length),(Sp.shw ks[i]).length≤400*Sp.cnt ks[i]:=fun i hi=>Sp.jHC nd ks[i] (kids i hi) (hnk i hi)
  refine w_R b k f t u y sl w0 (fun r w'=>AppR w0 b r (acc++Sp.shw (.mk k f t u y ks)) w') ?_
  unfold m_R
  have O:=AppO.start hR
  have eB:∀{H:NP} {w:World} {r:Sl} {acc:List UInt8},AppO w0 H w b r acc→Ext (fun k=>B0≤k) w0 w:=fun O=>O.ext.mono (fun k _ hk=>hbB k hk)
  have hacc:acc.length≤79999600:=by have:=Sp.jDZ (.mk k f t u y ks);omega
  unfold Sp.cnt at hlen
  unfold Sp.shw Sp.qI
  have up:∀{H:NP} {w:World} {r:Sl} {acc2:List UInt8},AppO w0 H w b r acc2→TreeAt S w sl (.mk k f t u y ks):=fun O'=>hT.ext (eB O') (fun b hb hh=>by have:=hS b hb;omega)
  have tail:∀{H:NP} {w:World} {r:Sl} {acc2:List UInt8} {A:Sp.Tree},ks=[A]→acc2.length≤acc.length+300→AppO w0 H w b r acc2→m_R_j1 sl r H w (fun r w'=>AppR w0 b r (acc2++Sp.yK ks) w'):=fun {H w r acc2 A} e hl O'=>by
   subst e;simp only [Sp.cntAll] at hlen;have h0:=hlens 0 (by simp);simp only [List.getElem_cons_zero] at h0;exact put_j1 (by have:=ih 0 (by simp) (kids 0 (by simp)) (hnk 0 (by simp));simpa using this) O' hbB hB0 hS (by omega) h0 hP (up O')
  have one:ks.length=1→∃A,ks=[A]:=fun h=>List.length_eq_one_iff.1 h
  have nil0:ks.length=0→ks=[]:=fun h=>List.length_eq_zero_iff.1 h
  obtain ⟨ef,lf⟩:=Sp.uQ f
  obtain ⟨et,lt⟩:=Sp.uQ t
  rw [ef,et]
  have df:=nd _ lf
  have dt:=nd _ lt
  intro H1 w1 hs1
  refine ⟨fun _=>True,trivial,?_⟩
  rintro _ rfl
  refine (yX _ lf w1.drew).mono ?_
  rintro _ w3 ⟨r1,rfl,rfl,rfl⟩
  refine ⟨_,rfl,trivial,(Ext.refl (F:=None) _).keptP,?_⟩
  refine (yX _ lt w1.drew).mono ?_
  rintro _ w4 ⟨r2,rfl,rfl,rfl⟩
  refine ⟨_,rfl,trivial,(Ext.refl (F:=None) _).keptP,?_⟩
  have O1:=(O.hst hs1).pure (Ext.drew w1)
  generalize w1.drew=w4 at *
  rcases hk with ⟨rfl,hl⟩ | ⟨rfl,hl⟩ | ⟨rfl,hl⟩ | ⟨rfl,hl⟩ | ⟨rfl,hl⟩ | ⟨rfl,hl⟩ | ⟨rfl,hl⟩ | ⟨rfl,hl⟩ | ⟨rfl,hl⟩
  ·refine Br.t (by decide) ⟨_,vJ w4 [110] _ (by simp) (by omega),?_⟩
   obtain ⟨s,w5,hr,k5,O5⟩:=O1.appStr (110 :: Lib.decDigits (Sp.u64N f)) (by simp;omega)
   exact ⟨s,w5,hr,k5,by have:=O5.done;rw [nil0 hl];simpa [Sp.yK] using this⟩
  ·refine Br.f (by decide) (Br.t (by decide) ?_)
   obtain ⟨n,rfl⟩:∃n:Nat,u=n:=⟨u.toNat,by omega⟩
   have dn:=nd n (by omega)
   refine (yX n (by omega) w4).mono ?_
   rintro _ w5 ⟨r7,rfl,rfl,rfl⟩
   refine ⟨_,rfl,(Ext.refl (F:=None) _).keptP,_,vJ w5 [35] _ (by simp) (by omega),?_⟩
   obtain ⟨s,w6,hr,k5,O5⟩:=O1.appStr (35 :: Lib.decDigits n) (by simp;omega)
   exact ⟨s,w6,hr,k5,by have:=O5.done;rw [nil0 hl];simpa [Sp.yK] using this⟩
  ·refine Br.f (by decide) (Br.f (by decide) (Br.t (by decide) ?_))
   refine (jCS y w4 (by omega)).mono ?_
   rintro _ w5 ⟨r8,rfl,R8,E5,o8⟩
   have O5:=O1.pure E5
   refine ⟨r8,rfl,E5.keptP,?_⟩
   have hq:(Sp.jAV (bts y)).length≤258:=by
    unfold Sp.jAV;have:=Sp.yB (bts y);have:=kR y;simp only [List.length_cons,List.length_append,List.length_nil];omega
   obtain ⟨s,w6,hr,R,X,o⟩:=O5.rows.appendL (P:=prog) (ty:=54) uK R8.lst (gJ _) (jAR _) (by rw [zG,zG];omega) (by rw [zG,zG];simp [maxLen];omega)
   obtain ⟨k1,k2⟩:=O5.call (r2:=s) (acc2:=acc++Sp.jAV (bts y)) ⟨by simpa [byr] using R,X,o⟩
   exact ⟨s,w6,hr,k1,by have:=k2.done;rw [nil0 hl];simpa [Sp.yK] using this⟩
  ·-- a pair
   obtain ⟨A,B,rfl⟩:∃A B,ks=[A,B]:=by
    match ks,hl with
    | [A,B],_=>exact ⟨A,B,rfl⟩
   refine Br.f (by decide) (Br.f (by decide) (Br.f (by decide) (Br.f (by decide) (Br.t (by decide) ?_))))
   simp only [Sp.cntAll] at hlen
   have T1:=up O1
   have iA:=ih 0 (by simp) (kids 0 (by simp)) (hnk 0 (by simp))
   have iB:=ih 1 (by simp) (kids 1 (by simp)) (hnk 1 (by simp))
   have lA:=hlens 0 (by simp)
   have lB:=hlens 1 (by simp)
   simp only [List.getElem_cons_zero,List.getElem_cons_succ] at iA iB lA lB
   cases T1 with
   | mk _ _ _ _ _ _ _ rs len fit row kid =>
   obtain ⟨a1,p1,p2,p3⟩:=row 0 (by simp)
   obtain ⟨a2,q1,q2,q3⟩:=row 1 (by simp)
   have k0:=kid 0 (by simp)
   have k1:=kid 1 (by simp)
   simp only [List.getElem_cons_zero,List.getElem_cons_succ] at p3 q3 k0 k1
   generalize rs 0=sa at *
   generalize rs 1=sb at *
   obtain ⟨ka,fa,ta,ua,ya,ksa⟩:=A
   obtain ⟨kb,fb,tb,ub,yb,ksb⟩:=B
   have CE:∀w w',(Row w a1 (kK (.mk ka fa ta ua ya ksa) sa)∧TreeAt S w sa (.mk ka fa ta ua ya ksa)∧Row w a2 (kK (.mk kb fb tb ub yb ksb) sb)∧TreeAt S w sb (.mk kb fb tb ub yb ksb))→Ext (fun k=>B0≤k) w w'→(Row w' a1 (kK (.mk ka fa ta ua ya ksa) sa)∧TreeAt S w' sa (.mk ka fa ta ua ya ksa)∧Row w' a2 (kK (.mk kb fb tb ub yb ksb) sb)∧TreeAt S w' sb (.mk kb fb tb ub yb ksb)):=fun w w' h E =>
    ⟨E.row h.1 (fun hh=>by have:=hS _ p2;omega),h.2.1.ext E (fun b hb hh=>by have:=hS b hb;omega),E.row h.2.2.1 (fun hh=>by have:=hS _ q2;omega),h.2.2.2.ext E (fun b hb hh=>by have:=hS b hb;omega)⟩
   have c1:=CE _ _ ⟨p3,k0,q3,k1⟩ (Ext.drew (F:=fun k=>B0≤k) w4)
   refine ⟨fun w=>Row w a1 (kK (.mk ka fa ta ua ya ksa) sa)∧TreeAt S w sa (.mk ka fa ta ua ya ksa)∧Row w a2 (kK (.mk kb fb tb ub yb ksb) sb)∧TreeAt S w sb (.mk kb fb tb ub yb ksb),c1,?_⟩
   rintro _ rfl
   refine ⟨a1,p1,ka,fa,ta,ua,ya,sa,fun _ h=>h.1,?_⟩
   have Od:=O1.pure (Ext.drew w4)
   intro p8 w25 n8
   have E25:Pure w4.drew w25:=Ext.new n8
   refine ⟨CE _ _ c1 E25.pure,?_⟩
   have c25:=CE _ _ c1 E25.pure
   have bB:∀{H:NP} {w:World} {r:Sl} {acc:List UInt8},AppO w0 H w b r acc→∀k,r.blk k→B0≤k:=fun O' k hk=>(O'.new k hk).elim (hbB k) (fun h=>by omega)
   have O25:=Od.pure E25
   obtain ⟨s8,w26,r8,k26,O26,X26,_⟩:=O25.appAt [40] (by simp) (by simp;omega) (Box.of_new n8).row
   have c26:=CE _ _ c25 (X26.mono (fun k _ hk=>bB O25 k hk))
   refine ⟨s8,w26,r8,c26,k26,?_⟩
   refine (iA S sa s8 (acc++[40]) w26 B0 c26.2.1 hS (by have:=O26.ext.size;omega) O26.rows (bB O26) (by simp;omega) (fun w' E=>hP w' ((eB O26).trans E))).mono ?_
   rintro _ w27 ⟨r9,rfl,hA9⟩
   obtain ⟨k27,O27⟩:=O26.call hA9
   have c27:=CE _ _ c26 (hA9.ext.mono (fun k _ hk=>bB O26 k hk))
   refine ⟨r9,rfl,c27,k27,?_⟩
   have c28:=CE _ _ c27 (Ext.drew (F:=fun k=>B0≤k) w27)
   refine ⟨fun w=>Row w a1 (kK (.mk ka fa ta ua ya ksa) sa)∧TreeAt S w sa (.mk ka fa ta ua ya ksa)∧Row w a2 (kK (.mk kb fb tb ub yb ksb) sb)∧TreeAt S w sb (.mk kb fb tb ub yb ksb),c28,?_⟩
   rintro _ rfl
   refine ⟨a2,q1,kb,fb,tb,ub,yb,sb,fun _ h=>h.2.2.1,?_⟩
   exact uC _ (S:=S) (B0:=B0) (A:=.mk kb fb tb ub yb ksb) (a1:=a2) 32 (fun w=>Row w a1 (kK (.mk ka fa ta ua ya ksa) sa)∧TreeAt S w sa (.mk ka fa ta ua ya ksa)∧Row w a2 (kK (.mk kb fb tb ub yb ksb) sb)∧TreeAt S w sb (.mk kb fb tb ub yb ksb)) iB (O27.pure (Ext.drew w27)) hbB hB0 hS (by simp;omega) lB hP c28 (fun _ h=>h.2.2.2) CE _ (fun r w' h=>by simpa [Sp.yK,Sp.jDA] using h)
  ·obtain ⟨A,rfl⟩:=one hl
   refine Br.f (by decide) (Br.f (by decide) (Br.f (by decide) (Br.f (by decide) (Br.f (by decide) (Br.t (by decide) ?_)))))
   intro p15 w46 n15
   obtain ⟨s16,w47,r16,k47,O47⟩:=O1.app [104] (by simp) (by simp;omega) n15
   refine ⟨s16,w47,r16,k47,?_⟩
   have:=tail rfl (by simp) O47
   simpa using this
  ·refine Br.f (by decide) (Br.f (by decide) (Br.f (by decide) (Br.t (by decide) ⟨_,vJ w4 [107] _ (by simp) (by omega),?_⟩)))
   obtain ⟨s,w5,hr,k5,O5⟩:=O1.appStr (107 :: Lib.decDigits (Sp.u64N f)) (by simp;omega)
   exact ⟨s,w5,hr,k5,by have:=O5.done;rw [nil0 hl];simpa [Sp.yK] using this⟩
  ·obtain ⟨A,rfl⟩:=one hl
   refine Br.f (by decide) (Br.f (by decide) (Br.f (by decide) (Br.f (by decide) (Br.f (by decide) (Br.f (by decide) (Br.t (by decide) ⟨_,vJ w4 [115] _ (by simp) (by omega),?_⟩))))))
   obtain ⟨s,w5,hr,k5,O5⟩:=O1.appStr (115 :: Lib.decDigits (Sp.u64N f)) (by simp;omega)
   refine ⟨s,w5,hr,k5,?_⟩
   have:=tail rfl (by simp;omega) O5
   simpa using this
  ·obtain ⟨A,rfl⟩:=one hl
   refine Br.f (by decide) (Br.f (by decide) (Br.f (by decide) (Br.f (by decide) (Br.f (by decide) (Br.f (by decide) (Br.f (by decide) (Br.t (by decide) ?_)))))))
   refine ⟨_,vJ w4 [112] (Lib.decDigits (Sp.u64N f)) (by simp) (by omega),_,vJ w4 ([112]++Lib.decDigits (Sp.u64N f)) [62] (by simp;omega) (by simp),_,vJ w4 ([112]++Lib.decDigits (Sp.u64N f)++[62]) (Lib.decDigits (Sp.u64N t)) (by simp;omega) (by omega),?_⟩
   obtain ⟨s,w5,hr,k5,O5⟩:=O1.appStr ([112]++Lib.decDigits (Sp.u64N f)++[62]++Lib.decDigits (Sp.u64N t)) (by simp;omega)
   refine ⟨s,w5,hr,k5,?_⟩
   have:=tail rfl (by simp;omega) O5
   simpa using this
  ·obtain ⟨A,rfl⟩:=one hl
   refine Br.f (by decide) (Br.f (by decide) (Br.f (by decide) (Br.f (by decide) (Br.f (by decide) (Br.f (by decide) (Br.f (by decide) (Br.f (by decide) ?_)))))))
   refine ⟨_,vJ w4 [102] (Lib.decDigits (Sp.u64N f)) (by simp) (by omega),_,vJ w4 ([102]++Lib.decDigits (Sp.u64N f)) [62] (by simp;omega) (by simp),_,vJ w4 ([102]++Lib.decDigits (Sp.u64N f)++[62]) (Lib.decDigits (Sp.u64N t)) (by simp;omega) (by omega),?_⟩
   obtain ⟨s,w5,hr,k5,O5⟩:=O1.appStr ([102]++Lib.decDigits (Sp.u64N f)++[62]++Lib.decDigits (Sp.u64N t)) (by simp;omega)
   refine ⟨s,w5,hr,k5,?_⟩
   have:=tail rfl (by simp;omega) O5
   simpa using this
def _root_.Go.Sp.showR (t:Sp.Tree):List UInt8×Int:=if (Sp.looks 0 0 t).1≠0 then ([],(Sp.looks 0 0 t).1) else (Sp.shw t,0)
theorem tQ {S:NP} (t:Sp.Tree) (s:Sl) (w0:World) (hT:TreeAt S w0 s t) (hS:∀b,S b→b<w0.heap.size) (hn:Sp.NumT t) (hc:Sp.cnt t≤100000) (ht:Pow w0) :
  Calls prog 16 #[.agg (kK t s).toArray] w0 (fun e w'=>∃r:ByteArray,∃er:Int,e=.returned (.tuple #[.string r,.int .i64 er])∧((r=⟨(Sp.showR t).1.toArray⟩∧er=(Sp.showR t).2)∧Pure w0 w')):=by
 obtain ⟨k,f,to,u,x,ks⟩:=t
 refine w_X2 k f to u x s w0 (fun r er w'=>(r=⟨(Sp.showR (.mk k f to u x ks)).1.toArray⟩∧er=(Sp.showR (.mk k f to u x ks)).2)∧Pure w0 w') ?_
 unfold m_X2
 intro H1 w1 hs1
 have E1:=hs1.first
 refine (gG (S:=S) (.mk k f to u x ks) s w1 (hT.pure E1) (fun b hb=>by have:=hS b hb;have:=E1.size;omega)).mono ?_
 rintro _ w2 ⟨r,rfl,rfl,E2⟩
 have E02:=E1.trans E2
 refine ⟨_,rfl,E2.keptP,?_⟩
 unfold Sp.showR
 refine ⟨fun h=>?_,fun h=>?_⟩
 ·rw [if_pos (by simpa using h)]
  exact ⟨⟨rfl,rfl⟩,E02⟩
 ·have h0:(Sp.looks 0 0 (.mk k f to u x ks)).1=0:=by simpa using h
  rw [if_neg (by simpa using h0)]
  have hnil:∀b,¬ Sl.nil.blk b:=fun b hb=>by obtain ⟨a,h,_⟩:=hb;cases h
  refine (jIN (.mk k f to u x ks) (Sp.yF _ 0 0 h0) hn S s Sl.nil [] w2 w0.heap.size (hT.pure E02) hS E02.size (Rws.nil _ _ _) (fun b hb=>(hnil b hb).elim) (by simp;omega) (fun w E=>jDO ht (E02.pure.trans E))).mono ?_
  rintro _ w3 ⟨r,rfl,hA⟩
  refine ⟨r,rfl,hA.ext.kept (fun b hb hh=>(hnil b hh).elim),?_⟩
  exact ⟨_,gT (P:=prog) underlying54 underlying5 underlying9 hA.rows.lst,⟨by simp,rfl⟩,xV E02 hA.ext (fun b hb=>(hnil b hb).elim)⟩
end Go.Proofs
end
section
open Go Go.SE
namespace Go.Sp
open Go.Proofs
end Go.Sp
end
section
open Go Go.SE
namespace Go.Proofs
open Tryz
attribute [local irreducible] Calls
abbrev Rdr (w:World) (a:Addr) (x:ByteArray) (i n:Nat) (e k:Int):Prop:=Box w a [.string x,.int .i64 (i:Int),.int .i64 (n:Int),.int .i64 e,.int .i64 k] 109
def RSt (w:World) (a:Addr) (x:ByteArray):(Sp.Rr Nat)→Prop
 | .ok n i=>Rdr w a x i n 0 0∧i≤(bts x).length∧n≤4096
 | .no er k=>er≠0∧∃i n:Nat,i≤(bts x).length∧Rdr w a x i n er (k:Int)
section
variable {w w':World} {a:Addr} {x:ByteArray} {i n:Nat} {e k:Int} {q:Sp.Rr Nat}
theorem zL (h:Rdr w a x i n e k):w.cell? (a.add 1)=some (.int .i64 (i:Int)):=h.cell (i:=1) rfl
theorem rdr_n (h:Rdr w a x i n e k):w.cell? (a.add 2)=some (.int .i64 (n:Int)):=h.cell (i:=2) rfl
theorem vT (h:Rdr w a x i n e k):w.cell? (a.add 3)=some (.int .i64 e):=h.cell (i:=3) rfl
theorem rdr_k (h:Rdr w a x i n e k):w.cell? (a.add 4)=some (.int .i64 k):=h.cell (i:=4) rfl
theorem vA (h:Rdr w a x i n e k) (j:Nat):Rdr (w.setCell (a.add 1) (.int .i64 (j:Int))) a x j n e k:=h.set 1 _
theorem jJH (h:Rdr w a x i n e k) (m:Nat):Rdr (w.setCell (a.add 2) (.int .i64 (m:Int))) a x i m e k:=h.set 2 _
theorem RSt.ext {F:NP} (h:RSt w a x q) (E:Ext F w w') (hf:¬ F a.block):RSt w' a x q:=by
 cases q with
 | ok n i=>exact ⟨h.1.ext E hf,h.2⟩
 | no er k=>obtain ⟨h0,i,n,hi,h⟩:=h;exact ⟨h0,i,n,hi,h.ext E hf⟩
theorem RSt.pure (h:RSt w a x q) (E:Pure w w'):RSt w' a x q:=h.ext E id
theorem RSt.lt (h:RSt w a x q):a.block<w.heap.size:=by
 cases q with
 | ok n i=>exact h.1.lt
 | no er k=>obtain ⟨_,_,_,_,h⟩:=h;exact h.lt
end
structure DS (w0 w:World) (H:NP) (a:Addr) (x:ByteArray) (q:Sp.Rr Nat):Prop where
 st:RSt w a x q
 ext:Ext (·=a.block) w0 w
 la:a.block<w0.heap.size
 oH:∀b,H b→w0.heap.size≤b∧b<w.heap.size
 few:(bts x).length≤10000000
section
variable {w0 w w':World} {H H':NP} {a:Addr} {x:ByteArray} {q q':Sp.Rr Nat}
theorem DS.start (h:RSt w0 a x q) (hc:(bts x).length≤10000000):DS w0 w0 None a x q:=⟨h,Ext.refl _,h.lt,fun b hb=>hb.elim,hc⟩
theorem DS.nH (h:DS w0 w H a x q):¬ H a.block:=fun hh=>by have:=(h.oH _ hh).1;have:=h.la;omega
theorem DS.hst (h:DS w0 w H a x q) (hs:Hst w0 H w H' w'):DS w0 w' H' a x q :=
 ⟨h.st.ext hs.ext (fun hh=>by have:=hs.here.old _ hh;have:=h.la;omega),h.ext.trans' hs.ext (fun b hb hh=>by have:=hs.here.old b hh;omega),h.la,fun b hb=>⟨hs.here.old b hb,hs.here.lt b hb⟩,h.few⟩
theorem DS.to (h:DS w0 w H a x q) (hr:RSt w' a x q') (E:Ext (·=a.block) w w'):Kept H w w'∧DS w0 w' H a x q' :=
 ⟨E.kept (fun b hb e=>h.nH (e▸hb)),hr,h.ext.trans E,h.la,fun b hb=>⟨(h.oH b hb).1,by have:=(h.oH b hb).2;have:=E.size;omega⟩,h.few⟩
end
theorem vV (a:Addr) (x:ByteArray) (e:Int) (k:Nat) (he:e≠0) (q:Sp.Rr Nat) (w0:World) (h:RSt w0 a x q) :
  Calls prog 66 #[.pointer (some a),.int .i64 e,.int .i64 (k:Int)] w0 (fun r w'=>r=.returned (.tuple #[])∧(RSt w' a x (q.bind fun _ _=>.no e k)∧Ext (·=a.block) w0 w')):=by
 refine w_Y2 (some a) e k w0 (fun w'=>RSt w' a x (q.bind fun _ _=>.no e k)∧Ext (·=a.block) w0 w') ?_
 unfold m_Y2
 cases q with
 | ok n i =>
  obtain ⟨h1,h2,h3⟩:=h
  refine ⟨a,rfl,_,vT h1,Br.t rfl ⟨a,rfl,h1.canW (i:=3) (by simp),?_⟩⟩
  rintro w1 rfl
  have B1:Rdr (w0.setCell (a.add 3) (.int .i64 e)) a x i n e 0:=h1.set 3 _
  refine ⟨a,rfl,B1.canW (i:=4) (by simp),?_⟩
  rintro w2 rfl
  exact ⟨⟨he,i,n,h2,B1.set 4 _⟩,vE.trans vE⟩
 | no er m =>
  obtain ⟨h0,i,n,hi,h1⟩:=h
  exact ⟨a,rfl,_,vT h1,Br.f (by simpa using h0) ⟨⟨h0,i,n,hi,h1⟩,Ext.refl _⟩⟩
theorem uW (a:Addr) (x:ByteArray) (i n:Nat) (w0:World) (h:RSt w0 a x (.ok n i)) :
  Calls prog 119 #[.pointer (some a)] w0 (fun r w'=>r=.returned (.tuple #[])∧(RSt w' a x (.no (if i=(bts x).length then 3 else 60) i)∧Ext (·=a.block) w0 w')):=by
 refine w_Z2 (some a) w0 (fun w'=>RSt w' a x (.no (if i=(bts x).length then 3 else 60) i)∧Ext (·=a.block) w0 w') ?_
 unfold m_Z2
 have hl:=kR x
 obtain ⟨h1,h2,h3⟩:=h
 refine ⟨a,rfl,fun w1 hs1=>?_⟩
 have E1:=hs1.first
 have r1:=h1.pure E1
 refine ⟨_,zL r1,a,rfl,_,r1.cell0,fun hc=>⟨a,rfl,_,r1.cell0,?_⟩,fun hc=>⟨a,rfl,_,zL r1,?_⟩⟩
 ·have hi:i=(bts x).length:=by have:=of_decide_eq_true hc;omega
  rw [if_pos hi,show (x.size:Int)=((i:Nat):Int) by omega]
  refine (vV a x 3 i (by decide) (.ok n i) w1 ⟨r1,h2,h3⟩).mono ?_
  rintro _ w2 ⟨rfl,h5,E⟩
  exact ⟨rfl,E.kept (fun b hb=>hb.elim),h5,E1.pure.trans E⟩
 ·have hi:i≠(bts x).length:=by have:=of_decide_eq_false hc;omega
  rw [if_neg hi]
  refine (vV a x 60 i (by decide) (.ok n i) w1 ⟨r1,h2,h3⟩).mono ?_
  rintro _ w2 ⟨rfl,h5,E⟩
  exact ⟨rfl,E.kept (fun b hb=>hb.elim),h5,E1.pure.trans E⟩
theorem tR (a:Addr) (x:ByteArray) (i n:Nat) (er k:Int) (w0:World) (h:Rdr w0 a x i n er k) (hi:i≤(bts x).length) (hc:(bts x).length≤10000000) :
  Calls prog 118 #[.pointer (some a)] w0 (fun e w'=>e=.returned (.tuple #[])∧Rdr w' a x (Sp.jU (bts x) i) n er k∧Ext (·=a.block) w0 w'):=by
 refine w_L1 (some a) w0 (fun w'=>Rdr w' a x (Sp.jU (bts x) i) n er k∧Ext (·=a.block) w0 w') ?_
 unfold m_L1
 have hl:=kR x
 have hbb:=Sp.kU hi
 refine ⟨fun _ w=>∃j:Nat,i≤j∧j≤(bts x).length∧Sp.jU (bts x) j=Sp.jU (bts x) i∧Rdr w a x j n er k∧Ext (·=a.block) w0 w,fun w=>match w.cell? (a.add 1) with | some (.int _ k)=>((bts x).length - k.toNat) | _=>0,⟨i,Nat.le_refl _,hi,rfl,h,Ext.refl _⟩,?_⟩
 rintro Hl wl hsl ⟨j,hij,hj,he,hR,hE⟩
 unfold m_L1_l1
 refine ⟨a,rfl,fun w1 hs1=>?_⟩
 have hna:¬ Hl a.block:=fun hb=>by have:=hsl.old _ hb;have:=h.lt;omega
 have hR1:=hR.ext hs1.ext hna
 have hE1:=hE.trans' hs1.ext (fun b hb hh=>by have:=hsl.old _ hh;omega)
 have done:Sp.jU (bts x) j=j→Rdr w1 a x (Sp.jU (bts x) i) n er k∧Ext (·=a.block) w0 w1:=fun e=>by
  rw [← he,e];exact ⟨hR1,hE1⟩
 refine ⟨_,zL hR1,a,rfl,x,hR1.cell0,fun hc=>?_,fun hc=>done (Sp.qG (by have:=of_decide_eq_false hc;omega))⟩
 have hlt:j<(bts x).length:=by have:=of_decide_eq_true hc;omega
 refine ⟨a,rfl,x,hR1.cell0,a,rfl,_,zL hR1,_,yQ x j hlt w1,fun hb=>?_,fun hb=>done (Sp.xC hlt (by have:=beq_eq_false_iff_ne.1 hb;omega))⟩
 have hb:(bts x)[j].toNat=32:=by have:=beq_iff_eq.1 hb;omega
 refine ⟨a,rfl,_,zL hR1,a,rfl,hR1.canW (i:=1) (by simp),?_,?_⟩
 ·exact hna
 ·rintro w2 rfl
  rw [kH (show j≤(bts x).length by omega) (by omega)]
  refine ⟨⟨j+1,by omega,hlt,by rw [← he,Sp.xD hlt hb],vA hR1 (j+1),hE1.trans vE⟩,?_⟩
  show (match (w1.setCell (a.add 1) (.int .i64 ((j+1:Nat):Int))).cell? (a.add 1) with | some (.int _ k)=>((bts x).length - k.toNat) | _=>0)<(match wl.cell? (a.add 1) with | some (.int _ k)=>((bts x).length - k.toNat) | _=>0)
  rw [zL (vA hR1 (j+1)),zL hR]
  simp only
  omega
section
variable (a:Addr) (x:ByteArray) (q:Sp.Rr Nat) (w0:World) (h:RSt w0 a x q) (hc:(bts x).length≤10000000)
include h hc
theorem jCV:Calls prog 118 #[.pointer (some a)] w0 (fun e w'=>e=.returned (.tuple #[])∧RSt w' a x (q.bind fun n i=>.ok n (Sp.jU (bts x) i))∧Ext (·=a.block) w0 w'):=by
 cases q with
 | ok n i =>
  refine (tR a x i n 0 0 w0 h.1 h.2.1 hc).mono ?_
  rintro _ w' ⟨rfl,h1,E⟩
  exact ⟨rfl,⟨h1,(Sp.kU h.2.1).2,h.2.2⟩,E⟩
 | no er k =>
  obtain ⟨h0,i,n,hi,h⟩:=h
  refine (tR a x i n er k w0 h hi hc).mono ?_
  rintro _ w' ⟨rfl,h1,E⟩
  exact ⟨rfl,⟨h0,_,_,(Sp.kU hi).2,h1⟩,E⟩
theorem xY (c:Nat):Calls prog 161 #[.pointer (some a),.int .u8 (c:Int)] w0 (fun e w'=>e=.returned (.tuple #[])∧(RSt w' a x (q.bind fun n i=>(Sp.kA (bts x) c i).bind fun _ j=>.ok n j)∧Ext (·=a.block) w0 w')):=by
 refine w_T (some a) c w0 (fun w'=>RSt w' a x (q.bind fun n i=>(Sp.kA (bts x) c i).bind fun _ j=>.ok n j)∧Ext (·=a.block) w0 w') ?_;unfold m_T;have hl:=kR x;cases q with
 | no er k =>
  obtain ⟨h0,i,n,hi,h1⟩:=h
  exact ⟨a,rfl,_,vT h1,Br.t (by simpa using h0) ⟨⟨h0,i,n,hi,h1⟩,Ext.refl _⟩⟩
 | ok n i =>
  obtain ⟨h1,h2,h3⟩:=h
  refine ⟨a,rfl,_,vT h1,Br.f rfl ⟨a,rfl,fun w3 hs3=>?_⟩⟩
  have E3:=hs3.first
  have r3:=h1.pure E3
  have word:∀{R:Sp.Rr Unit},R=.no (if i=(bts x).length then 3 else 60) i→m_T_j1 (some a) false None w3 (fun w'=>RSt w' a x (R.bind fun _ j=>.ok n j)∧Ext (·=a.block) w0 w'):=fun e=>by
   subst e;unfold m_T_j1;refine Br.f rfl ?_;refine (uW a x i n w3 ⟨r3,h2,h3⟩).mono ?_;rintro _ w4 ⟨rfl,h4,E4⟩;exact ⟨rfl,E4.kept (fun b hb=>hb.elim),h4,E3.pure.trans E4⟩
  refine ⟨_,zL r3,a,rfl,_,r3.cell0,fun hlt=>?_,fun hlt=>word ?_⟩
  ·have hlt:i<(bts x).length:=by have:=of_decide_eq_true hlt;omega
   refine ⟨a,rfl,_,r3.cell0,a,rfl,_,zL r3,_,yQ x i hlt w3,?_⟩
   have hg:=List.getElem?_eq_getElem hlt
   by_cases hcc:(bts x)[i].toNat=c
   ·have hb:(((bts x)[i].toNat:Int) == (c:Int))=true:=by rw [hcc];simp
    rw [hb]
    unfold m_T_j1
    refine Br.t rfl ⟨a,rfl,_,zL r3,a,rfl,r3.canW (i:=1) (by simp),fun hh=>hh.elim,?_⟩
    rintro w4 rfl
    rw [kH (show i≤(bts x).length by omega) (by omega)]
    have hT:Sp.kA (bts x) c i=.ok () (i+1):=by
     unfold Sp.kA;rw [hg];simp only;rw [if_pos hcc]
    show RSt _ a x ((Sp.kA (bts x) c i).bind fun _ j=>.ok n j)∧_
    rw [hT]
    exact ⟨⟨vA r3 (i+1),hlt,h3⟩,E3.pure.trans vE⟩
   ·have hb:(((bts x)[i].toNat:Int) == (c:Int))=false:=beq_eq_false_iff_ne.2 (by omega)
    rw [hb]
    refine word ?_
    unfold Sp.kA
    rw [hg]
    simp only
    rw [if_neg hcc,if_neg (by omega)]
  ·have hi:i=(bts x).length:=by have:=of_decide_eq_false hlt;omega
   unfold Sp.kA
   rw [List.getElem?_eq_none (by omega),if_pos hi]
end
theorem jLJ (c k:Nat) (h:k≤c) (hc:c<256):IntKind.u8.wrap ((c:Int) - (k:Int))=((c - k:Nat):Int):=by
 rw [show (c:Int) - (k:Int)=((c - k:Nat):Int) by omega];simp [IntKind.wrap,IntKind.bits,IntKind.signed];omega
abbrev NumK (w0:World) (a:Addr) (x:ByteArray) (q:Sp.Rr Nat) (m f:Int) (w':World):Prop :=
 RSt w' a x (q.bind fun n i=>(Sp.qQ (bts x) i).bind fun _ j=>.ok n j)∧Ext (·=a.block) w0 w'∧∀n i,q=.ok n i→f=(i:Int)∧∀v j,Sp.qQ (bts x) i=.ok v j→m=(v:Int)
theorem jLX {w0 w':World} {a:Addr} {x:ByteArray} {n i:Nat} {m:Int} {R:Sp.Rr Nat} (e:Sp.qQ (bts x) i=R) (h:RSt w' a x (R.bind fun _ j=>.ok n j)) (E:Ext (·=a.block) w0 w') (hm:∀v j,R=.ok v j→m=(v:Int)):NumK w0 a x (.ok n i) m (i:Int) w':=by
 refine ⟨?_,E,?_⟩
 ·show RSt w' a x ((Sp.qQ (bts x) i).bind fun _ j=>.ok n j);rw [e];exact h
 ·intro n' i' e';cases e';exact ⟨rfl,fun v j ev=>hm v j (by rw [← e];exact ev)⟩
theorem num_j1 {w0 w:World} {H:NP} {a:Addr} {x:ByteArray} {n i j:Nat} {wide:Bool} (hi:i≤(bts x).length) (hn:n≤4096) (hc:(bts x).length≤10000000) (hij:i≤j) (hj:j≤(bts x).length) (hP:(Sp.zB (bts x) i).length=j - i) (hw:wide=decide (18446744073709551616≤Sp.decV (Sp.zB (bts x) i)))
  (hR:Rdr w a x j n 0 0) (E:Ext (·=a.block) w0 w) (hna:¬ H a.block) :
  m_J_j1 (some a) (i:Int) ((Sp.decV (Sp.zB (bts x) i) % 18446744073709551616:Nat):Int) wide H w (fun m f w'=>NumK w0 a x (.ok n i) m f w'):=by
 unfold m_J_j1
 have st:RSt w a x (.ok n j):=⟨hR,hj,hn⟩
 refine ⟨a,rfl,_,zL hR,fun h=>?_,fun h=>?_⟩
 ·have hji:j=i:=by have:=beq_iff_eq.1 h;omega
  subst hji
  have h0:Sp.zB (bts x) j=[]:=List.length_eq_zero_iff.1 (by omega)
  refine (uW a x j n w st).mono ?_
  rintro _ w1 ⟨rfl,h1,E1⟩
  refine ⟨rfl,E1.kept (fun b hb e=>hna (e▸hb)),jLX (R:=.no (if j=(bts x).length then 3 else 60) j) ?_ h1 (E.trans E1) (fun _ _ h=>by cases h)⟩
  unfold Sp.qQ
  by_cases hlt:j<(bts x).length
  ·rw [List.getElem?_eq_getElem hlt]
   simp only
   have hd:Sp.isDig (bts x)[j]=false:=by
    cases hd:Sp.isDig (bts x)[j] with
    | false=>rfl
    | true=>rw [Sp.qF hlt hd] at h0;cases h0
   rw [if_pos hd,if_neg (show ¬ j=(bts x).length by omega)]
  ·rw [List.getElem?_eq_none (by omega)]
   simp only
   rw [if_pos (show j=(bts x).length by omega)]
 ·have hji:i<j:=by have:=beq_eq_false_iff_ne.1 h;omega
  have hlt:i<(bts x).length:=by omega
  have hd:Sp.isDig (bts x)[i]=true:=by
   cases hd:Sp.isDig (bts x)[i] with
   | true=>rfl
   | false=>rw [Sp.uR hlt hd] at hP;simp at hP;omega
  have hs:=Sp.qF hlt hd
  have spn:∀b,Sp.yH (Sp.zB (bts x) i)=b→Sp.qQ (bts x) i=if b=true then .no 61 i else .ok (Sp.decV (Sp.zB (bts x) i)) j:=fun b hb=>by
   unfold Sp.qQ;rw [List.getElem?_eq_getElem hlt];simp only;rw [if_neg (by rw [hd];decide),hb,show i+(Sp.zB (bts x) i).length=j by omega]
  have hbad:Sp.yH (Sp.zB (bts x) i)=(wide || (decide (1<j - i) && decide ((bts x)[i]=48))):=by
   unfold Sp.yH;rw [← hw,hP,hs,List.head?_cons];congr 2
  have bad:∀{w':World} {m:Int},Sp.yH (Sp.zB (bts x) i)=true→RSt w' a x (.no 61 i)→Ext (·=a.block) w w'→NumK w0 a x (.ok n i) m (i:Int) w':=fun {w' m} hb h1 E1=>jLX (R:=.no 61 i) (by rw [spn _ hb,if_pos rfl]) h1 (E.trans E1) (fun _ _ h=>by cases h)
  have good:Sp.yH (Sp.zB (bts x) i)=false→NumK w0 a x (.ok n i) ((Sp.decV (Sp.zB (bts x) i) % 18446744073709551616:Nat):Int) (i:Int) w:=fun hb=>jLX (R:=.ok (Sp.decV (Sp.zB (bts x) i)) j) (by rw [spn _ hb,if_neg (by simp)]) st E (fun v j' h=>by
   cases h;have:Sp.decV (Sp.zB (bts x) i)<18446744073709551616:=by
    have:wide=false:=by rw [hbad] at hb;cases wide <;> simp_all
    rw [hw] at this;have:=of_decide_eq_false this;omega
   omega)
  refine ⟨fun hwd=>?_,fun hwd=>⟨a,rfl,_,hR.cell0,_,yQ x i hlt w,fun h48=>⟨a,rfl,_,zL hR,fun h2=>?_,fun h2=>?_⟩,fun h48=>?_⟩⟩
  ·refine (vV a x 61 i (by decide) (.ok n j) w st).mono ?_
   rintro _ w1 ⟨rfl,h1,E1⟩
   exact ⟨rfl,E1.kept (fun b hb e=>hna (e▸hb)),bad (by rw [hbad,hwd];rfl) h1 E1⟩
  ·rw [kH (show i≤(bts x).length by omega) (by omega)] at h2
   have h2:=of_decide_eq_true h2
   have h48:(bts x)[i]=48:=by
    have:=beq_iff_eq.1 h48;apply UInt8.toNat_inj.1;show (bts x)[i].toNat=48;omega
   refine (vV a x 61 i (by decide) (.ok n j) w st).mono ?_
   rintro _ w1 ⟨rfl,h1,E1⟩
   exact ⟨rfl,E1.kept (fun b hb e=>hna (e▸hb)),bad (by rw [hbad,decide_eq_true (show 1<j - i by omega),decide_eq_true h48];simp) h1 E1⟩
  ·rw [kH (show i≤(bts x).length by omega) (by omega)] at h2
   have h2:=of_decide_eq_false h2
   exact good (by rw [hbad,hwd,decide_eq_false (show ¬ 1<j - i by omega)];rfl)
  ·have h48:(bts x)[i]≠48:=fun e=>by rw [e] at h48;exact absurd h48 (by decide)
   exact good (by rw [hbad,hwd,decide_eq_false h48];simp)
set_option maxHeartbeats 1000000 in
theorem jKX (a:Addr) (x:ByteArray) (q:Sp.Rr Nat) (w0:World) (h:RSt w0 a x q) (hc:(bts x).length≤10000000) :
  Calls prog 159 #[.pointer (some a)] w0 (fun e w'=>∃m f:Int,e=.returned (.tuple #[.int .u64 m,.int .i64 f])∧NumK w0 a x q m f w'):=by
 refine w_J (some a) w0 (fun m f w'=>NumK w0 a x q m f w') ?_
 unfold m_J
 have hl:=kR x
 cases q with
 | no er k =>
  obtain ⟨h0,i,n,hi,h1⟩:=h
  exact ⟨a,rfl,_,zL h1,a,rfl,_,vT h1,Br.t (by simpa using h0) ⟨⟨h0,i,n,hi,h1⟩,Ext.refl _,fun _ _ e=>by cases e⟩⟩
 | ok n i =>
  obtain ⟨h1,hi,hn⟩:=h
  refine ⟨a,rfl,_,zL h1,a,rfl,_,vT h1,Br.f rfl ?_⟩
  have nH:∀{H:NP} {w w':World},Hst w0 H w H w'→¬ H a.block:=fun hs hh=>by have:=hs.old _ hh;have:=h1.lt;omega
  refine ⟨fun n2 wide2 H w=>(∀b,H b→w0.heap.size≤b)∧∃(j:Nat) (P:List UInt8),Sp.zB (bts x) i=P++Sp.zB (bts x) j∧j=i+P.length∧j≤(bts x).length∧n2=((Sp.decV P % 18446744073709551616:Nat):Int)∧wide2=decide (18446744073709551616≤Sp.decV P)∧Rdr w a x j n 0 0∧Ext (·=a.block) w0 w,
   fun _ _ w=>match w.cell? (a.add 1) with | some (.int _ k)=>((bts x).length - k.toNat) | _=>0,⟨fun b hb=>hb.elim,i,[],rfl,rfl,hi,rfl,rfl,h1,Ext.refl _⟩,?_⟩
  rintro _ _ Hl wl hsl ⟨hHl,j,P,hD,hj,hjl,rfl,rfl,hR,hE⟩
  unfold m_J_l2
  have hna:=nH hsl
  refine ⟨a,rfl,fun w7 hs7=>?_⟩
  have h7:=hR.ext hs7.ext hna
  have E7:Ext (·=a.block) w0 w7:=hE.trans' hs7.ext (fun b hb hh=>by have:=hHl _ hh;omega)
  have done:Sp.zB (bts x) j=[]→m_J_j3 (some a) (i:Int) ((Sp.decV P % 18446744073709551616:Nat):Int) (decide (18446744073709551616≤Sp.decV P)) false w0 Hl w7 (fun y'0 y'1 H' w'=>((∀b,H' b→w0.heap.size≤b)∧∃(j:Nat) (P:List UInt8),Sp.zB (bts x) i=P++Sp.zB (bts x) j∧j=i+P.length∧j≤(bts x).length∧y'0=((Sp.decV P % 18446744073709551616:Nat):Int)∧y'1=decide (18446744073709551616≤Sp.decV P)∧Rdr w' a x j n 0 0∧Ext (·=a.block) w0 w')∧(match w'.cell? (a.add 1) with | some (.int _ k)=>((bts x).length - k.toNat) | _=>0)<(match wl.cell? (a.add 1) with | some (.int _ k)=>((bts x).length - k.toNat) | _=>0)) (fun m f w'=>NumK w0 a x (.ok n i) m f w'):=fun e0=>by
   unfold m_J_j3;have hP:Sp.zB (bts x) i=P:=by rw [hD,e0,List.append_nil]
   refine Br.f rfl ?_;rw [← hP] at hj ⊢;exact num_j1 hi hn hc (by omega) hjl (by omega) rfl h7 E7 hna
  have hdj:∀hlt:j<(bts x).length,¬ (48≤(bts x)[j].toNat∧(bts x)[j].toNat≤57)→Sp.zB (bts x) j=[]:=fun hlt hh=>Sp.uR hlt (by unfold Sp.isDig;rw [Bool.and_eq_false_iff,decide_eq_false_iff_not,decide_eq_false_iff_not];omega)
  refine ⟨_,zL h7,a,rfl,x,h7.cell0,fun hc=>?_,fun hc=>done (Sp.oY (by have:=of_decide_eq_false hc;omega))⟩
  have hlt:j<(bts x).length:=by have:=of_decide_eq_true hc;omega
  refine ⟨a,rfl,x,h7.cell0,a,rfl,_,zL h7,_,yQ x j hlt w7,fun hb=>?_,fun hb=>done (hdj hlt (by have:=of_decide_eq_false hb;omega))⟩
  have hb:=of_decide_eq_true hb
  refine ⟨a,rfl,x,h7.cell0,a,rfl,_,zL h7,_,yQ x j hlt w7,?_⟩
  by_cases hb2:(bts x)[j].toNat≤57
  ·rw [decide_eq_true (show ((bts x)[j].toNat:Int)≤57 by omega)]
   unfold m_J_j3
   refine Br.t rfl ⟨a,rfl,fun w4 hs4=>?_⟩
   have r4:=h7.ext hs4.ext hna
   have E4:Ext (·=a.block) w0 w4:=E7.trans' hs4.ext (fun b hb hh=>by have:=hHl _ hh;omega)
   have hd:=jLJ (bts x)[j].toNat 48 (by omega) (UInt8.toNat_lt _)
   refine ⟨_,r4.cell0,a,rfl,_,zL r4,_,yQ x j hlt w4,?_⟩
   have hstep:Sp.zB (bts x) j=(bts x)[j] :: Sp.zB (bts x) (j+1):=Sp.qF hlt (by unfold Sp.isDig;rw [Bool.and_eq_true,decide_eq_true_eq,decide_eq_true_eq];omega)
   have hsn:=Sp.jCG P (bts x)[j]
   generalize (bts x)[j]=c at *
   have hclt:=c.toNat_lt
   rw [show (c.toNat:Int) - 48=(c.toNat:Int) - ((48:Nat):Int) from rfl,hd]
   obtain ⟨d,hdd⟩:∃d,d=c.toNat - 48:=⟨_,rfl⟩
   rw [← hdd] at hsn ⊢
   have hd9:d≤9:=by omega
   have e1:IntKind.u64.wrap (d:Int)=(d:Int):=by rw [IntKind.wrap_u64];omega
   have e2:IntKind.u64.wrap (18446744073709551615 - (d:Int))=((18446744073709551615 - d:Nat):Int):=by rw [IntKind.wrap_u64];omega
   rw [e1,e2]
   refine ⟨_,jBJ (18446744073709551615 - d) (by omega),a,rfl,fun H1 w5 hs5=>?_⟩
   have hn1:¬ H1 a.block:=fun hh=>by have:=hs5.here.old _ hh;have:=h1.lt;omega
   have r5:=r4.ext hs5.ext hn1
   have E5:Ext (·=a.block) w0 w5:=E4.trans' hs5.ext (fun b hb hh=>by have:=hs5.here.old b hh;omega)
   refine ⟨_,zL r5,a,rfl,r5.canW (i:=1) (by simp),hn1,?_⟩
   rintro w6 rfl
   rw [kH (show j≤(bts x).length by omega) (by omega)]
   refine ⟨⟨fun b hb=>hs5.here.old b hb,j+1,P++[c],by rw [hD,hstep,List.append_assoc];rfl,by simp;omega,hlt,?_,?_,vA r5 (j+1),E5.trans vE⟩,?_⟩
   ·rw [hsn,IntKind.wrap_u64,IntKind.wrap_u64]
    omega
   ·rw [hsn]
    by_cases hV:18446744073709551616≤Sp.decV P
    ·rw [decide_eq_true hV,Bool.or_true,decide_eq_true (show 18446744073709551616≤10*Sp.decV P+d by omega)]
    ·rw [decide_eq_false hV,Bool.or_false,Nat.mod_eq_of_lt (by omega)]
     by_cases hV2:18446744073709551616≤10*Sp.decV P+d
     ·rw [decide_eq_true hV2,decide_eq_true (by omega)]
     ·rw [decide_eq_false hV2,decide_eq_false (by omega)]
   ·show (match (w5.setCell (a.add 1) (.int .i64 ((j+1:Nat):Int))).cell? (a.add 1) with | some (.int _ k)=>((bts x).length - k.toNat) | _=>0)<(match wl.cell? (a.add 1) with | some (.int _ k)=>((bts x).length - k.toNat) | _=>0)
    rw [zL (vA r5 (j+1)),zL hR]
    simp only
    omega
  ·rw [decide_eq_false (show ¬ ((bts x)[j].toNat:Int)≤57 by omega)]
   exact done (hdj hlt (by omega))
theorem jAQ (a:Addr) (x:ByteArray) (nt:Int) (q:Sp.Rr Nat) (w0:World) (h:RSt w0 a x q) (hc:(bts x).length≤10000000) :
  Calls prog 158 #[.pointer (some a),.int .i64 nt] w0 (fun e w'=>∃m:Int,e=.returned (.int .i64 m)∧(RSt w' a x (q.bind fun n i=>(Sp.zV (bts x) nt i).bind fun _ j=>.ok n j)∧Ext (·=a.block) w0 w'∧∀n i v j,q=.ok n i→Sp.zV (bts x) nt i=.ok v j→m=(v:Int))):=by
 refine w_A3 (some a) nt w0 (fun m w'=>RSt w' a x (q.bind fun n i=>(Sp.zV (bts x) nt i).bind fun _ j=>.ok n j)∧Ext (·=a.block) w0 w'∧∀n i v j,q=.ok n i→Sp.zV (bts x) nt i=.ok v j→m=(v:Int)) ?_
 unfold m_A3
 refine (jKX a x q w0 h hc).mono ?_
 rintro _ w1 ⟨m,f,rfl,h1,E1,hv⟩
 refine ⟨m,f,rfl,a,rfl,?_⟩
 have bad:∀{er:Int} {k:Nat},RSt w1 a x (.no er k)→∃v1:Int,w1.cell? (a.add 3)=some (.int .i64 v1)∧v1≠0:=fun h=>by
  obtain ⟨h0,i,n,hi,h⟩:=h;exact ⟨_,vT h,h0⟩
 cases q with
 | no er k =>
  obtain ⟨v1,hv1,h0⟩:=bad h1
  have hb:((v1:Int) == 0)=false:=by simpa using h0
  exact ⟨v1,hv1,Br.f (by rw [hb];rfl) ⟨a,rfl,v1,hv1,Br.t (by simpa using h0) ⟨h1,E1,fun _ _ _ _ e=>by cases e⟩⟩⟩
 | ok n i =>
  obtain ⟨rfl,hv2⟩:=hv n i rfl
  have h1:RSt w1 a x ((Sp.qQ (bts x) i).bind fun _ j=>.ok n j):=h1
  obtain ⟨R,hR⟩:∃R,Sp.qQ (bts x) i=R:=⟨_,rfl⟩
  have hN:Sp.zV (bts x) nt i=R.bind fun n j=>if 16≤n∨(n:Int)=nt then .no 50 i else .ok n j:=by unfold Sp.zV;rw [hR]
  have fin : ∀ {Y : Sp.Rr Nat} {m' : Int} {w' : World}, Sp.zV (bts x) nt i = Y → RSt w' a x (Y.bind fun _ j => .ok n j) → Ext (· = a.block) w0 w' → (∀ v j, Y = .ok v j → m' = (v : Int)) →
    (RSt w' a x ((Sp.Rr.ok n i).bind fun n i=>(Sp.zV (bts x) nt i).bind fun _ j=>.ok n j)∧Ext (·=a.block) w0 w'∧∀n' i' v j,Sp.Rr.ok n i=.ok n' i'→Sp.zV (bts x) nt i'=.ok v j→m'=(v:Int)):=fun e h E hm =>
   ⟨by show RSt _ a x ((Sp.zV (bts x) nt i).bind fun _ j=>.ok n j);rw [e];exact h,E,fun n' i' v j e1 e2=>by cases e1;exact hm v j (e▸e2)⟩
  rw [hR] at h1 hv2
  cases R with
  | no er k =>
   obtain ⟨v1,hv1,h0⟩:=bad h1
   have hb:((v1:Int) == 0)=false:=by simpa using h0
   exact ⟨v1,hv1,Br.f (by rw [hb];rfl) ⟨a,rfl,v1,hv1,Br.t (by simpa using h0) (fin hN h1 E1 (fun _ _ h=>by cases h))⟩⟩
  | ok v j =>
   obtain rfl:=hv2 v j rfl
   by_cases hh:16≤v∨(v:Int)=nt
   ·have hb : (((0 : Int) == 0) && ((decide ((v : Int) ≥ 16)) || ((IntKind.i64.wrap (v : Int) : Int) == nt))) = true := by
     by_cases h16:16≤v
     ·rw [decide_eq_true (show (v:Int)≥16 by omega)];rfl
     ·rw [IntWalk.i64_in _ (by omega),show ((v:Int) == nt)=true by have:=hh.resolve_left h16;simpa using this];simp
    have hN:Sp.zV (bts x) nt i=.no 50 i:=hN.trans (if_pos hh)
    refine ⟨0,vT h1.1,Br.t hb ?_⟩
    refine (vV a x 50 i (by decide) (.ok n j) w1 h1).mono ?_
    rintro _ w5 ⟨rfl,h5,E5⟩
    refine ⟨rfl,a,rfl,?_⟩
    have h5':=h5
    obtain ⟨h0,i',n',hi',r5⟩:=h5'
    exact ⟨_,vT r5,Br.t (by decide) (fin hN h5 (E1.trans E5) (fun _ _ h=>by cases h))⟩
   ·have hv16:v<16:=by omega
    have hw:IntKind.i64.wrap (v:Int)=(v:Int):=IntWalk.i64_in _ (by omega)
    have hb:(((0:Int) == 0) && ((decide ((v:Int)≥16)) || ((IntKind.i64.wrap (v:Int):Int) == nt)))=false:=by
     rw [hw,decide_eq_false (show ¬ (v:Int)≥16 by omega),show ((v:Int) == nt)=false from beq_eq_false_iff_ne.2 (by omega)];rfl
    have hN:Sp.zV (bts x) nt i=.ok v j:=hN.trans (if_neg hh)
    exact ⟨0,vT h1.1,Br.f hb ⟨a,rfl,0,vT h1.1,Br.f rfl (fin hN h1 E1 (fun _ _ h=>by cases h;exact hw))⟩⟩
theorem jFY (c:Nat) (h:c<256):s_N (c:Int)=match Sp.jDB c with | none=>-1 | some v=>(v:Int):=by
 have:∀c:Fin 256,s_N (c.val:Int)=match Sp.jDB c.val with | none=>-1 | some v=>(v:Int):=by decide +kernel
 exact this ⟨c,h⟩
theorem jKY (a:Addr) (x:ByteArray) (q:Sp.Rr Nat) (w0:World) (h:RSt w0 a x q) (hc:(bts x).length≤10000000) :
  Calls prog 210 #[.pointer (some a)] w0 (fun e w'=>∃m:Int,e=.returned (.int .i64 m)∧(RSt w' a x (q.bind fun n i=>(Sp.vC (bts x) i).bind fun _ j=>.ok n j)∧Ext (·=a.block) w0 w'∧∀n i v j,q=.ok n i→Sp.vC (bts x) i=.ok v j→m=(v:Int))):=by
 refine w_B3 (some a) w0 (fun m w'=>RSt w' a x (q.bind fun n i=>(Sp.vC (bts x) i).bind fun _ j=>.ok n j)∧Ext (·=a.block) w0 w'∧∀n i v j,q=.ok n i→Sp.vC (bts x) i=.ok v j→m=(v:Int)) ?_
 unfold m_B3
 have hl:=kR x
 cases q with
 | no er k =>
  obtain ⟨h0,i,n,hi,h1⟩:=h
  exact ⟨a,rfl,_,vT h1,Br.t (by simpa using h0) ⟨⟨h0,i,n,hi,h1⟩,Ext.refl _,fun _ _ _ _ e=>by cases e⟩⟩
 | ok n i =>
  obtain ⟨h1,hi,hn⟩:=h
  have no:∀b,¬ None b:=fun b hb=>hb
  have word:Sp.vC (bts x) i=.no (if i=(bts x).length then 3 else 60) i→∀(H1:NP) (w3:World),Hst w0 None w0 H1 w3→Calls prog 119 #[.pointer (some a)] w3 (fun e w10=>e=.returned (.tuple #[])∧Kept H1 w3 w10∧(RSt w10 a x ((Sp.Rr.ok n i).bind fun n i=>(Sp.vC (bts x) i).bind fun _ j=>.ok n j)∧Ext (·=a.block) w0 w10∧∀n' i' v j,Sp.Rr.ok n i=.ok n' i'→Sp.vC (bts x) i'=.ok v j→(0:Int)=(v:Int))):=fun e H1 w3 hs3=>by
   have E3:=hs3.first;have r3:=h1.pure E3;refine (uW a x i n w3 ⟨r3,hi,hn⟩).mono ?_;rintro _ w4 ⟨rfl,h4,E4⟩;refine ⟨rfl,E4.kept (fun b hb e=>by have:=hs3.here.old _ hb;have:=h1.lt;have:a.block=b:=e.symm;omega),?_,E3.pure.trans E4,fun n' i' v j e1 e2=>?_⟩
   ·show RSt w4 a x ((Sp.vC (bts x) i).bind fun _ j=>.ok n j);rw [e];exact h4
   ·cases e1;rw [e] at e2;cases e2
  refine ⟨a,rfl,_,vT h1,Br.f rfl ⟨a,rfl,_,zL h1,no _,a,rfl,_,h1.cell0,no _,fun hlt=>?_,fun hlt=>word ?_⟩⟩
  ·have hlt:i<(bts x).length:=by have:=of_decide_eq_true hlt;omega
   have hg:=List.getElem?_eq_getElem hlt
   have hdg:=jFY (bts x)[i].toNat (UInt8.toNat_lt _)
   refine ⟨a,rfl,_,h1.cell0,no _,a,rfl,_,zL h1,no _,_,fun H' w' _=>yQ x i hlt w',fun h0=>⟨a,rfl,fun H1 w3 hs3=>?_⟩,fun h0=>word ?_⟩
   ·have h0:=of_decide_eq_true h0
    obtain ⟨v,hv⟩:∃v,Sp.jDB (bts x)[i].toNat=some v:=by
     cases hh:Sp.jDB (bts x)[i].toNat with
     | none=>rw [hdg,hh] at h0;exact absurd h0 (by decide)
     | some v=>exact ⟨v,rfl⟩
    have hsp:Sp.vC (bts x) i=.ok v (i+1):=by
     unfold Sp.vC;rw [hg];simp only;rw [hv]
    have E3:=hs3.first
    have r3:=h1.pure E3
    have hn3:¬ H1 a.block:=fun hb=>by have:=hs3.here.old _ hb;have:=h1.lt;omega
    refine ⟨_,zL r3,a,rfl,r3.canW (i:=1) (by simp),hn3,?_⟩
    rintro w5 rfl
    rw [kH (show i≤(bts x).length by omega) (by omega)]
    have r5:=vA r3 (i+1)
    refine ⟨a,rfl,_,r5.cell0,hn3,a,rfl,_,zL r5,hn3,_,fun H' w' _=>by
     rw [show IntKind.i64.wrap (((i+1:Nat):Int) - 1)=(i:Int) by rw [IntWalk.i64_in _ (by omega)];omega];exact yQ x i hlt w',fun H2 w8 hs8=>⟨?_,(E3.pure.trans vE).trans' hs8.ext (fun b hb hh=>by have:=hs8.here.old b hh;omega),fun n' i' v' j' e1 e2=>?_⟩⟩
    ·show RSt w8 a x ((Sp.vC (bts x) i).bind fun _ j=>.ok n j)
     rw [hsp]
     exact ⟨r5.ext hs8.ext (fun hb=>by have:=hs8.here.old _ hb;have:=h1.lt;omega),hlt,hn⟩
    ·cases e1
     rw [hsp] at e2
     cases e2
     rw [hdg,hv]
   ·have h0:=of_decide_eq_false h0
    unfold Sp.vC
    rw [hg]
    simp only
    cases hh:Sp.jDB (bts x)[i].toNat with
    | none=>simp only;rw [if_neg (show ¬ i=(bts x).length by omega)]
    | some v=>rw [hdg,hh] at h0;simp only at h0;omega
  ·have hi:i=(bts x).length:=by have:=of_decide_eq_false hlt;omega
   unfold Sp.vC
   rw [List.getElem?_eq_none (by omega)]
   simp only
   rw [if_pos hi]
structure DD (w0 w:World) (H:NP) (a:Addr) (x:ByteArray) (q:Sp.Rr Nat) (b:Sl) (acc:List UInt8):Prop where
 ds:DS w0 w H a x q
 rows:Rws w 5 1 b (byr acc)
 own:∀k,b.blk k→w0.heap.size≤k∧k<w.heap.size∧¬ H k
section
variable {w0 w w':World} {H H':NP} {a:Addr} {x:ByteArray} {q q':Sp.Rr Nat} {b:Sl} {acc:List UInt8}
theorem DD.hst (h:DD w0 w H a x q b acc) (hs:Hst w0 H w H' w'):DD w0 w' H' a x q b acc:=by
 have hd:=hs.disj (G:=fun k=>w0.heap.size≤k∧k<w.heap.size∧¬ H k) (fun k hk=>⟨hk.2.1,hk.2.2⟩);exact ⟨h.ds.hst hs,h.rows.ext hs.ext (fun k hk=>hd k (h.own k hk)),fun k hk=>⟨(h.own k hk).1,by have:=(h.own k hk).2.1;have:=hs.ext.size;omega,hd k (h.own k hk)⟩⟩
theorem DD.to (h:DD w0 w H a x q b acc) (hr:RSt w' a x q') (E:Ext (·=a.block) w w'):Kept H w w'∧DD w0 w' H a x q' b acc:=by
 obtain ⟨k1,d1⟩:=h.ds.to hr E;exact ⟨k1,d1,h.rows.ext E (fun k hk e=>by have:=(h.own k hk).1;have:=h.ds.la;omega),fun k hk=>⟨(h.own k hk).1,by have:=(h.own k hk).2.1;have:=E.size;omega,(h.own k hk).2.2⟩⟩
theorem DD.app (h:DD w0 w H a x q b acc) {c:Int} {u:UInt8} (hu:c=(u.toNat:Int)) (hl:acc.length≤20000000) {p:Addr} {w1:World} (hn:New w (.cells #[.int .u8 c] 5) p w1) :
  ∃s w2,(Builtin.append_ #[54,54] 54 #[b.v,(Sl.mk (some p) 1 1).v]).run prog w1=.ok s.v w2∧Kept H w1 w2∧DD w0 w2 H a x q s (acc++[u]):=by
 subst hu
 have E1:Pure w w1:=Ext.new hn
 have z:=h.ds.ext.size
 have z1:=E1.size
 obtain ⟨k1,d1⟩:=h.to (h.ds.st.pure E1) E1.pure
 obtain ⟨s,w2,hr,R,X,o⟩:=d1.rows.append (P:=prog) (ty:=54) (c:=1) uK (r:=[.int .u8 (u.toNat:Int)]) (Box.of_new hn).row rfl rfl (by rw [zG];omega) (by rw [zG];simp [maxLen];omega)
 have z2:=X.size
 refine ⟨s,w2,hr,X.kept (fun k hk hb=>(d1.own k hb).2.2 hk),⟨d1.ds.st.ext X (fun hh=>by have:=(h.own _ hh).1;have:=h.ds.la;omega),d1.ds.ext.trans' X (fun k hk hh=>by have:=(h.own k hh).1;omega),h.ds.la,fun k hk=>⟨(d1.ds.oH k hk).1,by have:=(d1.ds.oH k hk).2;omega⟩,h.ds.few⟩,?_,fun k hk=>?_⟩
 ·rw [show byr (acc++[u])=byr acc++[[.int .u8 (u.toNat:Int)]] by simp [byr]];exact R
 ·have hlt:=R.lt hk
  rcases o k hk with h1 | h1
  ·exact ⟨(d1.own k h1).1,hlt,(d1.own k h1).2.2⟩
  ·exact ⟨by omega,hlt,fun hh=>by have:=(d1.ds.oH k hh).2;omega⟩
end
abbrev DatK (w0:World) (a:Addr) (x:ByteArray) (n j:Nat) (r:ByteArray) (w':World):Prop :=
 RSt w' a x ((Sp.qR (bts x) j).bind fun _ k=>.ok n k)∧Ext (·=a.block) w0 w'∧∀l k,Sp.qR (bts x) j=.ok l k→r=⟨l.toArray⟩
theorem jII {w0 w':World} {a:Addr} {x:ByteArray} {n j:Nat} {r:ByteArray} {R:Sp.Rr (List UInt8)} (e:R=Sp.qR (bts x) j) (h:RSt w' a x (R.bind fun _ k=>.ok n k)) (E:Ext (·=a.block) w0 w') (hr:∀l k,R=.ok l k→r=⟨l.toArray⟩):DatK w0 a x n j r w':=by
 subst e;exact ⟨h,E,hr⟩
def DatI (w0:World) (a:Addr) (x:ByteArray) (n j:Nat) (b:Sl) (H:NP) (w:World):Prop :=
 (∃(f k:Nat) (acc:List UInt8),(bts x).length+1≤f+k∧acc.length≤k∧Sp.vN (bts x) j f k acc=Sp.qR (bts x) j∧DD w0 w H a x (.ok n k) b acc) ∨
 (∃(er:Int) (k:Nat) (acc:List UInt8),acc.length≤10000001∧Sp.qR (bts x) j=.no er k∧DD w0 w H a x (.no er k) b acc)
def gX (a:Addr) (x:ByteArray) (w:World):Nat:=match w.cell? (a.add 3),w.cell? (a.add 1) with | some (.int _ e),some (.int _ k)=>if e=0 then 1+((bts x).length - k.toNat) else 0 | _,_=>0
theorem jET {a:Addr} {x:ByteArray} {w:World} {n k:Nat} (h:Rdr w a x k n 0 0):gX a x w=1+((bts x).length - k):=by
 unfold gX;rw [vT h,zL h];simp
theorem jKF {a:Addr} {x:ByteArray} {w:World} {er:Int} {k:Nat} (h:RSt w a x (.no er k)):gX a x w=0:=by
 obtain ⟨h0,i,n,_,h⟩:=h;unfold gX;rw [vT h,zL h];simp [h0]
set_option maxHeartbeats 2000000 in
theorem jMI (a:Addr) (x:ByteArray) (n j:Nat) (w0:World) (h:RSt w0 a x (.ok n (j+1))) (hc:(bts x).length≤10000000) :
  Calls prog 160 #[.pointer (some a)] w0 (fun e w'=>∃r:ByteArray,e=.returned (.string r)∧DatK w0 a x n j r w'):=by
 refine w_I (some a) w0 (fun r w'=>DatK w0 a x n j r w') ?_
 unfold m_I
 have hl:=kR x
 have hnil:∀b,¬ Sl.nil.blk b:=fun b hb=>by obtain ⟨a,h,_⟩:=hb;cases h
 refine ⟨a,rfl,_,zL h.1,DatI w0 a x n j,fun _ w=>gX a x w,.inl ⟨(bts x).length+1,j+1,[],by omega,by simp,rfl,DS.start h hc,Rws.nil _ _ _,fun k hk=>(hnil k hk).elim⟩,?_⟩
 intro b Hl wl hsl hI
 unfold m_I_l1
 have wj:IntKind.i64.wrap (((j+1:Nat):Int) - 1)=(j:Int):=by have:=h.2.1;rw [IntWalk.i64_in _ (by omega)];omega
 rw [wj]
 rcases hI with ⟨f,k,acc,hf,hal,hsp,D⟩ | ⟨er,k,acc,hal,hsp,D⟩
 rotate_left
 ·-- an error stands
  have st:=D.ds.st
  obtain ⟨h0,i',n',hi',r'⟩:=st
  have conv:=fun {w:World} {q} (D:DD w0 w Hl a x q b acc)=>gT (P:=prog) underlying54 underlying5 underlying9 D.rows.lst
  refine ⟨a,rfl,_,vT r',Br.f (by simpa using h0) ⟨fun h64=>?_,fun h64=>⟨_,conv D,jII hsp.symm D.ds.st D.ds.ext (fun _ _ h=>by cases h)⟩⟩⟩
  refine (vV a x 1 j (by decide) _ wl D.ds.st).mono ?_
  rintro _ w1 ⟨rfl,h1,E1⟩
  obtain ⟨k1,D1⟩:=D.to h1 E1
  exact ⟨rfl,k1,_,conv D1,jII hsp.symm D1.ds.st D1.ds.ext (fun _ _ h=>by cases h)⟩
 ·obtain ⟨f,rfl⟩:∃g,f=g+1:=⟨f - 1,by have:=D.ds.st.2.1;omega⟩
  rw [Sp.vN] at hsp
  have hk:=D.ds.st.2.1
  have hn:=D.ds.st.2.2
  have mu:=jET D.ds.st.1
  have again:∀{b':Sl} {H':NP} {w':World} {k':Nat} {acc':List UInt8},k<(bts x).length→k<k'→acc'.length≤k'→Sp.vN (bts x) j f k' acc'=Sp.qR (bts x) j→DD w0 w' H' a x (.ok n k') b' acc'→DatI w0 a x n j b' H' w'∧gX a x w'<gX a x wl:=fun h1 h2 h3 h4 D' =>
   ⟨.inl ⟨f,_,_,by omega,h3,h4,D'⟩,by rw [mu,jET D'.ds.st.1];have:=D'.ds.st.2.1;omega⟩
  have stop:∀{b':Sl} {H':NP} {w':World} {er:Int} {k':Nat} {acc':List UInt8},acc'.length≤10000001→Sp.qR (bts x) j=.no er k'→DD w0 w' H' a x (.no er k') b' acc'→DatI w0 a x n j b' H' w'∧gX a x w'<gX a x wl:=fun h3 h4 D' =>
   ⟨.inr ⟨_,_,_,h3,h4,D'⟩,by rw [mu,jKF D'.ds.st];omega⟩
  have word2:∀{w:World},DD w0 w Hl a x (.ok n k) b acc→Sp.Rr.no (if k=(bts x).length then 3 else 60) k=Sp.qR (bts x) j→m_I_j2 (some a) ((j+1:Nat):Int) b true w0 Hl w (fun b' H' w'=>DatI w0 a x n j b' H' w'∧gX a x w'<gX a x wl) (fun r w'=>DatK w0 a x n j r w'):=fun {w} D' e=>by
   unfold m_I_j2;refine Br.t rfl ?_;refine (uW a x k n w D'.ds.st).mono ?_;rintro _ w1 ⟨rfl,h1,E1⟩;obtain ⟨k1,D1⟩:=D'.to h1 E1;exact ⟨rfl,k1,jII e D1.ds.st D1.ds.ext (fun _ _ h=>by cases h)⟩
  refine ⟨a,rfl,_,vT D.ds.st.1,Br.t rfl ⟨a,rfl,fun w21 hs21=>?_⟩⟩
  have D21:=D.hst hs21
  have r21:=D21.ds.st.1
  refine ⟨_,zL r21,a,rfl,_,r21.cell0,fun hlt=>?_,fun hlt=>?_⟩
  ·have hlt:k=(bts x).length:=by have:=of_decide_eq_true hlt;omega
   refine word2 D21 ?_
   rw [← hsp,List.getElem?_eq_none (by omega),if_pos hlt]
  have hlt:k<(bts x).length:=by have:=of_decide_eq_false hlt;omega
  have hg:=List.getElem?_eq_getElem hlt
  rw [hg] at hsp
  simp only at hsp
  obtain ⟨c,hcc⟩:∃c,(bts x)[k]=c:=⟨_,rfl⟩
  have ix:∀w,(Instr.index 9 (.string x) (.int .i64 (k:Int))).run prog w=.ok (.int .u8 (c.toNat:Int)) w:=fun w=>by rw [← hcc];exact yQ x k hlt w
  rw [hcc] at hsp
  have hclt:=c.toNat_lt
  refine ⟨a,rfl,_,r21.cell0,a,rfl,_,zL r21,_,ix w21,fun h32=>?_,fun h32=>⟨a,rfl,_,r21.cell0,a,rfl,_,zL r21,_,ix w21,?_⟩⟩
  ·have h32:=of_decide_eq_true h32
   refine word2 D21 ?_
   rw [if_neg (show ¬ k=(bts x).length by omega),← hsp,if_pos (by omega)]
  have h32:=of_decide_eq_false h32
  by_cases h126:126<c.toNat
  ·rw [decide_eq_true (show (c.toNat:Int)>126 by omega)]
   refine word2 D21 ?_
   rw [if_neg (show ¬ k=(bts x).length by omega),← hsp,if_pos (by omega)]
  rw [decide_eq_false (show ¬ (c.toNat:Int)>126 by omega)]
  rw [if_neg (by omega)] at hsp
  unfold m_I_j2
  refine Br.f rfl ⟨a,rfl,fun w2 hs2=>?_⟩
  have D2:=D21.hst hs2
  have r2:=D2.ds.st.1
  refine ⟨_,r2.cell0,a,rfl,_,zL r2,_,ix w2,a,rfl,_,zL r2,a,rfl,r2.canW (i:=1) (by simp),D2.ds.nH,?_⟩
  rintro w3 rfl
  rw [kH (show k≤(bts x).length by omega) (by omega)]
  obtain ⟨_,D3⟩:=D2.to (q':=.ok n (k+1)) ⟨vA r2 (k+1),hlt,hn⟩ vE
  generalize w2.setCell (a.add 1) (.int .i64 ((k+1:Nat):Int))=w3 at *
  rw [wj]
  refine ⟨fun h34=>?_,fun h34=>?_⟩
  ·have h34:c.toNat=34:=by have:=beq_iff_eq.1 h34;omega
   rw [if_pos h34] at hsp
   have hbl:b.len=acc.length:=by rw [D3.rows.len,zG]
   have conv:=fun {w:World} {q} (D:DD w0 w Hl a x q b acc)=>gT (P:=prog) underlying54 underlying5 underlying9 D.rows.lst
   refine ⟨fun h64=>?_,fun h64=>?_⟩
   ·rw [if_pos (by have:=of_decide_eq_true h64;omega)] at hsp
    refine (vV a x 1 j (by decide) _ w3 D3.ds.st).mono ?_
    rintro _ w4 ⟨rfl,h4,E4⟩
    obtain ⟨k4,D4⟩:=D3.to h4 E4
    exact ⟨rfl,k4,_,conv D4,jII hsp D4.ds.st D4.ds.ext (fun _ _ h=>by cases h)⟩
   ·rw [if_neg (by have:=of_decide_eq_false h64;omega)] at hsp
    exact ⟨_,conv D3,jII hsp D3.ds.st D3.ds.ext (fun _ _ h=>by cases h;rfl)⟩
  have h34:c.toNat≠34:=by have:=beq_eq_false_iff_ne.1 h34;omega
  rw [if_neg h34] at hsp
  refine ⟨fun h92=>?_,fun h92=>?_⟩
  rotate_left
  ·have h92:c.toNat≠92:=by have:=beq_eq_false_iff_ne.1 h92;omega
   rw [if_neg h92] at hsp
   intro p4 w19 n19
   obtain ⟨s4,w20,hr,k20,D20⟩:=D3.app rfl (by omega) n19
   exact ⟨s4,w20,hr,k20,again hlt (by omega) (by simp;omega) hsp D20⟩
  ·have h92:c.toNat=92:=by have:=beq_iff_eq.1 h92;omega
   rw [if_pos h92] at hsp
   refine ⟨a,rfl,fun w5 hs5=>?_⟩
   have D5:=D3.hst hs5
   have r5:=D5.ds.st.1
   have word3 : ∀ {w w6 : World} {H1 : NP} {d : Int} {u : UInt8}, d = (u.toNat : Int) → DD w0 w Hl a x (.ok n (k + 1)) b acc → Sp.Rr.no (if k + 1 = (bts x).length then 3 else 60) (k + 1) = Sp.qR (bts x) j → Hst w0 Hl w H1 w6 →
     Calls prog 119 #[.pointer (some a)] w6 (fun e w15=>e=.returned (.tuple #[])∧Kept H1 w6 w15∧∀(p3:Addr) (w16:World),New w15 (.cells #[.int .u8 d] 5) p3 w16→∃s3:Sl,∃w17:World,(Builtin.append_ #[54,54] 54 #[b.v,(Sl.mk (some p3) 1 1).v]).run prog w16=.ok s3.v w17∧Kept H1 w16 w17∧(DatI w0 a x n j s3 H1 w17∧gX a x w17<gX a x wl)):=fun {w w6 H1 d u} hd Dw e hs6=>by
    have D6:=Dw.hst hs6
    refine (uW a x (k+1) n w6 D6.ds.st).mono ?_
    rintro _ w15 ⟨rfl,h15,E15⟩
    obtain ⟨k15,D15⟩:=D6.to h15 E15
    refine ⟨rfl,k15,fun p3 w16 n16=>?_⟩
    obtain ⟨s3,w17,hr,k17,D17⟩:=D15.app hd (by omega) n16
    exact ⟨s3,w17,hr,k17,stop (by simp;omega) e.symm D17⟩
   refine ⟨_,zL r5,a,rfl,_,r5.cell0,fun hlt2=>⟨a,rfl,fun w18 hs18=>?_⟩,fun hlt2=>?_⟩
   rotate_left
   ·have hlt2:k+1=(bts x).length:=by have:=of_decide_eq_false hlt2;omega
    unfold m_I_j3
    refine Br.f rfl (Br.f rfl (fun H1 w6 hs6=>word3 (u:=0) rfl D5 ?_ hs6))
    rw [if_pos hlt2,← hsp,List.getElem?_eq_none (by omega)]
   ·have hlt2:k+1<(bts x).length:=by have:=of_decide_eq_true hlt2;omega
    have hg2:=List.getElem?_eq_getElem hlt2
    have D18:=D5.hst hs18
    have r18:=D18.ds.st.1
    obtain ⟨d,hdd⟩:∃d,(bts x)[k+1]=d:=⟨_,rfl⟩
    have ix2:=yQ x (k+1) hlt2 w18
    rw [hdd] at hg2 ix2
    rw [hg2] at hsp
    simp only at hsp
    refine ⟨_,r18.cell0,a,rfl,_,zL r18,_,ix2,?_⟩
    unfold m_I_j3
    by_cases hq:d.toNat=34∨d.toNat=92
    ·rw [if_neg (by omega),if_pos hq] at hsp
     refine Br.t (by rcases hq with hq | hq <;> rw [hq] <;> rfl) ⟨a,rfl,fun H1 w6 hs6=>?_⟩
     have D6:=D18.hst hs6
     have r6:=D6.ds.st.1
     refine ⟨_,zL r6,a,rfl,r6.canW (i:=1) (by simp),D6.ds.nH,?_⟩
     rintro w7 rfl
     rw [kH (show k+1≤(bts x).length by omega) (by omega)]
     obtain ⟨_,D7⟩:=D6.to (q':=.ok n (k+2)) ⟨vA r6 (k+1+1),hlt2,hn⟩ vE
     intro p1 w8 n8
     obtain ⟨s1,w9,hr,k9,D9⟩:=D7.app rfl (by omega) n8
     exact ⟨s1,w9,hr,k9,again hlt (by omega) (by simp;omega) hsp D9⟩
    ·have hqf : cond (((d.toNat : Int)) == 34) (((d.toNat : Int)) == 34) (((d.toNat : Int)) == 92) = false := by
      rw [show ((d.toNat:Int) == 34)=false from beq_eq_false_iff_ne.2 (by omega)];exact beq_eq_false_iff_ne.2 (by omega)
     refine Br.f hqf ?_
     by_cases h120:d.toNat=120
     rotate_left
     ·rw [if_neg h120,if_neg hq] at hsp
      refine Br.f (beq_eq_false_iff_ne.2 (by omega)) (fun H1 w6 hs6=>word3 rfl D18 ?_ hs6)
      rw [if_neg (by omega),hsp]
     ·rw [if_pos h120] at hsp
      refine Br.t (by rw [h120];rfl) ⟨a,rfl,fun H1 w6 hs6=>?_⟩
      have D6:=D18.hst hs6
      have r6:=D6.ds.st.1
      refine ⟨_,zL r6,a,rfl,r6.canW (i:=1) (by simp),D6.ds.nH,?_⟩
      rintro w10 rfl
      rw [kH (show k+1≤(bts x).length by omega) (by omega)]
      obtain ⟨_,D10⟩:=D6.to (q':=.ok n (k+2)) ⟨vA r6 (k+1+1),hlt2,hn⟩ vE
      generalize w6.setCell (a.add 1) (.int .i64 ((k+1+1:Nat):Int))=w10 at *
      refine (jKY a x (.ok n (k+2)) w10 D10.ds.st hc).mono ?_
      rintro _ w11 ⟨m1,rfl,h11,E11,hm1⟩
      have hm1:=fun v i=>hm1 n (k+2) v i rfl
      have h11:RSt w11 a x ((Sp.vC (bts x) (k+2)).bind fun _ j=>.ok n j):=h11
      have hok1:=Sp.uB (bts x) (k+2)
      have hlt1:=@xR (bts x) (k+2)
      generalize Sp.vC (bts x) (k+2)=R1 at *
      obtain ⟨k11,D11⟩:=D10.to h11 E11
      refine ⟨_,rfl,k11,?_⟩
      refine (jKY a x _ w11 D11.ds.st hc).mono ?_
      rintro _ w12 ⟨m2,rfl,h12,E12,hm2⟩
      obtain ⟨k12,D12⟩:=D11.to h12 E12
      refine ⟨_,rfl,k12,fun p2 w13 n13=>?_⟩
      have junk:∃u:UInt8,IntKind.u8.wrap (IntKind.i64.wrap ((IntKind.i64.wrap (16*m1))+m2))=(u.toNat:Int):=by
       refine ⟨UInt8.ofNat (IntKind.u8.wrap (IntKind.i64.wrap ((IntKind.i64.wrap (16*m1))+m2))).toNat,?_⟩;generalize IntKind.i64.wrap ((IntKind.i64.wrap (16*m1))+m2)=z;rw [UInt8.toNat_ofNat'];simp only [IntKind.wrap,IntKind.bits,IntKind.signed];simp;omega
      cases R1 with
      | no er at_ =>
       obtain ⟨u,hu⟩:=junk
       obtain ⟨s2,w14,hr,k14,D14⟩:=D12.app hu (by omega) n13
       exact ⟨s2,w14,hr,k14,stop (by simp;omega) hsp.symm D14⟩
      | ok hi j1 =>
       obtain rfl:=hm1 hi j1 rfl
       have hhi:=hlt1 rfl
       have hm2:=fun v i=>hm2 n j1 v i rfl
       have D12:DD w0 w12 H1 a x ((Sp.vC (bts x) j1).bind fun _ j=>.ok n j) b acc:=D12
       have hok2:=Sp.uB (bts x) j1
       have hlt2':=@xR (bts x) j1
       simp only [Sp.Rr.bind] at hsp
       generalize Sp.vC (bts x) j1=R2 at *
       obtain ⟨q1,q2⟩:=hok1 hi j1 rfl
       cases R2 with
       | no er at_ =>
        obtain ⟨u,hu⟩:=junk
        obtain ⟨s2,w14,hr,k14,D14⟩:=D12.app hu (by omega) n13
        exact ⟨s2,w14,hr,k14,stop (by simp;omega) hsp.symm D14⟩
       | ok lo j2 =>
        obtain rfl:=hm2 lo j2 rfl
        have hlo:=hlt2' rfl
        obtain ⟨q3,q4⟩:=hok2 lo j2 rfl
        have hu:IntKind.u8.wrap (IntKind.i64.wrap ((IntKind.i64.wrap (16*(hi:Int)))+(lo:Int)))=((UInt8.ofNat (16*hi+lo)).toNat:Int):=by
         rw [IntWalk.i64_in (16*(hi:Int)) (by omega),IntWalk.i64_in _ (by omega),UInt8.toNat_ofNat'];simp only [IntKind.wrap,IntKind.bits,IntKind.signed];simp
        obtain ⟨s2,w14,hr,k14,D14⟩:=D12.app hu (by omega) n13
        exact ⟨s2,w14,hr,k14,again hlt (by omega) (by simp;omega) hsp D14⟩
end Go.Proofs
end
section
open Go Go.SE
namespace Go.Sp
theorem Rr.bind_assoc {α β γ:Type} (r:Rr α) (f:α→Nat→Rr β) (g:β→Nat→Rr γ):(r.bind f).bind g=r.bind fun a i=>(f a i).bind g:=by cases r <;> rfl
theorem Rr.ok_bind {α β:Type} (a:α) (i:Nat) (f:α→Nat→Rr β):(Rr.ok a i).bind f=f a i:=rfl
abbrev nOf (r:Rt):Rr Nat:=r.bind fun t j=>.ok t.2 j
theorem jLL (B:List UInt8) (T:Nat→Nat→Rt) (q:Rr Nat) :
  (((q.bind fun n i=>(kA B 40 i).bind fun _ j=>.ok n j).bind fun n i=>nOf (T i n)).bind fun n i=>(kA B 41 i).bind fun _ j=>.ok n j)=q.bind fun n i=>nOf (kN B T n i):=by
 simp only [nOf,kN,Rr.bind_assoc,Rr.ok_bind]
end Go.Sp
namespace Go.Proofs
open Tryz
attribute [local irreducible] Calls
def jCZ (a:Addr) (x:ByteArray) (d:Nat):Prop:=∀(q:Sp.Rr Nat) (w0:World),RSt w0 a x q→Calls prog 65 #[.pointer (some a),.int .i64 (64 - (d:Int))] w0 (fun e w'=>∃(T:Sp.Tree) (s:Sl),e=.returned (.agg (kK T s).toArray) ∧
 RSt w' a x (q.bind fun n i=>Sp.nOf (Sp.jT (bts x) d i n))∧Ext (·=a.block) w0 w'∧∀n i t j,q=.ok n i→Sp.jT (bts x) d i n=.ok t j→T=t.1∧TreeAt (fun b=>w0.heap.size≤b∧b<w'.heap.size) w' s T)
section
variable (a:Addr) (x:ByteArray) (d:Nat) (hd:d<64) (hT:jCZ a x d) (hc:(bts x).length≤10000000)
include hd hT hc
theorem oK (k f to u:Int) (y:ByteArray) (s:Sl) (q:Sp.Rr Nat) (w0:World) (h:RSt w0 a x q) :
  Calls prog 162 #[.pointer (some a),.agg #[.int .i64 k,.int .i64 f,.int .i64 to,.int .u64 u,.string y,s.v],.int .i64 (64 - ((d+1:Nat):Int))] w0 (fun e w'=>∃(s':Sl) (Z:Sp.Tree),e=.returned (.agg #[.int .i64 k,.int .i64 f,.int .i64 to,.int .u64 u,.string y,s'.v]) ∧
   RSt w' a x (q.bind fun n i=>Sp.nOf (Sp.kN (bts x) (Sp.jT (bts x) d) n i))∧Ext (·=a.block) w0 w'∧∀n i t j,q=.ok n i→Sp.kN (bts x) (Sp.jT (bts x) d) n i=.ok t j→Z=t.1∧TreeAt (fun b=>w0.heap.size≤b∧b<w'.heap.size) w' s' (.mk k f to u y [Z])):=by
 refine (w_C3 (some a) k f to u y s (64 - ((d+1:Nat):Int)) w0 (fun k' f' to' u' y' s' w'=>k'=k∧f'=f∧to'=to∧u'=u∧y'=y∧∃Z:Sp.Tree,RSt w' a x (q.bind fun n i=>Sp.nOf (Sp.kN (bts x) (Sp.jT (bts x) d) n i))∧Ext (·=a.block) w0 w'∧∀n i t j,q=.ok n i→Sp.kN (bts x) (Sp.jT (bts x) d) n i=.ok t j→Z=t.1∧TreeAt (fun b=>w0.heap.size≤b∧b<w'.heap.size) w' s' (.mk k f to u y [Z])) ?_).mono ?_
 ·unfold m_C3
  rw [show IntKind.i64.wrap (64 - ((d+1:Nat):Int)+1)=64 - (d:Int) by rw [IntWalk.i64_in _ (by omega)];omega]
  intro H2 w2 hs2
  have D2:=(DS.start h hc).hst hs2
  have la:=h.lt
  refine (xY a x q w2 D2.st hc 40).mono ?_
  rintro _ w3 ⟨rfl,h3,E3⟩
  obtain ⟨k3,D3⟩:=D2.to h3 E3
  refine ⟨rfl,k3,?_⟩
  refine (hT _ w3 D3.st).mono ?_
  rintro _ w4 ⟨T,s1,rfl,h4,E4,hTr⟩
  obtain ⟨k4,D4⟩:=D3.to h4 E4
  obtain ⟨tk,tf,tt,tu,ty,tks⟩:=T
  refine ⟨tk,tf,tt,tu,ty,s1,rfl,k4,fun p3 w5 n5 w6 hs6=>?_⟩
  have E5:Pure w4 w5:=Ext.new n5
  obtain ⟨_,D5⟩:=D4.to (D4.st.pure E5) E5.pure
  have D6:=D5.hst hs6
  have hp:=n5.at_size
  have B5:=Box.of_new n5
  have l5:=B5.lt
  have z3:=D3.ext.size
  have z4:=E4.size
  have z5:=E5.size
  have np:¬ H2 p3.block:=fun hh=>by have:=(D4.oH _ hh).2;omega
  refine (xY a x _ w6 D6.st hc 41).mono ?_
  rintro _ w7 ⟨rfl,h7,E7⟩
  obtain ⟨k7,D7⟩:=D6.to h7 E7
  refine ⟨rfl,k7,fun w8 hs8=>⟨rfl,rfl,rfl,rfl,rfl,.mk tk tf tt tu ty tks,?_,(D7.hst hs8).ext,fun n i t j hq hb=>?_⟩⟩
  ·have:=(D7.hst hs8).st
   rwa [Sp.jLL] at this
  ·subst hq
   obtain ⟨_,i1,e1,hb⟩:=Sp.kS hb
   obtain ⟨t',i2,e2,hb⟩:=Sp.kS hb
   obtain ⟨_,i3,e3,hb⟩:=Sp.kS hb
   cases hb
   obtain ⟨he,T4⟩:=hTr n i1 t i2 (by simp only [Sp.Rr.bind];rw [e1]) e2
   have T4':TT w0 w4 H2 s1 (.mk tk tf tt tu ty tks):=T4.mono (fun b hb=>⟨by omega,hb.2,fun hh=>by have:=(D3.oH _ hh).2;omega⟩)
   have T5:TT w0 w5 H2 s1 (.mk tk tf tt tu ty tks):=(TreeAt.pure T4' E5).mono (fun b hb=>⟨hb.1,by omega,hb.2.2⟩)
   have TO:TT w0 w5 H2 (Sl.mk (some p3) 1 1) (.mk k f to u y [.mk tk tf tt tu ty tks]):=TreeAt.one (A:=.mk tk tf tt tu ty tks) (sa:=s1) B5 ⟨by omega,by omega,np⟩ T5
   exact ⟨he,(TT.hst (TT.ext (TT.hst TO hs6) E7 la) hs8).mono (fun b hb=>⟨hb.1,hb.2.1⟩)⟩
 ·rintro e w' ⟨k',f',to',u',y',s',rfl,rfl,rfl,rfl,rfl,rfl,Z,hh⟩
  exact ⟨s',Z,rfl,hh⟩
end
def TreK (w0:World) (a:Addr) (x:ByteArray) (R:Sp.Rt) (k f to u:Int) (y:ByteArray) (s:Sl) (w':World):Prop :=
 ∃ks,RSt w' a x (Sp.nOf R)∧Ext (·=a.block) w0 w'∧∀t m,R=.ok t m→Sp.Tree.mk k f to u y ks=t.1∧TreeAt (fun b=>w0.heap.size≤b∧b<w'.heap.size) w' s t.1
theorem jLK (B:List UInt8) (T:Nat→Nat→Sp.Rt) (n j:Nat) (r:Int) (k:Int) (h:∀v i,Sp.zV B (-1) (j+1)=.ok v i→r=(v:Int)) :
  (((((Sp.Rr.ok n (j+1):Sp.Rr Nat).bind fun n i=>(Sp.zV B (-1) i).bind fun _ j=>.ok n j).bind fun n i=>(Sp.kA B 62 i).bind fun _ j=>.ok n j).bind fun n i=>(Sp.zV B r i).bind fun _ j=>.ok n j).bind fun n i=>Sp.nOf (Sp.kN B T n i)) =
   Sp.nOf ((Sp.zV B (-1) (j+1)).bind fun v i=>(Sp.kA B 62 i).bind fun _ i1=>(Sp.zV B v i1).bind fun u i2=>(Sp.kN B T n i2).bind fun a i3=>.ok (Sp.tre k v u 0 [] [a.1],a.2) i3):=by
 simp only [Sp.nOf,Sp.Rr.bind_assoc,Sp.Rr.ok_bind]
 cases hn:Sp.zV B (-1) (j+1) with
 | no e i=>rfl
 | ok v i=>rw [h v i hn];rfl
section
variable (a:Addr) (x:ByteArray) (d:Nat) (hd:d<64) (hT:jCZ a x d) (hc:(bts x).length≤10000000)
include hd hT hc
set_option maxHeartbeats 2000000 in
theorem jMH (c:Nat) (hk:Sp.kL c≠0) (n j:Nat) (w0:World) (h:RSt w0 a x (.ok n (j+1))) :
  Calls prog 120 #[.pointer (some a),.int .u8 (c:Int),.int .i64 (64 - ((d+1:Nat):Int))] w0 (fun e w'=>∃(k f to u:Int) (y:ByteArray) (s:Sl),e=.returned (.agg #[.int .i64 k,.int .i64 f,.int .i64 to,.int .u64 u,.string y,s.v])∧TreK w0 a x (Sp.kI (bts x) (Sp.jT (bts x) d) (Sp.kL c) n j) k f to u y s w'):=by
 refine w_D3 (some a) c (64 - ((d+1:Nat):Int)) w0 (fun k f to u y s w'=>TreK w0 a x (Sp.kI (bts x) (Sp.jT (bts x) d) (Sp.kL c) n j) k f to u y s w') ?_
 unfold m_D3
 rw [show IntKind.i64.wrap (64 - ((d+1:Nat):Int)+1)=64 - (d:Int) by rw [IntWalk.i64_in _ (by omega)];omega]
 have la:=h.lt
 have D1:∀{H1:NP} {w1:World},Hst w0 None w0 H1 w1→DS w0 w1 H1 a x (.ok n (j+1)):=fun hs1=>(DS.start h hc).hst hs1
 have hc9:c=110∨c=107∨c=35∨c=34∨c=40∨c=104∨c=115∨c=112∨c=102:=by
  unfold Sp.kL at hk;omega
 have named:∀(k:Int),(k=1∨k=6)→Sp.kL c=k→∀(H1:NP) (w1:World),Hst w0 None w0 H1 w1→Calls prog 158 #[.pointer (some a),.int .i64 (-1)] w1 (fun e w2=>∃r2:Int,e=.returned (.int .i64 r2)∧Kept H1 w1 w2∧∀w3,Hst w0 H1 w2 H1 w3→TreK w0 a x (Sp.kI (bts x) (Sp.jT (bts x) d) (Sp.kL c) n j) k r2 0 0 ⟨#[]⟩ Sl.nil w3):=fun k hk6 hkc H1 w1 hs1=>by
  have e:Sp.kI (bts x) (Sp.jT (bts x) d) (Sp.kL c) n j=(Sp.zV (bts x) (-1) (j+1)).bind fun v i=>.ok (Sp.tre k v 0 0 [] [],n) i:=by rw [hkc];unfold Sp.kI;rw [if_pos hk6]
  refine (jAQ a x (-1) _ w1 (D1 hs1).st hc).mono ?_;rintro _ w2 ⟨m,rfl,h2,E2,hm⟩;obtain ⟨k2,D2⟩:=(D1 hs1).to h2 E2;refine ⟨_,rfl,k2,fun w3 hs3=>⟨[],?_,(D2.hst hs3).ext,fun t i he=>?_⟩⟩
  ·rw [e];simpa only [Sp.nOf,Sp.Rr.bind_assoc,Sp.Rr.ok_bind] using (D2.hst hs3).st
  ·rw [e] at he;obtain ⟨v,i',hv,he⟩:=Sp.kS he;cases he;rw [hm n (j+1) _ _ rfl hv];exact ⟨rfl,TreeAt.leaf⟩
 rcases hc9 with rfl | rfl | rfl | rfl | rfl | rfl | rfl | rfl | rfl
 ·exact Br.t rfl (named 1 (.inl rfl) rfl)
 ·exact Br.f rfl (Br.t rfl (named 6 (.inr rfl) rfl))
 ·refine Br.f rfl (Br.f rfl (Br.t rfl (fun H1 w1 hs1=>?_)))
  have e:Sp.kI (bts x) (Sp.jT (bts x) d) (Sp.kL 35) n j=(Sp.qQ (bts x) (j+1)).bind fun v i=>.ok (Sp.tre 2 0 0 v [] [],n) i:=rfl
  refine (jKX a x _ w1 (D1 hs1).st hc).mono ?_
  rintro _ w2 ⟨m,f,rfl,h2,E2,hm⟩
  obtain ⟨k2,D2⟩:=(D1 hs1).to h2 E2
  refine ⟨_,_,rfl,k2,fun w3 hs3=>⟨[],?_,(D2.hst hs3).ext,fun t i he=>?_⟩⟩
  ·rw [e]
   simpa only [Sp.nOf,Sp.Rr.bind_assoc,Sp.Rr.ok_bind] using (D2.hst hs3).st
  ·rw [e] at he
   obtain ⟨v,i',hv,he⟩:=Sp.kS he
   cases he
   rw [(hm n (j+1) rfl).2 _ _ hv]
   exact ⟨rfl,TreeAt.leaf⟩
 ·refine Br.f rfl (Br.f rfl (Br.f rfl (Br.t rfl (fun H1 w1 hs1=>?_))))
  have e:Sp.kI (bts x) (Sp.jT (bts x) d) (Sp.kL 34) n j=(Sp.qR (bts x) j).bind fun v i=>.ok (Sp.tre 3 0 0 0 v [],n) i:=rfl
  refine (jMI a x n j w1 (D1 hs1).st hc).mono ?_
  rintro _ w2 ⟨r,rfl,h2,E2,hm⟩
  obtain ⟨k2,D2⟩:=(D1 hs1).to h2 E2
  refine ⟨_,rfl,k2,fun w3 hs3=>⟨[],?_,(D2.hst hs3).ext,fun t i he=>?_⟩⟩
  ·rw [e]
   simpa only [Sp.nOf,Sp.Rr.bind_assoc,Sp.Rr.ok_bind] using (D2.hst hs3).st
  ·rw [e] at he
   obtain ⟨v,i',hv,he⟩:=Sp.kS he
   cases he
   rw [hm _ _ hv]
   exact ⟨rfl,TreeAt.leaf⟩
 ·refine Br.f rfl (Br.f rfl (Br.f rfl (Br.f rfl (Br.t rfl (fun H1 w1 hs1=>?_)))))
  have e:Sp.kI (bts x) (Sp.jT (bts x) d) (Sp.kL 40) n j=(Sp.jT (bts x) d (j+1) n).bind fun a i1=>(Sp.jT (bts x) d i1 a.2).bind fun b i2=>(Sp.kA (bts x) 41 i2).bind fun _ i3=>.ok (Sp.tre 4 0 0 0 [] [a.1,b.1],b.2) i3:=rfl
  have d1:=D1 hs1
  refine (hT _ w1 d1.st).mono ?_
  rintro _ w2 ⟨T1,s1,rfl,h2,E2,g1⟩
  obtain ⟨k2,D2⟩:=d1.to h2 E2
  obtain ⟨ka,fa,ta,ua,ya,ksa⟩:=T1
  refine ⟨ka,fa,ta,ua,ya,s1,rfl,k2,fun H2 w3 hs3=>?_⟩
  have D3:=D2.hst hs3
  refine (hT _ w3 D3.st).mono ?_
  rintro _ w4 ⟨T2,s2,rfl,h4,E4,g2⟩
  obtain ⟨k4,D4⟩:=D3.to h4 E4
  obtain ⟨kb,fb,tb,ub,yb,ksb⟩:=T2
  refine ⟨kb,fb,tb,ub,yb,s2,rfl,k4,fun H3 w5 hs5=>?_⟩
  have D5:=D4.hst hs5
  refine (xY a x _ w5 D5.st hc 41).mono ?_
  rintro _ w6 ⟨rfl,h6,E6⟩
  obtain ⟨k6,D6⟩:=D5.to h6 E6
  refine ⟨rfl,k6,fun p4 w7 n7 w8 hs8=>?_⟩
  have E7:Pure w6 w7:=Ext.new n7
  obtain ⟨_,D7⟩:=D6.to (D6.st.pure E7) E7.pure
  have D8:=D7.hst hs8
  refine ⟨[.mk ka fa ta ua ya ksa,.mk kb fb tb ub yb ksb],?_,D8.ext,fun t i he=>?_⟩
  ·rw [e]
   simpa only [Sp.nOf,Sp.Rr.bind_assoc,Sp.Rr.ok_bind] using D8.st
  ·rw [e] at he
   obtain ⟨va,i1,hv1,he⟩:=Sp.kS he
   obtain ⟨vb,i2,hv2,he⟩:=Sp.kS he
   obtain ⟨_,i3,_,he⟩:=Sp.kS he
   cases he
   obtain ⟨e1,t1⟩:=g1 n (j+1) va i1 rfl hv1
   obtain ⟨e2,t2⟩:=g2 va.2 i1 vb i2 (by rw [Sp.Rr.ok_bind,Sp.nOf,hv1];rfl) hv2
   have z1:=d1.ext.size
   have z3:=D3.ext.size
   have z6:=D6.ext.size
   have hp:=n7.at_size
   have B7:=Box.of_new n7
   have l7:=B7.lt
   have A2:TT w0 w2 H1 s1 (.mk ka fa ta ua ya ksa):=t1.mono (fun b hb=>⟨by omega,hb.2,fun hh=>by have:=(d1.oH _ hh).2;omega⟩)
   have A7:=TreeAt.pure (TT.ext (TT.hst (TT.ext (TT.hst A2 hs3) E4 la) hs5) E6 la) E7
   have B4:TT w0 w4 H2 s2 (.mk kb fb tb ub yb ksb):=t2.mono (fun b hb=>⟨by omega,hb.2,fun hh=>by have:=(D3.oH _ hh).2;omega⟩)
   have B7':=TreeAt.pure (TT.ext (TT.hst B4 hs5) E6 la) E7
   have z7:=E7.size
   have up:∀b,(w0.heap.size≤b∧b<w6.heap.size∧¬ H3 b)→(w0.heap.size≤b∧b<w7.heap.size∧¬ H3 b):=fun b hb=>⟨hb.1,by omega,hb.2.2⟩
   have TO:TT w0 w7 H3 (Sl.mk (some p4) 2 2) (.mk 4 0 0 0 ⟨#[]⟩ [.mk ka fa ta ua ya ksa,.mk kb fb tb ub yb ksb]) :=
    TreeAt.pair (A:=.mk ka fa ta ua ya ksa) (B:=.mk kb fb tb ub yb ksb) (sa:=s1) (sb:=s2) B7 ⟨by omega,by omega,fun hh=>by have:=(D6.oH _ hh).2;omega⟩ (A7.mono up) (B7'.mono up)
   have TF:=(TT.hst TO hs8).mono (S':=fun b=>w0.heap.size≤b∧b<w8.heap.size) (fun b hb=>⟨hb.1,hb.2.1⟩)
   rw [e1,e2] at TF ⊢
   exact ⟨rfl,TF⟩
 ·refine Br.f rfl (Br.f rfl (Br.f rfl (Br.f rfl (Br.f rfl (Br.t rfl (fun H1 w1 hs1=>?_))))))
  have e:Sp.kI (bts x) (Sp.jT (bts x) d) (Sp.kL 104) n j=(Sp.kN (bts x) (Sp.jT (bts x) d) n (j+1)).bind fun a i=>.ok (Sp.tre 5 0 0 0 [] [a.1],a.2) i:=rfl
  have d1:=D1 hs1
  have z1:=d1.ext.size
  refine (oK a x d hd hT hc 5 0 0 0 ⟨#[]⟩ Sl.nil _ w1 d1.st).mono ?_
  rintro _ w2 ⟨s',Z,rfl,h2,E2,g⟩
  obtain ⟨k2,D2⟩:=d1.to h2 E2
  refine ⟨_,_,_,_,_,s',rfl,k2,fun w3 hs3=>⟨[Z],?_,(D2.hst hs3).ext,fun t i he=>?_⟩⟩
  ·rw [e]
   simpa only [Sp.nOf,Sp.Rr.bind_assoc,Sp.Rr.ok_bind] using (D2.hst hs3).st
  ·rw [e] at he
   obtain ⟨v,i',hv,he⟩:=Sp.kS he
   cases he
   obtain ⟨e1,t1⟩:=g n (j+1) _ _ rfl hv
   have A2:TT w0 w2 H1 s' (.mk 5 0 0 0 ⟨#[]⟩ [Z]):=t1.mono (fun b hb=>⟨by omega,hb.2,fun hh=>by have:=(d1.oH _ hh).2;omega⟩)
   have TF:=(TT.hst A2 hs3).mono (S':=fun b=>w0.heap.size≤b∧b<w3.heap.size) (fun b hb=>⟨hb.1,hb.2.1⟩)
   rw [e1] at TF ⊢
   exact ⟨rfl,TF⟩
 ·refine Br.f rfl (Br.f rfl (Br.f rfl (Br.f rfl (Br.f rfl (Br.f rfl (Br.t rfl (fun H1 w1 hs1=>?_)))))))
  have e:Sp.kI (bts x) (Sp.jT (bts x) d) (Sp.kL 115) n j=(Sp.zV (bts x) (-1) (j+1)).bind fun v i=>(Sp.kN (bts x) (Sp.jT (bts x) d) n i).bind fun a i2=>.ok (Sp.tre 7 v 0 0 [] [a.1],a.2) i2:=rfl
  have d1:=D1 hs1
  have z1:=d1.ext.size
  refine (jAQ a x (-1) _ w1 d1.st hc).mono ?_
  rintro _ w2 ⟨m,rfl,h2,E2,hm⟩
  obtain ⟨k2,D2⟩:=d1.to h2 E2
  have z2:=D2.ext.size
  refine ⟨m,rfl,k2,?_⟩
  refine (oK a x d hd hT hc 7 m 0 0 ⟨#[]⟩ Sl.nil _ w2 D2.st).mono ?_
  rintro _ w3 ⟨s',Z,rfl,h3,E3,g⟩
  obtain ⟨k3,D3⟩:=D2.to h3 E3
  refine ⟨_,_,_,_,_,s',rfl,k3,fun w4 hs4=>⟨[Z],?_,(D3.hst hs4).ext,fun t i he=>?_⟩⟩
  ·rw [e]
   simpa only [Sp.nOf,Sp.Rr.bind_assoc,Sp.Rr.ok_bind] using (D3.hst hs4).st
  ·rw [e] at he
   obtain ⟨v,i1,hv,he⟩:=Sp.kS he
   obtain ⟨vb,i2,hv2,he⟩:=Sp.kS he
   cases he
   obtain rfl:=hm n (j+1) v i1 rfl hv
   obtain ⟨e1,t1⟩:=g n i1 vb _ (by simp only [Sp.Rr.ok_bind,hv]) hv2
   have A3:TT w0 w3 H1 s' (.mk 7 v 0 0 ⟨#[]⟩ [Z]):=t1.mono (fun b hb=>⟨by omega,hb.2,fun hh=>by have:=(D2.oH _ hh).2;omega⟩)
   have TF:=(TT.hst A3 hs4).mono (S':=fun b=>w0.heap.size≤b∧b<w4.heap.size) (fun b hb=>⟨hb.1,hb.2.1⟩)
   rw [e1] at TF ⊢
   exact ⟨rfl,TF⟩
 all_goals
  refine Br.f rfl (Br.f rfl (Br.f rfl (Br.f rfl (Br.f rfl (Br.f rfl (Br.f rfl (fun H1 w1 hs1=>?_)))))))
  have d1:=D1 hs1
  have z1:=d1.ext.size
  refine (jAQ a x (-1) _ w1 d1.st hc).mono ?_
  rintro _ w2 ⟨m,rfl,h2,E2,hm⟩
  obtain ⟨k2,D2⟩:=d1.to h2 E2
  refine ⟨m,rfl,k2,fun H5 w3 hs3=>?_⟩
  have D3:=D2.hst hs3
  refine (xY a x _ w3 D3.st hc 62).mono ?_
  rintro _ w4 ⟨rfl,h4,E4⟩
  obtain ⟨k4,D4⟩:=D3.to h4 E4
  refine ⟨rfl,k4,?_⟩
  refine (jAQ a x m _ w4 D4.st hc).mono ?_
  rintro _ w5 ⟨m2,rfl,h5,E5,hm2⟩
  obtain ⟨k5,D5⟩:=D4.to h5 E5
  refine ⟨m2,rfl,k5,fun w6 hs6=>?_⟩
  have D6:=D5.hst hs6
  have z6:=D6.ext.size
  refine (oK a x d hd hT hc _ m m2 0 ⟨#[]⟩ Sl.nil _ w6 D6.st).mono ?_
  rintro _ w7 ⟨s',Z,rfl,h7,E7,g⟩
  obtain ⟨k7,D7⟩:=D6.to h7 E7
  refine ⟨_,_,_,_,_,s',rfl,k7,fun w8 hs8=>⟨[Z],?_,(D7.hst hs8).ext,fun t i he=>?_⟩⟩
  ·have:=(D7.hst hs8).st
   rw [jLK (bts x) (Sp.jT (bts x) d) n j m (Sp.kL _) (fun v i hv=>hm n (j+1) v i rfl hv)] at this
   exact this
  ·obtain ⟨v,i1,hv,he⟩:=Sp.kS he
   obtain ⟨_,i2,hv2,he⟩:=Sp.kS he
   obtain ⟨u,i3,hv3,he⟩:=Sp.kS he
   obtain ⟨vb,i4,hv4,he⟩:=Sp.kS he
   cases he
   obtain rfl:=hm n (j+1) v i1 rfl hv
   obtain rfl:=hm2 n i2 u i3 (by simp only [Sp.Rr.ok_bind,hv,hv2]) hv3
   obtain ⟨e1,t1⟩:=g n i3 vb _ (by simp only [Sp.Rr.ok_bind,hv,hv2,hv3]) hv4
   have A7:TT w0 w7 H5 s' _:=t1.mono (fun b hb=>⟨by omega,hb.2,fun hh=>by have:=(D6.oH _ hh).2;omega⟩)
   have TF:=(TT.hst A7 hs8).mono (S':=fun b=>w0.heap.size≤b∧b<w8.heap.size) (fun b hb=>⟨hb.1,hb.2.1⟩)
   rw [e1] at TF ⊢
   exact ⟨rfl,TF⟩
end
theorem jFR (c:UInt8):(!(((c.toNat:Int) == 110) || ((c.toNat:Int) == 35) || ((c.toNat:Int) == 107) || ((c.toNat:Int) == 34) || ((c.toNat:Int) == 40) || ((c.toNat:Int) == 104) || ((c.toNat:Int) == 115) || ((c.toNat:Int) == 112) || ((c.toNat:Int) == 102)))=decide (Sp.kL c.toNat=0):=by
 have:∀c:Fin 256,(!(((c.val:Int) == 110) || ((c.val:Int) == 35) || ((c.val:Int) == 107) || ((c.val:Int) == 34) || ((c.val:Int) == 40) || ((c.val:Int) == 104) || ((c.val:Int) == 115) || ((c.val:Int) == 112) || ((c.val:Int) == 102)))=decide (Sp.kL c.val=0):=by decide +kernel
 exact this ⟨c.toNat,c.toNat_lt⟩
section
variable (a:Addr) (x:ByteArray) (hc:(bts x).length≤10000000)
include hc
set_option maxHeartbeats 1000000 in
theorem jEX (D:Nat) (hD:D≤64) (hR:∀d,D=d+1→jCZ a x d):jCZ a x D:=by
 intro q w0 h;refine (w_H1 (some a) (64 - (D:Int)) w0 (fun k f to u y s w'=>TreK w0 a x (q.bind fun n i=>Sp.jT (bts x) D i n) k f to u y s w') ?_).mono ?_
 ·unfold m_H1;have hl:=kR x;have la:=h.lt;have bad:∀{R:Sp.Rt} {er:Int} {k:Nat} {w w':World} {H:NP},R=.no er k→DS w0 w H a x (.no er k)→Hst w0 H w H w'→TreK w0 a x R 0 0 0 0 ⟨#[]⟩ Sl.nil w':=fun e Dw hs=>⟨[],by subst e;exact (Dw.hst hs).st,(Dw.hst hs).ext,fun t m he=>by rw [e] at he;cases he⟩;refine ⟨a,rfl,fun H1 w1 hs1=>?_⟩;have D1:=(DS.start h hc).hst hs1;cases q with
  | no er k =>
   have st:=D1.st
   obtain ⟨h0,i,n,hi,r1⟩:=st
   exact ⟨er,vT r1,Br.t (by simpa using h0) (fun w2 hs2=>bad rfl D1 hs2)⟩
  | ok n i =>
   have hi:=D1.st.2.1
   have hn:=D1.st.2.2
   refine ⟨0,vT D1.st.1,Br.f rfl ?_⟩
   refine (jCV a x (.ok n i) w1 D1.st hc).mono ?_
   rintro _ w3 ⟨rfl,h3,E3⟩
   obtain ⟨k3,D3⟩:=D1.to h3 E3
   rw [Sp.Rr.ok_bind] at D3 ⊢
   refine ⟨rfl,k3,a,rfl,fun w4 hs4=>?_⟩
   have D4:=D3.hst hs4
   obtain ⟨j,hj⟩:∃j,Sp.jU (bts x) i=j:=⟨_,rfl⟩
   rw [hj] at D4
   have r4:=D4.st.1
   have hjl:=D4.st.2.1
   refine ⟨_,zL r4,a,rfl,_,r4.cell0,fun hge=>?_,fun hlt=>⟨a,rfl,fun w7 hs7=>?_⟩⟩
   ·have hge:j=(bts x).length:=by have:=of_decide_eq_true hge;omega
    refine (uW a x j n w4 D4.st).mono ?_
    rintro _ w5 ⟨rfl,h5,E5⟩
    obtain ⟨k5,D5⟩:=D4.to h5 E5
    refine ⟨rfl,k5,fun w6 hs6=>bad ?_ D5 hs6⟩
    rw [if_pos hge]
    cases D <;> (unfold Sp.jT;rw [hj,List.getElem?_eq_none (by omega)])
   have hlt:j<(bts x).length:=by have:=of_decide_eq_false hlt;omega
   have D7:=D4.hst hs7
   have r7:=D7.st.1
   have hg:=List.getElem?_eq_getElem hlt
   have ix:=yQ x j hlt w7
   generalize (bts x)[j]=c at *
   refine ⟨_,r7.cell0,a,rfl,_,zL r7,_,ix,?_⟩
   rw [jFR]
   refine ⟨fun hk=>fun H10 w16 hs16=>?_,fun hk=>⟨a,rfl,fun H10 w16 hs16=>?_⟩⟩
   ·have hk:=of_decide_eq_true hk
    have D16:=D7.hst hs16
    refine (uW a x j n w16 D16.st).mono ?_
    rintro _ w25 ⟨rfl,h25,E25⟩
    obtain ⟨k25,D25⟩:=D16.to h25 E25
    refine ⟨rfl,k25,fun w26 hs26=>bad ?_ D25 hs26⟩
    rw [if_neg (show ¬ j=(bts x).length by omega)]
    cases D <;> (unfold Sp.jT;rw [hj,hg];simp only;rw [if_pos hk])
   ·have hk:=of_decide_eq_false hk
    have D16:=D7.hst hs16
    refine ⟨_,rdr_n D16.st.1,fun H20 w36 hs36=>?_⟩
    have D36:=D16.hst hs36
    unfold m_H1_j1
    have large:(D=0∨n=4096)→Sp.jT (bts x) D i n=.no 52 j:=fun hh=>by
     cases D with
     | zero=>unfold Sp.jT;rw [hj,hg];simp only;rw [if_neg hk]
     | succ d=>unfold Sp.jT;rw [hj,hg];simp only;rw [if_neg hk,if_pos (by omega)]
    refine ⟨fun hb=>⟨a,rfl,_,zL D36.st.1,?_⟩,fun hb=>?_⟩
    ·rw [Bool.or_eq_true,decide_eq_true_eq,decide_eq_true_eq] at hb
     refine (vV a x 52 j (by decide) _ w36 D36.st).mono ?_
     rintro _ w27 ⟨rfl,h27,E27⟩
     obtain ⟨k27,D27⟩:=D36.to h27 E27
     exact ⟨rfl,k27,fun w28 hs28=>bad (large (by omega)) D27 hs28⟩
    ·rw [Bool.or_eq_false_iff,decide_eq_false_iff_not,decide_eq_false_iff_not] at hb
     obtain ⟨d,rfl⟩:∃d,D=d+1:=⟨D - 1,by omega⟩
     have hn':n<4096:=by omega
     have r36:=D36.st.1
     refine ⟨a,rfl,_,rdr_n r36,a,rfl,r36.canW (i:=2) (by simp),D36.nH,?_⟩
     rintro w29 rfl
     rw [kH (show n≤4096 by omega) (by omega)]
     obtain ⟨_,D29⟩:=D36.to (q':=.ok (n+1) j) ⟨jJH r36 (n+1),hjl,by omega⟩ vE
     generalize w36.setCell (a.add 2) (.int .i64 ((n+1:Nat):Int))=w29 at *
     have r29:=D29.st.1
     refine ⟨a,rfl,_,zL r29,a,rfl,r29.canW (i:=1) (by simp),D29.nH,?_⟩
     rintro w30 rfl
     rw [kH (show j≤(bts x).length by omega) (by omega)]
     obtain ⟨_,D30⟩:=D29.to (q':=.ok (n+1) (j+1)) ⟨vA r29 (j+1),hlt,by omega⟩ vE
     generalize w29.setCell (a.add 1) (.int .i64 ((j+1:Nat):Int))=w30 at *
     refine (jMH a x d (by omega) (hR d rfl) hc c.toNat hk (n+1) j w30 D30.st).mono ?_
     rintro _ w31 ⟨k,f,to,u,y,s,rfl,ks,h31,E31,g⟩
     obtain ⟨k31,D31⟩:=D30.to h31 E31
     have z30:=D30.ext.size
     refine ⟨k,f,to,u,y,s,rfl,k31,fun H19 w33 hs33=>?_⟩
     have D33:=D31.hst hs33
     refine (jCV a x _ w33 D33.st hc).mono ?_
     rintro _ w34 ⟨rfl,h34,E34⟩
     obtain ⟨k34,D34⟩:=D33.to h34 E34
     refine ⟨rfl,k34,fun w35 hs35=>?_⟩
     have D35:=D34.hst hs35
     have hT:Sp.jT (bts x) (d+1) i n=(Sp.kI (bts x) (Sp.jT (bts x) d) (Sp.kL c.toNat) (n+1) j).bind fun t k=>.ok t (Sp.jU (bts x) k):=by
      rw [Sp.jT];rw [hj,hg];simp only;rw [if_neg hk,if_neg (by omega)]
     refine ⟨ks,?_,D35.ext,fun t m he=>?_⟩
     ·rw [hT]
      simpa only [Sp.nOf,Sp.Rr.bind_assoc,Sp.Rr.ok_bind] using D35.st
     ·rw [hT] at he
      obtain ⟨t',m',h1,he⟩:=Sp.kS he
      cases he
      obtain ⟨e1,t1⟩:=g t m' h1
      have A31:TT w0 w31 H20 s t.1:=t1.mono (fun b hb=>⟨by omega,hb.2,fun hh=>by have:=(D30.oH _ hh).2;omega⟩)
      exact ⟨e1,(TT.hst (TT.ext (TT.hst A31 hs33) E34 la) hs35).mono (fun b hb=>⟨hb.1,hb.2.1⟩)⟩
 ·rintro e w' ⟨k,f,to,u,y,s,rfl,ks,h1,E1,g⟩;refine ⟨.mk k f to u y ks,s,rfl,by simpa only [Sp.nOf,Sp.Rr.bind_assoc] using h1,E1,fun n i t j hq ht=>?_⟩;subst hq;obtain ⟨e1,t1⟩:=g t j ht;exact ⟨e1,e1▸t1⟩
theorem jIQ:∀d,d≤64→jCZ a x d
 | 0,h=>jEX a x hc 0 h (fun d e=>by omega)
 | d+1,h=>jEX a x hc (d+1) h (fun d' e=>by
  obtain rfl:d=d':=by omega
  exact jIQ d (by omega))
end
end Go.Proofs
end
section
open Go Go.SE
namespace Go.Proofs
open Tryz
attribute [local irreducible] Calls
theorem jGD (x:ByteArray) (w0:World):Calls prog 21 #[.string x] w0 (fun e w'=>jCX w0 (Sp.kZ (bts x)) e w'):=by
 refine (w_O x w0 (fun k f t u y s e1 e2 w'=>∃ks,Sp.Tree.mk k f t u y ks=(Sp.kZ (bts x)).1∧e1=(Sp.kZ (bts x)).2.1∧e2=(Sp.kZ (bts x)).2.2∧TreeAt (fun b=>w0.heap.size≤b∧b<w'.heap.size) w' s (Sp.kZ (bts x)).1∧Pure w0 w') ?_).mono ?_
 ·unfold m_O;have hl:=kR x;intro p1 w1 n1;have E1:Pure w0 w1:=Ext.new n1;have B1:=Box.of_new n1;have hp1:=n1.at_size;have own1:∀{w w':World} {vs:List Value},Pure w0 w→w'=storeRow w p1 vs→Pure w0 w':=fun E e=>by
   subst e;exact E.trans' (Ext.storeRow _ _ _) (fun b hb hh=>by omega)
  unfold Sp.kZ;refine ⟨fun hbig=>?_,fun hbig=>?_⟩
  ·have hbig:1048576<(bts x).length:=by have:=of_decide_eq_true hbig;omega
   rw [if_pos hbig];refine ⟨fun j hj=>B1.canW (by simpa using hj),fun h=>h,?_⟩;intro w2 hw2;have B2:Box w2 p1 [(.int .i64 0),(.int .i64 0),(.int .i64 0),(.int .u64 0),(.string (⟨#[]⟩:ByteArray)),Sl.nil.v] 28:=by rw [hw2];exact B1.store rfl
   exact ⟨0,0,0,0,⟨#[]⟩,Sl.nil,B2.row,[],rfl,rfl,rfl,TreeAt.leaf,own1 E1 hw2⟩
  ·have hbig:¬ 1048576<(bts x).length:=by have:=of_decide_eq_false hbig;omega
   rw [if_neg hbig];intro p2 w3 n3;have E3:Pure w1 w3:=Ext.new n3;have E03:=E1.trans E3;have hp2:=n3.at_size;have z1:=E1.size;have l1:=B1.lt;have ne:p1.block≠p2.block:=by omega
   have R3:RSt w3 p2 x (.ok 0 0):=⟨Box.of_new n3,Nat.zero_le _,Nat.zero_le _⟩;have hT:=jIQ p2 x (by omega) 64 (Nat.le_refl _) (.ok 0 0) w3 R3;refine Calls.mono hT ?_;rintro _ w4 ⟨T,s,rfl,h4,E4,g⟩;obtain ⟨tk,tf,tt,tu,ty,tks⟩:=T;refine ⟨tk,tf,tt,tu,ty,s,rfl,E4.kept (fun b hb=>hb.elim),fun H1 w6 hs6=>?_⟩;have g:=fun t j=>g 0 0 t j rfl;have h4:RSt w4 p2 x (Sp.nOf (Sp.jT (bts x) 64 0 0)):=h4;have E04:Pure w0 w4:=E03.trans' E4 (fun b hb hh=>by omega);have z3:=E3.size;have z4:=E4.size;have nH:∀b,b<w4.heap.size→¬ H1 b:=hs6.disj (G:=fun b=>b<w4.heap.size) (fun b hb=>⟨hb,fun h=>h⟩);have l2:=R3.lt;have E06:Pure w0 w6:=E04.hst hs6;have h6:=h4.ext hs6.ext (nH p2.block (by omega));have B6:=((B1.pure E3).ext E4 ne).ext hs6.ext (nH p1.block (by omega));have z6:=hs6.ext.size;unfold Sp.lQ;have fin:∀{w:World} {k f t u:Int} {y:ByteArray} {s:Sl} {vs:List Value} {T:TypeId},Box w p1 vs T→vs.length=6→Pure w0 w→Box (storeRow w p1 [(.int .i64 k),(.int .i64 f),(.int .i64 t),(.int .u64 u),(.string y),s.v]) p1 [(.int .i64 k),(.int .i64 f),(.int .i64 t),(.int .u64 u),(.string y),s.v] T∧Pure w0 (storeRow w p1 [(.int .i64 k),(.int .i64 f),(.int .i64 t),(.int .u64 u),(.string y),s.v]):=fun B hv E=>⟨B.store (by simp [hv]),own1 E rfl⟩;have bad : ∀ {w : World} {er : Int} {k : Nat} {vs : List Value} {T : TypeId} {R : Sp.Tree × Int × Int}, R = (Sp.jDQ, er, (k : Int)) → RSt w p2 x (.no er k) → Box w p1 vs T → vs.length = 6 → Pure w0 w →
     m_O_j2 p1 p2 tk tf tt tu ty s H1 w (fun k f t u y s e1 e2 w'=>∃ks,Sp.Tree.mk k f t u y ks=R.1∧e1=R.2.1∧e2=R.2.2∧TreeAt (fun b=>w0.heap.size≤b∧b<w'.heap.size) w' s R.1∧Pure w0 w'):=fun {w er k vs T R} e st B hv E=>by
    subst e
    obtain ⟨h0,i,n,hi,r⟩:=st
    unfold m_O_j2
    have rd:Rdr w.drew p2 x i n er k:=r.pure (Ext.drew w)
    refine ⟨er,vT r,Br.t (by simpa using h0) ⟨fun w'=>Rdr w' p2 x i n er k,rd,?_⟩⟩
    rintro w7 rfl
    have Ed:Pure w0 w.drew:=E.trans (Ext.drew w)
    have Bd:=B.pure (Ext.drew w)
    refine ⟨er,fun w' h=>vT h,(k:Int),fun w' h=>rdr_k h,fun j hj=>Bd.canW (by omega),nH _ (by omega),?_⟩
    rintro w8 rfl
    obtain ⟨B8,E8⟩:=fin (k:=0) (f:=0) (t:=0) (u:=0) (y:=⟨#[]⟩) (s:=Sl.nil) Bd hv Ed
    exact ⟨rd.ext (Ext.storeRow _ _ _) (fun e=>ne e.symm),0,0,0,0,⟨#[]⟩,Sl.nil,B8.row,[],rfl,rfl,rfl,TreeAt.leaf,E8⟩
   generalize Sp.jT (bts x) 64 0 0=R at *;cases R with
   | no er k =>
    have h6':=h6
    obtain ⟨h0,i,n,hi,r⟩:=h6'
    refine ⟨er,vT r,Br.f (by simpa using h0) ?_⟩
    unfold m_O_j1
    exact Br.f rfl (bad rfl h6 B6 rfl E06)
   | ok t i =>
    obtain ⟨e1,t1⟩:=g t i rfl
    have r6:Rdr w6 p2 x i t.2 0 0:=h6.1
    have hi:i≤(bts x).length:=h6.2.1
    refine ⟨0,vT r6,Br.t rfl ⟨_,zL r6,?_⟩⟩
    unfold m_O_j1
    by_cases hlt:i<(bts x).length
    ·rw [decide_eq_true (show (i:Int)<(x.size:Int) by omega)]
     refine Br.t rfl ⟨_,zL r6,?_⟩
     refine (vV p2 x 4 i (by decide) (.ok t.2 i) w6 h6).mono ?_
     rintro _ w10 ⟨rfl,h10,E10⟩
     exact ⟨rfl,E10.kept (fun b hb e=>nH p2.block (by omega) (e▸hb)),bad (by simp only;rw [if_pos hlt]) h10 (B6.ext E10 ne) rfl (E06.trans' E10 (fun b hb hh=>by omega))⟩
    ·rw [decide_eq_false (show ¬ (i:Int)<(x.size:Int) by omega)]
     refine Br.f rfl ?_
     unfold m_O_j2
     refine ⟨0,vT r6,Br.f rfl ⟨fun j hj=>B6.canW (by simpa using hj),nH _ (by omega),?_⟩⟩
     rintro w9 rfl
     obtain ⟨B9,E9⟩:=fin (k:=tk) (f:=tf) (t:=tt) (u:=tu) (y:=ty) (s:=s) B6 rfl E06
     refine ⟨tk,tf,tt,tu,ty,s,B9.row,tks,?_⟩
     simp only
     rw [if_neg hlt]
     refine ⟨e1,rfl,rfl,?_,E9⟩
     rw [← e1]
     have T6:TreeAt (fun b=>w3.heap.size≤b∧b<w4.heap.size) w6 s (.mk tk tf tt tu ty tks):=t1.ext hs6.ext (fun b hb=>nH b hb.2)
     have X9:Ext (·=p1.block) w6 (storeRow w6 p1 [(.int .i64 tk),(.int .i64 tf),(.int .i64 tt),(.int .u64 tu),(.string ty),s.v]):=Ext.storeRow _ _ _
     have z9:=X9.size
     exact (T6.ext X9 (fun b hb e=>by have:=hb.1;omega)).mono (fun b hb=>⟨Nat.le_trans (Nat.le_trans z1 z3) hb.1,Nat.lt_of_lt_of_le hb.2 (Nat.le_trans z6 z9)⟩)
 ·rintro e w' ⟨k,f,t,u,y,s,e1,e2,rfl,ks,h1,rfl,rfl,h2,h3⟩;refine ⟨s,?_,h2,h3⟩;rw [← h1];rfl
end Go.Proofs
end
section
open Go Go.SE
namespace Go.Sp
def lX (ts:List Tree):Pool:=ts.foldl (fun L t=>(of L t).2.2) []
end Go.Sp
namespace Go.Proofs
attribute [local irreducible] Calls
structure Pl2 (w0:World) (H:NP) (w:World) (p q:Addr) (L1 L2:Sp.Pool) (F1 F2:NP):Prop where
 pure:Pure w0 w
 pool:zP w p L1 F1
 ref:vD w q L2 F2
 o1:∀b,F1 b→w0.heap.size≤b∧¬ H b∧¬ F2 b
 o2:∀b,F2 b→w0.heap.size≤b∧¬ H b
section
variable {w0 w w':World} {H H':NP} {p q:Addr} {L1 L2:Sp.Pool} {F1 F2:NP}
theorem Pl2.pureE (h:Pl2 w0 H w p q L1 L2 F1 F2) (E:Pure w w'):Pl2 w0 H w' p q L1 L2 F1 F2:=⟨h.pure.trans E,h.pool.pure E,h.ref.pure E,h.o1,h.o2⟩
theorem Pl2.first (h:Pl2 w H w' p q L1 L2 F1 F2) (E:Pure w0 w):Pl2 w0 H w' p q L1 L2 F1 F2 :=
 ⟨E.trans h.pure,h.pool,h.ref,fun b hb=>⟨Nat.le_trans E.size (h.o1 b hb).1,(h.o1 b hb).2⟩,fun b hb=>⟨Nat.le_trans E.size (h.o2 b hb).1,(h.o2 b hb).2⟩⟩
theorem Pl2.hst (h:Pl2 w0 H w p q L1 L2 F1 F2) (hs:Hst w0 H w H' w'):Pl2 w0 H' w' p q L1 L2 F1 F2:=by
 have d:∀b,b<w.heap.size→¬ H b→¬ H' b:=fun b h1 h2=>hs.disj (G:=(·=b)) (fun c e=>by subst e;exact ⟨h1,h2⟩) b rfl;have d1:∀b,F1 b→¬ H' b:=fun b hb=>d b (h.pool.lt hb) (h.o1 b hb).2.1;have d2:∀b,F2 b→¬ H' b:=fun b hb=>d b (h.ref.lt hb) (h.o2 b hb).2;exact ⟨h.pure.hst hs,h.pool.ext hs.ext d1,h.ref.ext hs.ext d2,fun b hb=>⟨(h.o1 b hb).1,d1 b hb,(h.o1 b hb).2.2⟩,fun b hb=>⟨(h.o2 b hb).1,d2 b hb⟩⟩
theorem Pl2.of1 (h:Pl2 w0 H w p q L1 L2 F1 F2) (hH:∀b,H b→b<w.heap.size) {L:Sp.Pool} {F:NP} (hP:zP w' p L F) (hE:Ext F1 w w') (hF:∀b,F b→F1 b∨w.heap.size≤b):Pl2 w0 H w' p q L L2 F F2:=by
 refine ⟨h.pure.trans' hE (fun i hi hb=>by have:=(h.o1 i hb).1;omega),hP,h.ref.ext hE (fun b hb h1=>(h.o1 b h1).2.2 hb),fun b hb=>?_,h.o2⟩;rcases hF b hb with h1 | h1
 ·exact h.o1 b h1
 ·exact ⟨by have:=h.pure.size;omega,fun hh=>by have:=hH b hh;omega,fun hh=>by have:=h.ref.lt hh;omega⟩
theorem Pl2.of2 (h:Pl2 w0 H w p q L1 L2 F1 F2) (hH:∀b,H b→b<w.heap.size) {L:Sp.Pool} {F:NP} (hP:vD w' q L F) (hE:Ext F2 w w') (hF:∀b,F b→F2 b∨w.heap.size≤b):Pl2 w0 H w' p q L1 L F1 F:=by
 refine ⟨h.pure.trans' hE (fun i hi hb=>by have:=(h.o2 i hb).1;omega),h.pool.ext hE (fun b hb h1=>(h.o1 b hb).2.2 h1),hP,fun b hb=>⟨(h.o1 b hb).1,(h.o1 b hb).2.1,fun hh=>?_⟩,fun b hb=>?_⟩
 ·rcases hF b hh with h1 | h1
  ·exact (h.o1 b hb).2.2 h1
  ·have:=h.pool.lt hb;omega
 ·rcases hF b hb with h1 | h1
  ·exact h.o2 b h1
  ·exact ⟨by have:=h.pure.size;omega,fun hh=>by have:=hH b hh;omega⟩
end
end Go.Proofs
end
section
open Go Go.SE
namespace Go.Proofs
open Tryz
attribute [local irreducible] Calls
theorem jCO (p:Addr) {L:Sp.Pool} (hW:Sp.Wf L):∀(n:Nat) (t:Int) (w0:World) (F:NP),t.toNat=n→vD w0 p L F →
  Calls prog 20 #[.pointer (some p),.int .i64 t] w0 (RetT w0.heap.size w0 (Sp.zT L t)):=by
 intro n
 induction n using Nat.strongRecOn with
 | _ n ih =>
 intro t w0 F hn hP
 suffices key:∀K:Int→Int→Int→Int→ByteArray→Sl→WP,(∀k f t' u x s' w' ks,Sp.zT L t=.mk k f t' u x ks→TreeAt (w0.heap.size≤·) w' s' (.mk k f t' u x ks)→Pure w0 w'→K k f t' u x s' w')→m_S (some p) t w0 K by
  refine (w_S _ _ w0 (fun k f t' u x s' w'=>∃ks,Sp.zT L t=.mk k f t' u x ks∧TreeAt (w0.heap.size≤·) w' s' (.mk k f t' u x ks)∧Pure w0 w') (key _ (fun k f t' u x s' w' ks h1 h2 h3=>⟨ks,h1,h2,h3⟩))).mono ?_;rintro _ w' ⟨k,f,t',u,x,s',rfl,ks,h1,h2,h3⟩;rw [h1];exact ⟨s',rfl,h2,h3⟩
 intro K hK
 have hok:=hW.ok
 have hnil:∀b,¬ Sl.nil.blk b:=fun b hb=>by obtain ⟨a,h,_⟩:=hb;cases h
 unfold m_S
 intro H1 w1 hs1
 have E1:=hs1.first
 refine (jCQ p t w1 (hP.pure E1) hok).mono ?_
 rintro _ w2 ⟨k,f,t',u,x,a,b,r,rfl,⟨hnd,hr⟩,E2⟩
 have E02:=E1.trans E2
 have hs2:=hs1.again E2.keptP
 refine ⟨_,_,_,_,_,_,_,_,rfl,E2.keptP,fun h=>?_,fun h=>?_⟩
 ·intro H2 w5 hs5
  have hin:Sp.inP L t=false:=by rw [← hr];simpa using h
  exact hK _ _ _ _ _ _ _ [] (by rw [Sp.lM hin];rfl) TreeAt.leaf (E02.hst hs5)
 ·have hin:Sp.inP L t=true:=by rw [← hr];simpa using h
  have htr:=Sp.vL hW hin
  have hnode:=hW.node hin
  rw [← hnd] at htr hnode
  simp only at htr hnode
  obtain ⟨_,_,_,_,hkid,_,_⟩:=hnode
  have hpos:=Sp.zR.1 hin
  rw [yA]
  have J1 : ∀ (xs : Sl) (H : NP) (w : World) (ps : List (Sp.Tree × Sl)) (S' : NP), Hst w0 H w H w → Pure w0 w → Own H w 28 6 xs (ps.map jJJ) → ps.length ≤ 1 → (∀ p ∈ ps, TreeAt S' w p.2 p.1) → (∀ b, S' b → w0.heap.size ≤ b ∧ b < w.heap.size ∧ ¬ H b ∧ ¬ xs.blk b) → (∀ b, xs.blk b → w0.heap.size ≤ b) →
    ((Sp.shapeOf k).kids=2→ps.map Prod.fst=[Sp.zT L a])→((Sp.shapeOf k).kids≠2→ps.map Prod.fst=(Sp.jS ⟨k,f,t',u,x,a,b⟩).map (Sp.zT L)) →
    m_S_j1 (some p) k b k f t' u x xs w0 H w K:=by
   intro xs H w ps S' hs E O hpl hkids hS' hxs h2 h1
   unfold m_S_j1
   rw [yA]
   refine ⟨fun h=>?_,fun h=>?_⟩
   ·have hk2:(Sp.shapeOf k).kids=2:=by simpa using h
    have hps:=h2 hk2
    intro w9 hs9
    have E9:=E.hst hs9
    have O9:=O.hst hs9
    have E10:Pure w9 w9.drew:=Ext.drew w9
    refine ⟨fun _=>True,trivial,?_⟩
    rintro _ rfl
    have hb:=hkid b (by simp [Sp.jS,hk2])
    have hbp:=Sp.zR.1 hb.1
    refine (ih b.toNat (by omega) b w9.drew F rfl (hP.pure (E9.trans E10))).mono ?_
    rintro _ w11 ⟨s',rfl,hTb,E11⟩
    generalize hTt:Sp.zT L b=tb at *
    obtain ⟨k2,f2,t2,u2,x2,ks2⟩:=tb
    refine ⟨_,_,_,_,_,s',rfl,trivial,E11.keptP,?_⟩
    intro p5 w12 h12
    have E12:Pure w11 w12:=Ext.new h12
    refine ⟨trivial,?_⟩
    have hs12:Hst w0 H w12 H w12:=(hs9.again E10.keptP).again (E11.trans E12).keptP
    obtain ⟨s1,w13,hr13,hO13,hE13,hk13,hb13⟩:=(O9.pure ((E10.trans E11).trans E12)).append (P:=prog) (ty:=22) (c:=1) jAC hs12 (r:=kK (.mk k2 f2 t2 u2 x2 ks2) s') (Box.of_new h12).row rfl (tY _ _) (by simp;omega) (by simp [maxLen];omega)
    refine ⟨s1,w13,hr13,trivial,hk13,?_⟩
    intro w15 hs15
    have zd:w9.drew.heap.size=w9.heap.size:=rfl
    have z9:=hs9.ext.size
    have z11:=E11.size
    have z12:=E12.size
    have z13:=hE13.size
    have hS9:∀b,S' b→w0.heap.size≤b∧b<w9.heap.size∧¬ H b∧¬ xs.blk b:=fun b hb=>⟨(hS' b hb).1,by have:=(hS' b hb).2.1;omega,(hS' b hb).2.2.1,(hS' b hb).2.2.2⟩
    have hvs:∀b,s1.blk b→b<w13.heap.size∧¬ H b:=fun b hb=>⟨hO13.rows.lt hb,hO13.vis b hb⟩
    have hR15:=hO13.rows.ext hs15.ext (hs15.disj (G:=s1.blk) hvs)
    have e1:ps.map jJJ++[kK (.mk k2 f2 t2 u2 x2 ks2) s']=(ps++[((.mk k2 f2 t2 u2 x2 ks2:Sp.Tree),s')]).map jJJ:=by simp [jJJ]
    rw [e1] at hR15
    have hT:=TreeAt.of_pairs (S:=fun b=>w0.heap.size≤b) (k:=k) (f:=f) (t:=t') (u:=u) (x:=x) hR15 (fun b hb=>(hb13 b hb).elim (hxs b) (fun h=>by have:=E9.size;omega)) (fun q hq=>?_) (by simp;omega)
    ·have e2 : (ps ++ [((.mk k2 f2 t2 u2 x2 ks2 : Sp.Tree), s')]).map Prod.fst = (Sp.jS ⟨k, f, t', u, x, a, b⟩).map (Sp.zT L) := by
      rw [List.map_append,hps];simp [Sp.jS,hk2,hTt]
     rw [e2] at hT
     exact hK _ _ _ _ _ _ _ _ htr hT ((((E9.trans E10).trans E11).trans E12).trans' hE13 (fun i hi hb=>by have:=hxs i hb;omega) |>.hst hs15)
    ·rcases List.mem_append.1 hq with h | h
     ·have q1:=(hkids q h).hst hs9 (fun b hb=>⟨(hS' b hb).2.1,(hS' b hb).2.2.1⟩)
      have q2:=(q1.pure ((E10.trans E11).trans E12)).ext hE13 (fun b hb hy=>(hS' b hb).2.2.2 hy)
      exact (q2.hst hs15 (fun b hb=>⟨by have:=(hS9 b hb).2.1;omega,(hS' b hb).2.2.1⟩)).mono (fun b hb=>(hS' b hb).1)
     ·simp only [List.mem_singleton] at h;subst h
      have q1:=(hTb.lt.pure E12).ext hE13 (fun b hb hy=>by have:=O9.rows.lt hy;have:=hb.1;omega)
      exact (q1.hst hs15 (fun b hb=>⟨by have:=hb.2;omega,fun hh=>by have:=hs9.lt b hh;have:=hb.1;omega⟩)).mono (fun b hb=>by have:=hb.1;have:=E9.size;omega)
   ·have hk2:(Sp.shapeOf k).kids≠2:=by simpa using h
    intro w16 hs16
    have O16:=O.hst hs16
    have hT:=TreeAt.of_pairs (S:=fun b=>w0.heap.size≤b) (k:=k) (f:=f) (t:=t') (u:=u) (x:=x) O16.rows hxs (fun q hq=>((hkids q hq).hst hs16 (fun b hb=>⟨(hS' b hb).2.1,(hS' b hb).2.2.1⟩)).mono (fun b hb=>(hS' b hb).1)) (by omega)
    rw [h1 hk2] at hT
    exact hK _ _ _ _ _ _ _ _ htr hT (E.hst hs16)
  have hkk:=Sp.yM k
  refine ⟨fun h=>?_,fun h=>?_⟩
  ·have hk1:1≤(Sp.shapeOf k).kids:=by have:=of_decide_eq_true h;omega
   intro H3 w8 hs8
   have E8:=E02.hst hs8
   have E17:Pure w8 w8.drew:=Ext.drew w8
   refine ⟨fun _=>True,trivial,?_⟩
   rintro _ rfl
   have ha:=hkid a (by rcases hkk with h | h | h <;> simp [Sp.jS,h] <;> omega)
   have hap:=Sp.zR.1 ha.1
   refine (ih a.toNat (by omega) a w8.drew F rfl (hP.pure (E8.trans E17))).mono ?_
   rintro _ w18 ⟨s',rfl,hTa,E18⟩
   generalize hTt:Sp.zT L a=ta at *
   obtain ⟨k2,f2,t2,u2,x2,ks2⟩:=ta
   refine ⟨_,_,_,_,_,s',rfl,trivial,E18.keptP,?_⟩
   intro p6 w19 h19
   have E19:Pure w18 w19:=Ext.new h19
   refine ⟨trivial,?_⟩
   have hs19:Hst w0 H3 w19 H3 w19:=(hs8.again E17.keptP).again (E18.trans E19).keptP
   obtain ⟨s2,w20,hr20,hO20,hE20,hk20,hb20⟩:=(Own.nil (sz:=6) (e:=28) H3 w19).append (P:=prog) (ty:=22) (c:=1) jAC hs19 (r:=kK (.mk k2 f2 t2 u2 x2 ks2) s') (Box.of_new h19).row rfl (tY _ _) (by simp) (by simp [maxLen])
   refine ⟨s2,w20,hr20,trivial,hk20,?_⟩
   intro w21 hs21
   have zd:w8.drew.heap.size=w8.heap.size:=rfl
   have z18:=E18.size
   have z19:=E19.size
   have z20:=hE20.size
   have z21:=hs21.ext.size
   have E20:Pure w19 w20:=hE20.mono (fun b _ hb=>hnil b hb)
   have hs2n:∀b,s2.blk b→w19.heap.size≤b:=fun b hb=>(hb20 b hb).elim (fun h=>(hnil b h).elim) id
   refine J1 s2 H3 w21 [((.mk k2 f2 t2 u2 x2 ks2:Sp.Tree),s')] (fun b=>w8.heap.size≤b∧b<w18.heap.size) hs21.here ((((E8.trans E17).trans E18).trans E19).trans E20 |>.hst hs21) ?_ (by simp) ?_ ?_ (fun b hb=>by have:=hs2n b hb;have:=E8.size;omega) (fun _=>by simp) (fun hne=>?_)
   ·have:=hO20.hst hs21;simpa [jJJ] using this
   ·intro q hq
    simp only [List.mem_singleton] at hq;subst hq
    exact ((hTa.lt.pure E19).pure E20).hst hs21 (fun b hb=>⟨by have:=hb.2;omega,fun hh=>by have:=hs8.lt b hh;have:=hb.1;omega⟩)
   ·rintro b ⟨h1,h2⟩
    exact ⟨by have:=E8.size;omega,by omega,fun hh=>by have:=hs8.lt b hh;omega,fun hh=>by have:=hs2n b hh;omega⟩
   ·rcases hkk with h | h | h
    ·omega
    ·simp [Sp.jS,h,hTt]
    ·exact absurd h hne
  ·have hk0:(Sp.shapeOf k).kids=0:=by have:=of_decide_eq_false h;omega
   intro H3 w8 hs8
   exact J1 Sl.nil H3 w8 [] (fun _=>False) hs8.here (E02.hst hs8) (Own.nil _ _) (by simp) (by simp) (fun b h=>h.elim) (fun b h=>(hnil b h).elim) (fun h=>by omega) (fun _=>by simp [Sp.jS,hk0])
structure PP (w0:World) (H:NP) (w:World) (p q:Addr) (L:Sp.Pool) (F1 F2:NP):Prop where
 pl:Pl2 w0 H w p q L L F1 F2
 wf:Sp.Wf L
 nums:Sp.oN L
theorem bts_mk (l:List UInt8):bts ⟨l.toArray⟩=l:=by simp [bts]
section
variable {w0:World} (ht:Pow w0) (hv:ErrV w0)
include ht hv
theorem live6 {H:NP} {w:World} (E:Pure w0 w):Calls prog 9 #[] w (fun e w'=>∃r:Bool,e=.returned (.bool r)∧Kept H w w'∧(r=true∧Pure w0 w')):=by
 refine (jIP w (kT ht E) (vO hv E)).mono ?_;rintro _ w' ⟨r,rfl,hr,E'⟩;exact ⟨r,rfl,E'.keptP,hr,E.trans E'⟩
theorem jEL {p q:Addr} {L:Sp.Pool} {F1 F2:NP} {H:NP} {w:World} (h:Pl2 w0 H w p q L L F1 F2) (b e k:Int) :
  m_E_j6 (some p) (some q) b e k e k b H w (fun r w'=>r=true∧Pure w0 w'):=by
 unfold m_E_j6
 have href:=h.ref
 obtain ⟨s1,s2,s3,hr,hF⟩:=href
 have hl:s1.len=L.length:=by rw [hr.r1.len];simp
 have hcell:=hr.box.cell0
 refine ⟨fun w'=>Pure w w',Ext.drew w,?_⟩
 rintro _ rfl
 refine Br.t (by simp) ?_
 refine (p_X e w.drew).mono ?_
 rintro _ w2 ⟨rfl,E2⟩
 have E02:Pure w w2:=(Ext.drew w).trans E2
 refine ⟨_,rfl,E02,E2.keptP,Br.t (by simp [s_X]) (Br.t (by simp) ⟨q,rfl,s1,fun w' E=>?_,?_⟩)⟩
 ·exact (hr.box.pure E).cell0
 ·refine (jGA p w2 (h.pool.pure E02)).mono ?_
  rintro _ w3 ⟨r,rfl,rfl,rfl⟩
  refine ⟨_,rfl,E02,(Ext.refl (F:=None) _).keptP,Br.t (by rw [hl];simp) ?_⟩
  refine (jIP w3 (kT ht (h.pure.trans E02)) (vO hv (h.pure.trans E02))).mono ?_
  rintro _ w4 ⟨r,rfl,hr,E4⟩
  exact ⟨r,rfl,E02.trans E4,E4.keptP,hr,(h.pure.trans E02).trans E4⟩
theorem jEM {p q:Addr} {L:Sp.Pool} {F1 F2:NP} {H:NP} {w:World} (h:PP w0 H w p q L F1 F2) (hH:∀b,H b→w0.heap.size≤b∧b<w.heap.size) (x:ByteArray) (t:Int) :
  m_E_j5 x t (some p) (some q) ⟨(Sp.uL L t).toArray⟩ w0 H w (fun r w'=>r=true∧Pure w0 w'):=by
 unfold m_E_j5
 obtain ⟨h,hW,hN⟩:=h
 refine (jCK p t w h.pool hW hN (kT ht h.pure)).mono ?_
 rintro _ w1 ⟨r,rfl,rfl,E1⟩
 have h1:=h.pureE E1
 have z1:=E1.size
 refine ⟨_,rfl,E1.keptP,Br.f (by simp) ?_⟩
 refine (jCL p x w1 h1.pool hW.ok (vO hv h1.pure)).mono ?_
 rintro _ w2 ⟨r1,r2,r3,rfl,⟨e1,e2,e3⟩,F',hP',X2,hF'⟩
 have h2:=h1.of1 (fun b hb=>by have:=(hH b hb).2;omega) hP' X2 hF'
 have z2:=X2.size
 refine ⟨_,_,_,rfl,X2.kept (fun b hb hf=>(h1.o1 b hf).2.1 hb),?_⟩
 refine (jGD x w2).mono ?_
 intro e w3 hR
 obtain ⟨k,f,to,u,y,ks,s,hT,rfl,T3,E3⟩:=hR.un
 have h3:=h2.pureE E3
 have z3:=E3.size
 have TT3:TT w0 w3 H s (.mk k f to u y ks):=jHK T3 h2.pure (fun b hb=>by have:=(hH b hb).2;omega)
 refine ⟨_,_,_,_,_,s,_,_,rfl,E3.keptP,?_⟩
 unfold Sp.yO at e1 e2 e3 h3
 refine ⟨fun hc=>fun H6 w4 hs4=>?_,fun hc=>fun H6 w4 hs4=>?_⟩
 ·have hc:(Sp.kZ (bts x)).2.1=0:=by simpa using hc
  rw [if_neg (by simpa using hc)] at e1 e2 e3 h3
  have h4:=h3.hst hs4
  have T4:=TT.hst TT3 hs4
  rw [hT] at e1 e2 h4
  refine (tP (S:=fun b=>b<w4.heap.size∧w2.heap.size≤b) q (.mk k f to u y ks) s w4 ?_ h4.ref hW.ok ?_ (fun b hb=>hb.1)).mono ?_
  ·have T3':TT w2 w3 H s (.mk k f to u y ks):=T3.mono (fun b hb=>⟨hb.1,hb.2,fun hh=>by have:=(hH b hh).2;omega⟩)
   have hd:=hs4.disj (G:=fun b=>w2.heap.size≤b∧b<w3.heap.size∧¬ H b) (fun b hb=>⟨hb.2.1,hb.2.2⟩)
   exact (TreeAt.ext T3' hs4.ext hd).mono (fun b hb=>⟨by have:=hb.2.1;have:=hs4.ext.size;omega,hb.1⟩)
  ·intro b hb hh
   have:=h2.ref.lt hb
   omega
  ·rintro _ w5 ⟨r26,r27,rfl,hr,F2',hP5,X5,hF5⟩
   simp only [Prod.mk.injEq] at hr
   obtain ⟨rfl,rfl⟩:=hr
   have h5:=h4.of2 hs4.here.lt hP5 X5 hF5
   refine ⟨_,_,rfl,X5.kept (fun b hb hf=>(h4.o2 b hf).2 hb),?_⟩
   rw [e1,e2,e3]
   exact jEL ht hv h5 _ _ _
 ·have hc:(Sp.kZ (bts x)).2.1≠0:=by simpa using hc
  rw [if_pos hc] at e1 e2 e3 h3
  rw [e1,e2,e3]
  exact jEL ht hv (h3.hst hs4) _ _ _
end
theorem jDP {L:Sp.Pool} (hW:Sp.Wf L) {x:Sp.Tree} (hn:Sp.NumT x) (h:(Sp.of L x).2.1=0) :
  Sp.yO (Sp.of L x).2.2 (Sp.shw x)=((Sp.of L x).1,0,0,(Sp.of L x).2.2)∧Sp.uL (Sp.of L x).2.2 (Sp.of L x).1=Sp.shw x∧Sp.showR x=(Sp.shw x,0):=by
 obtain ⟨s,d,hg,hs,hd⟩:=Sp.of_tg h hn
 obtain ⟨h1,h2,_⟩:=Sp.jLV hW h
 have hW':=Sp.of_wf hW x
 refine ⟨?_,?_,?_⟩
 ·unfold Sp.yO
  rw [Sp.jFJ (fun n h=>nd20 h) hg hs hd,if_neg (by simp)]
  have:=Sp.jKU hW' h1
  rw [h2] at this
  simp only [this]
 ·unfold Sp.uL
  rw [if_pos h1,h2]
 ·unfold Sp.showR
  rw [if_neg (by simpa using hg.looks hs hd)]
set_option maxHeartbeats 1000000 in
theorem gI {S:NP} (ts:List Sp.Tree) (s:Sl) (x:ByteArray) (t:Int) (w0:World) (hT:TreeAt S w0 s (.mk 0 0 0 0 ⟨#[]⟩ ts)) (hS:∀b,S b→b<w0.heap.size) (hnum:∀y∈ts,Sp.NumT y) (ht:Pow w0) (hv:ErrV w0) :
  Calls prog 3 #[s.v,.string x,.int .i64 t] w0 (fun e w'=>∃r:Bool,e=.returned (.bool r)∧(r=true∧Pure w0 w')):=by
 refine w_E s x t w0 (fun r w'=>r=true∧Pure w0 w') ?_
 unfold m_E
 cases hT with
 | mk _ _ _ _ _ _ _ rs len fit row kid =>
 refine ⟨fun _=>fun H1 w1 hs1=>live6 ht hv hs1.first,fun hbig=>fun H1 w1 hs1=>?_⟩
 have h20:ts.length≤20:=by
  rw [Bool.or_eq_false_iff,decide_eq_false_iff_not] at hbig;have:=hbig.1;have:s.len=ts.length:=len;omega
 have lt:∀{w},Pure w0 w→∀b,S b→b<w.heap.size:=fun E b hb=>by have:=hS b hb;have:=E.size;omega
 refine ⟨fun n i H w'=>(∀b,H b→w0.heap.size≤b∧b<w'.heap.size)∧∃j:Nat,i=j∧j≤ts.length∧n=(Sp.cntAll (ts.take j):Nat)∧n<9000∧Pure w0 w',fun _ i _=>((ts.length:Int) - i).toNat,⟨fun b hb=>⟨hs1.here.old b hb,hs1.here.lt b hb⟩,0,rfl,Nat.zero_le _,by simp [Sp.cntAll],by omega,hs1.first⟩,?_⟩
 rintro n _ Hl wl hsl ⟨hH,j,rfl,hj,hn,hn4,E⟩
 unfold m_E_l1
 refine ⟨fun h=>?_,fun h=>?_⟩
 ·have hlt:=qH len h
  obtain ⟨a,hat,hSa,hrow⟩:=row j hlt
  have hkid:=kid j hlt
  have htk:ts.take (j+1)=ts.take j++[ts[j]]:=List.take_succ_eq_append_getElem hlt
  have hsn:=Sp.jEA (ts.take j) ts[j]
  rw [← htk] at hsn
  generalize ts[j]=y at *
  generalize rs j=sx at *
  obtain ⟨xk,xf,xt,xu,xx,xks⟩:=y
  have hrl:Row wl a (kK (.mk xk xf xt xu xx xks) sx):=E.row hrow (fun h=>h)
  refine ⟨a,hat,_,_,_,_,_,sx,hrl,?_⟩
  refine (jAO (S:=S) (.mk xk xf xt xu xx xks) sx 9000 wl (by omega) (by omega) (hkid.pure E) (lt E)).mono ?_
  rintro _ w1 ⟨r,rfl,rfl,E1⟩
  obtain ⟨p1,p2,p3⟩:=Sp.lZ (.mk xk xf xt xu xx xks) 9000 (by omega)
  generalize Sp.uI 9000 (.mk xk xf xt xu xx xks)=r at *
  refine ⟨r,rfl,E1.keptP,?_⟩
  rw [IntWalk.i64_in _ (by omega),IntWalk.i64_in _ (by omega)]
  refine ⟨fun h=>live6 ht hv (E.trans E1),fun h=>?_⟩
  have h:=of_decide_eq_false h
  have hc:=p3 (by omega)
  have z:=E1.size
  exact ⟨⟨fun b hb=>⟨(hH b hb).1,by have:=(hH b hb).2;omega⟩,j+1,by omega,hlt,by rw [hsn];omega,by omega,E.trans E1⟩,by show ((ts.length:Int) - ((j:Int)+1)).toNat<((ts.length:Int) - (j:Int)).toNat;omega⟩
 ·have hge:=qJ len hj h
  subst hge
  rw [List.take_length] at hn
  refine (c_New wl).mono ?_
  rintro _ w1 ⟨_,rfl,p,rfl,E1,F1,hP1,hF1⟩
  refine ⟨_,rfl,E1.keptP,Br.f rfl ?_⟩
  refine (jEC w1).mono ?_
  rintro _ w2 ⟨_,rfl,q,F2,rfl,hP2,E2,hF2⟩
  refine ⟨_,rfl,E2.keptP,?_⟩
  have z0:=E.size
  have z1:=E1.size
  have z2:=E2.size
  have S0:Pl2 w0 Hl w2 p q [] [] F1 F2:=⟨(E.trans E1).trans E2,hP1.pure E2,hP2,
   fun b hb=>⟨by have:=hF1 b hb;omega,fun hh=>by have:=hF1 b hb;have:=(hH b hh).2;omega,fun h2=>by have:=hF2 b h2;have:=hP1.lt hb;omega⟩,
   fun b hb=>⟨by have:=hF2 b hb;omega,fun hh=>by have:=hF2 b hb;have:=(hH b hh).2;omega⟩⟩
  refine ⟨fun i H w'=>(∀b,H b→w0.heap.size≤b∧b<w'.heap.size)∧∃j:Nat,i=j∧j≤ts.length∧∃F1 F2,PP w0 H w' p q (Sp.lX (ts.take j)) F1 F2,fun i _=>((ts.length:Int) - i).toNat,⟨fun b hb=>⟨(hH b hb).1,by have:=(hH b hb).2;omega⟩,0,rfl,Nat.zero_le _,F1,F2,S0,Sp.Wf.nil,Sp.oN.nil⟩,?_⟩
  rintro _ H2 wl2 hl2 ⟨hH2,j,rfl,hj,F1,F2,hq⟩
  unfold m_E_l2
  refine ⟨fun h=>?_,fun h=>?_⟩
  ·have hlt:=qH len h
   have hny:=hnum ts[j] (List.getElem_mem hlt)
   have hcy:=Sp.tL hlt
   have htk:ts.take (j+1)=ts.take j++[ts[j]]:=List.take_succ_eq_append_getElem hlt
   have hstep:Sp.lX (ts.take (j+1))=(Sp.of (Sp.lX (ts.take j)) ts[j]).2.2:=by rw [htk];unfold Sp.lX;rw [List.foldl_append];rfl
   obtain ⟨hq,hW,hN⟩:=hq
   generalize Sp.lX (ts.take j)=Q at *
   obtain ⟨a,hat,hSa,hrow⟩:=row j hlt
   have hkid:=kid j hlt
   have hps:=jDP (L:=Q) hW hny
   have hW':=Sp.of_wf hW ts[j]
   have hN':=hN.of hny
   generalize ts[j]=y at *
   generalize rs j=sx at *
   obtain ⟨xk,xf,xt,xu,xx,xks⟩:=y
   have rw_:∀{w},Pure w0 w→Row w a (kK (.mk xk xf xt xu xx xks) sx):=fun E=>E.row hrow (fun h=>h)
   refine ⟨a,hat,_,_,_,_,_,sx,rw_ hq.pure,?_⟩
   refine (c_Of (S:=S) p (.mk xk xf xt xu xx xks) sx wl2 (hkid.pure hq.pure) hq.pool hW.ok (fun b hb hh=>by have:=(hq.o1 b hb).1;have:=hS b hh;omega) (lt hq.pure)).mono ?_
   rintro _ w3 ⟨r3,r4,rfl,h34,F1',hP3,E3,hF3⟩
   have k3:Kept H2 wl2 w3:=E3.kept (fun b hb h1=>(hq.o1 b h1).2.1 hb)
   refine ⟨_,_,rfl,k3,?_⟩
   have hq3:=hq.of1 (fun b hb=>hl2.lt b hb) hP3 E3 hF3
   have hl3:=hl2.again k3
   refine ⟨a,hat,_,_,_,_,_,sx,rw_ hq3.pure,?_⟩
   refine (tP (S:=S) q (.mk xk xf xt xu xx xks) sx w3 (hkid.pure hq3.pure) hq3.ref hW.ok (fun b hb hh=>by have:=(hq3.o2 b hb).1;have:=hS b hh;omega) (lt hq3.pure)).mono ?_
   rintro _ w4 ⟨r5,r6,rfl,h56,F2',hP4,E4,hF4⟩
   have k4:Kept H2 w3 w4:=E4.kept (fun b hb h1=>(hq3.o2 b h1).2 hb)
   refine ⟨_,_,rfl,k4,?_⟩
   have hq4:=hq3.of2 (fun b hb=>hl3.lt b hb) hP4 E4 hF4
   simp only [Prod.mk.injEq] at h34 h56
   obtain ⟨rfl,rfl⟩:=h34
   obtain ⟨rfl,rfl⟩:=h56
   have more : ∀ {H' : NP} {w' : World} {F1 F2 : NP}, Pl2 w0 H' w' p q (Sp.of Q (.mk xk xf xt xu xx xks)).2.2 (Sp.of Q (.mk xk xf xt xu xx xks)).2.2 F1 F2 → (∀ b, H' b → w0.heap.size ≤ b ∧ b < w'.heap.size) →
     m_E_j3 (j:Int) H' w' (fun i H w'=>((∀b,H b→w0.heap.size≤b∧b<w'.heap.size)∧∃j:Nat,i=j∧j≤ts.length∧∃F1 F2,PP w0 H w' p q (Sp.lX (ts.take j)) F1 F2)∧((ts.length:Int) - i).toNat<((ts.length:Int) - (j:Int)).toNat) (fun r w'=>r=true∧Pure w0 w'):=fun h5 hH5=>by
    unfold m_E_j3
    rw [kX hlt (by omega)]
    exact ⟨⟨hH5,j+1,rfl,hlt,_,_,by rw [hstep];exact ⟨h5,hW',hN'⟩⟩,gD hlt⟩
   refine Br.f (by simp) ⟨fun hc=>fun H3 w5 hs5=>more (hq4.hst hs5) (fun b hb=>⟨hs5.here.old b hb,hs5.here.lt b hb⟩),fun hc=>⟨a,hat,fun H3 w5 hs5=>?_⟩⟩
   have hc:(Sp.of Q (.mk xk xf xt xu xx xks)).2.1=0:=by simpa using hc
   obtain ⟨g1,g2,g3⟩:=hps hc
   have h5:=hq4.hst hs5
   refine ⟨_,_,_,_,_,sx,rw_ h5.pure,?_⟩
   refine (tQ (S:=S) (.mk xk xf xt xu xx xks) sx w5 (hkid.pure h5.pure) (lt h5.pure) hny (by omega) (kT ht h5.pure)).mono ?_
   rintro _ w6 ⟨r10,r11,rfl,⟨e10,e11⟩,E6⟩
   rw [g3] at e10 e11
   subst e10 e11
   refine ⟨_,_,rfl,E6.keptP,?_⟩
   have h6:=h5.pureE E6
   have z6:=E6.size
   have hH5:∀b,H3 b→w0.heap.size≤b∧b<w5.heap.size:=fun b hb=>⟨hs5.here.old b hb,hs5.here.lt b hb⟩
   refine (jCL p ⟨(Sp.shw (.mk xk xf xt xu xx xks)).toArray⟩ w6 h6.pool hW'.ok (vO hv h6.pure)).mono ?_
   rw [bts_mk,g1]
   rintro _ w7 ⟨r12,r13,r14,rfl,⟨rfl,rfl,rfl⟩,F1'',hP7,E7,hF7⟩
   have h7:=h6.of1 (fun b hb=>by have:=(hH5 b hb).2;omega) hP7 E7 hF7
   have z7:=E7.size
   refine ⟨_,_,_,rfl,E7.kept (fun b hb h1=>(h6.o1 b h1).2.1 hb),?_⟩
   refine (jCK p (Sp.of Q (.mk xk xf xt xu xx xks)).1 w7 h7.pool hW' hN' (kT ht h7.pure)).mono ?_
   rw [g2]
   rintro _ w8 ⟨r15,rfl,rfl,E8⟩
   have h8:=h7.pureE E8
   refine ⟨_,rfl,E8.keptP,?_⟩
   rintro y1 rfl H5 w9 hs9
   unfold m_E_j4
   exact Br.f (by simp) (more (h8.hst hs9) (fun b hb=>⟨hs9.here.old b hb,hs9.here.lt b hb⟩))
  ·have hge:=qJ len hj h
   subst hge
   rw [List.take_length] at hq
   generalize Sp.lX ts=Q at *
   refine (qA q t wl2 hq.pl.ref).mono ?_
   rintro _ w3 ⟨r,rfl,rfl,rfl⟩
   refine ⟨_,rfl,(Ext.refl (F:=None) _).keptP,fun hin=>?_,fun hin=>?_⟩
   ·obtain ⟨sz,d,hg,hsz,hd⟩:=Sp.jGU hq.wf hq.nums hin
    have hc:=hg.cnt.1
    have hsh:Sp.showR (Sp.zT Q t)=(Sp.uL Q t,0):=by
     unfold Sp.showR Sp.uL;rw [if_neg (by simpa using hg.looks hsz hd),if_pos hin]
    refine (jCO q hq.wf _ t w3 F2 rfl hq.pl.ref).mono ?_
    rintro _ w4 ⟨s4,rfl,T4,E4⟩
    have hnum4:=hg.nums
    generalize Sp.zT Q t=Y at *
    obtain ⟨k,f,to,u,y,ks⟩:=Y
    refine ⟨k,f,to,u,y,s4,rfl,E4.keptP,?_⟩
    have h4:=hq.pl.pureE E4
    refine (tQ (S:=fun b=>b<w4.heap.size) (.mk k f to u y ks) s4 w4 (T4.lt.mono (fun b hb=>hb.2)) (fun b hb=>hb) hnum4 (by omega) (kT ht h4.pure)).mono ?_
    rintro _ w5 ⟨r28,r29,rfl,⟨e28,e29⟩,E5⟩
    rw [hsh] at e28 e29
    subst e28 e29
    have z4:=E4.size
    have z5:=E5.size
    exact ⟨_,_,rfl,E5.keptP,jEM ht hv ⟨h4.pureE E5,hq.wf,hq.nums⟩ (fun b hb=>⟨(hH2 b hb).1,by have:=(hH2 b hb).2;omega⟩) x t⟩
   ·have hp:Sp.uL Q t=[]:=by unfold Sp.uL;rw [hin];rfl
    have:=jEM ht hv hq hH2 x t
    rw [hp] at this
    exact this
end Go.Proofs
end
section
namespace Go.SE
open Go.ChangeShapes Go.WideShapes Go.ChangeAt Go.RowKit
section
variable {H:Type} {enc:TypeId×Value→H} {P:Program}
theorem gL (hl:laidOutB P=true) {W W':World} (hb:Below W.heap.size W W'):∀(ts:List TypeId) (vs:List Value) (ds:List (DataW H)) (ps:List MemPlace),(ts.all fun t=>P.readableRec t && decide (t<P.types.size))=true →
  DataW.TrodAll enc P W 0 (fun _=>true) true ts vs ds ps→(∀x∈ps,x.block<W.heap.size)→DataW.TrodAll enc P W' 0 (fun b=>decide (b<W.heap.size)) true ts vs ds ps
 | [],_,_,_,_,h,_=>by
  obtain ⟨rfl,rfl,rfl⟩:=trodAll_nil h;exact h
 | t :: ts,_,_,_,hr,h,hlt=>by
  obtain ⟨v,vs1,d,ds1,a,b,rfl,rfl,rfl,h1,h2⟩:=trodAll_cons h;simp only [List.all_cons,Bool.and_eq_true,decide_eq_true_eq] at hr;exact ⟨a,b,Below.trod hl hr.1.1 hr.1.2 h1 hb (fun x hx=>hlt x (by simp [hx])),gL hl hb ts vs1 ds1 b (by simpa using hr.2) h2 (fun x hx=>hlt x (by simp [hx])),rfl⟩
theorem jJZ {f:Func} {s:ChangeSpec} {W W':World} {args:Array Value} {ds gs:List (DataW H)} {before:List MemPlace} {t:TypeId} (hl:laidOutB P=true)
  (hv:s.vars=[]) (hf:∀ds:List (DataW H),ds.length=f.params.size→s.fn H ds={ results:=[.lit (.bool true)],args:=ds }) (hrt:f.resultTypes=#[t]) (ht:P.underlying t=some .bool)
  (hr:(f.params.toList.all fun t=>P.readableRec t && decide (t<P.types.size))=true)
  (hW:DataW.Whole enc P f.params.toList s.vars false W args.toList ds gs before) (E:Pure W W') :
  s.post enc P f false true false false W args (.bool true) W':=by
 have hW':=hW
 obtain ⟨p,q,hA,hV,rfl,hfz,hnd⟩:=hW
 rw [hv] at hV
 obtain ⟨rfl,rfl⟩:=trodVars_none hV
 have hlen:ds.length=f.params.size:=by
  have:∀(ts:List TypeId) (vs:List Value) (ds:List (DataW H)) (ps:List MemPlace),DataW.TrodAll enc P W 0 (fun _=>true) true ts vs ds ps→ds.length=ts.length:=by
   intro ts;induction ts with
   | nil=>intro vs ds ps h;obtain ⟨_,rfl,_⟩:=trodAll_nil h;rfl
   | cons t ts ih =>
    intro vs ds ps h
    obtain ⟨v,vs1,d,ds1,a,b,_,rfl,_,_,h2⟩:=trodAll_cons h
    simp [ih _ _ _ h2]
  simpa using this _ _ _ _ hA
 have hfn:=hf ds hlen
 have hfn':s.fn H (ds++[])={ results:=[.lit (.bool true)],args:=ds }:=by rw [List.append_nil];exact hfn
 have hlt:∀x∈p,x.block<W.heap.size:=fun x hx=>by simpa using hW'.lt x (by simp [hx])
 have bel:=E.below
 refine ⟨ds,[],p++[],[],p,[],hW',?_,?_,?_,bel.frame _,fun h=>by cases h⟩
 ·rw [hfn',hrt];exact trodAll_mk1 (shut_bool ht _)
 ·rw [hfn'];exact gL hl bel _ _ _ _ hr hA hlt
 ·rw [hfn',hv];exact hV
end
end Go.SE
namespace Go.SE
open Go.ChangeShapes Go.WideShapes Go.ChangeAt Go.RowKit
section
variable {P:Program} {W:World} {r:Reach} {b0:Nat} {t:TypeId} {v:Value}
theorem jAM (ht:P.underlying t=some .string) (h:Cell.okWide P W r b0 t v):∃x,v=.string x:=by
 have:Value.okWide P W r b0 t v:=by unfold Value.okWide;rw [ht];exact h
 unfold Cell.okWide at h;rw [ht] at h;cases v <;> simp [Cell.ok,ht] at h;exact ⟨_,rfl⟩
theorem jHQ {e:TypeId} (ht:P.underlying t=some (.slice e)) (h:Value.okWide P W r b0 t v):∃a n c,v=.slice a n c:=by
 unfold Value.okWide at h;rw [ht] at h;simp only at h;unfold Cell.okWide at h;rw [ht] at h;cases v <;> simp [Cell.ok,ht] at h;exact ⟨_,_,_,rfl⟩
end
end Go.SE
end
section
open Go Go.SE
namespace Go.Proofs
open Tryz
theorem gU {α β:Type} {f:α→Option β}:∀{l:List α} {r:List β},l.mapM f=some r→r.length=l.length∧∀(i:Nat) (a:α),l[i]?=some a→∃b,f a=some b∧r[i]?=some b
 | [],r,h=>by
  have:r=[]:=by simpa using h.symm
  subst this;exact ⟨rfl,fun i a h=>by simp at h⟩
 | x :: xs,r,h=>by
  rw [List.mapM_cons] at h;cases hx:f x with
  | none=>simp [hx] at h
  | some y =>
   cases hxs:xs.mapM f with
   | none=>simp [hx,hxs] at h
   | some ys =>
    have:r=y :: ys:=by simpa [hx,hxs] using h.symm
    subst this
    obtain ⟨h1,h2⟩:=gU hxs
    refine ⟨by simp [h1],fun i a ha=>?_⟩
    cases i with
    | zero=>cases ha;exact ⟨y,hx,rfl⟩
    | succ i=>exact h2 i a (by simpa using ha)
theorem jIJ {w:World} {base:Nat} {a:Addr} {n:Nat} {cs:List Value} (h:w.cells? base a n=some cs):cs.length=n∧Row w a cs:=by
 obtain ⟨_,h1,h2⟩:=World.cells?_some h;exact ⟨h1,fun j hj=>h2 j (by omega)⟩
section
variable {H:Type} {enc:TypeId×Value→H} {P:Program} {W:World} {base:Nat} {sp:Nat→Bool} {held:Bool}
theorem lL {t:TypeId} {k:IntKind} (ht:P.underlying t=some (.int k)) {n:Nat} {c:Value} {x:DataW H×List MemPlace} (h:DataW.trod enc P W base sp held n t [c]=some x):∃m,c=.int k m:=by
 cases n with
 | zero=>cases h
 | succ n =>
  rw [DataW.trod_step] at h
  unfold DataW.trodStep at h
  rw [ht] at h
  cases c <;> simp at h
  obtain ⟨⟨rfl,_⟩,_⟩:=h
  exact ⟨_,rfl⟩
theorem jIY {t:TypeId} (ht:P.underlying t=some (.int .u64)) {n:Nat} {c:Value} {x:DataW H×List MemPlace} (h:DataW.trod enc P W base sp held n t [c]=some x):∃m,c=.int .u64 m∧Sp.oQ m:=by
 cases n with
 | zero=>cases h
 | succ n =>
  rw [DataW.trod_step] at h
  unfold DataW.trodStep at h
  rw [ht] at h
  cases c with
  | int k z =>
   simp only at h
   split at h
   ·rename_i hw
    obtain ⟨rfl,hw⟩:=hw
    have h1:IntKind.u64.min=0:=by rfl
    have h2:IntKind.u64.max=18446744073709551615:=by rfl
    simp only [Lit.wf,Bool.and_eq_true,decide_eq_true_eq,h1,h2] at hw
    exact ⟨z,rfl,by omega,by omega⟩
   ·cases h
  | _=>simp at h
theorem jGT {t:TypeId} (ht:P.underlying t=some .string) {n:Nat} {c:Value} {x:DataW H×List MemPlace} (h:DataW.trod enc P W base sp held n t [c]=some x):∃m,c=.string m:=by
 cases n with
 | zero=>cases h
 | succ n =>
  rw [DataW.trod_step] at h
  unfold DataW.trodStep at h
  rw [ht] at h
  cases c <;> simp at h
  exact ⟨_,rfl⟩
theorem jDG {t e:TypeId} (ht:P.underlying t=some (.slice e)) {n:Nat} {c:Value} {x:DataW H×List MemPlace} (h:DataW.trod enc P W base sp held (n+1) t [c]=some x) :
  c=.slice none 0 0∨∃a len cap,c=.slice (some a) len cap∧len≤cap∧cap≤maxLen∧∀i,i<len→∃cs y,W.cells? base (a.add (i*P.cellsOf e)) (P.cellsOf e)=some cs∧DataW.trod enc P W base sp held n e cs=some y:=by
 rw [DataW.trod_step] at h
 unfold DataW.trodStep at h
 rw [ht] at h
 cases c with
 | slice a len cap =>
  cases a with
  | none =>
   cases len with
   | zero=>cases cap with
    | zero=>exact .inl rfl
    | succ c=>simp at h
   | succ l=>simp at h
  | some a =>
   right
   simp only at h
   split at h
   ·rename_i hc
    refine ⟨a,len,cap,rfl,hc.2.1,hc.2.2,fun i hi=>?_⟩
    cases hm:(List.range len).mapM fun i=>(W.cells? base (a.add (i*P.cellsOf e)) (P.cellsOf e)).bind (DataW.trod enc P W base sp held n e) with
    | none=>rw [hm] at h;cases h
    | some r =>
     obtain ⟨b,hb,_⟩:=(gU hm).2 i i (by simp [hi])
     obtain ⟨cs,h1,h2⟩:=Option.bind_eq_some_iff.1 hb
     exact ⟨cs,b,h1,h2⟩
   ·cases h
 | _=>simp at h
structure TreeTypes (P:Program) (tS tT:TypeId):Prop where
 ex:∃ti tu ts:TypeId,∃f0 f1 f2 f3 f4 f5:Field,P.underlying tS=some (.slice tT)∧P.underlying tT=some (.struct #[f0,f1,f2,f3,f4,f5])∧P.cellsOf tT=6 ∧
  (f0.type=ti∧f1.type=ti∧f2.type=ti∧f3.type=tu∧f4.type=ts∧f5.type=tS)∧(f0.offset=0∧f1.offset=1∧f2.offset=2∧f3.offset=3∧f4.offset=4∧f5.offset=5) ∧
  P.underlying ti=some (.int .i64)∧P.underlying tu=some (.int .u64)∧P.underlying ts=some .string∧P.cellsOf ti=1∧P.cellsOf tu=1∧P.cellsOf ts=1∧P.cellsOf tS=1
theorem jGS {tS tT:TypeId} (hTT:TreeTypes P tS tT):∀n:Nat,
  (∀(c:Value) (x:DataW H×List MemPlace),DataW.trod enc P W base sp held n tS [c]=some x→∃s:Sl,∃ts:List Sp.Tree,c=s.v∧(∀(k f t u:Int) (tx:ByteArray),TreeAt (fun _=>True) W s (.mk k f t u tx ts))∧∀i (hi:i<ts.length),Sp.NumT ts[i]) ∧
  (∀(cs:List Value) (x:DataW H×List MemPlace),DataW.trod enc P W base sp held n tT cs=some x→∃t s,cs=kK t s∧TreeAt (fun _=>True) W s t∧Sp.NumT t):=by
 obtain ⟨ti,tu,tx,f0,f1,f2,f3,f4,f5,hS,hT,hc6,⟨e0,e1,e2,e3,e4,e5⟩,⟨o0,o1,o2,o3,o4,o5⟩,ui,uu,us,ci,cu,cs1,cS⟩:=hTT.ex
 intro n
 induction n with
 | zero=>exact ⟨fun c x h=>(by cases h),fun cs x h=>(by cases h)⟩
 | succ n ih =>
  refine ⟨fun c x h=>?_,fun cs x h=>?_⟩
  ·rcases jDG hS h with rfl | ⟨a,len,cap,rfl,hle,hcm,hel⟩
   ·exact ⟨Sl.nil,[],rfl,fun k f t u tx=>.mk k f t u tx [] Sl.nil (fun _=>Sl.nil) rfl (by simp) (fun i h=>by simp at h) (fun i h=>by simp at h),fun i hi=>absurd hi (Nat.not_lt_zero i)⟩
   ·rw [hc6] at hel
    have hex:∀i,∃q:Sp.Tree×Sl,i<len→Row W (a.add (i*6)) (kK q.1 q.2)∧TreeAt (fun _=>True) W q.2 q.1∧Sp.NumT q.1:=by
     intro i;by_cases hi:i<len
     ·obtain ⟨cs,y,h1,h2⟩:=hel i hi;obtain ⟨tr,s,e,hTr⟩:=ih.2 cs y h2;exact ⟨(tr,s),fun _=>⟨e▸(jIJ h1).2,hTr⟩⟩
     ·exact ⟨(Sp.Tree.mk 0 0 0 0 ⟨#[]⟩ [],Sl.nil),fun h=>absurd h hi⟩
    obtain ⟨q,hq⟩:=Classical.axiomOfChoice hex
    refine ⟨⟨some a,len,cap⟩,(List.range len).map fun i=>(q i).1,rfl,?_,fun i hi=>by rw [List.getElem_map,List.getElem_range];exact (hq i (by simpa using hi)).2.2⟩
    refine fun k f t u tx=>.mk k f t u tx _ _ (fun i=>(q i).2) (by simp) (by simp only [maxLen] at hcm;simp;omega) (fun i h=>?_) (fun i h=>?_)
    ·have hi:i<len:=by simpa using h
     refine ⟨a.add (i*6),⟨by omega,by simpa using hi,a,rfl,by simp⟩,trivial,?_⟩
     simpa using (hq i hi).1
    ·have hi:i<len:=by simpa using h
     simpa using (hq i hi).2.1
  ·rw [DataW.trod_step] at h
   unfold DataW.trodStep at h
   rw [hT] at h
   simp only at h
   split at h
   ·rename_i hl
    rw [hc6] at hl
    match cs,hl with
    | [c0,c1,c2,c3,c4,c5],_ =>
     cases hm:([f0,f1,f2,f3,f4,f5]:List Field).mapM (fun f=>DataW.trod enc P W base sp held n f.type ((([c0,c1,c2,c3,c4,c5]:List Value).drop f.offset).take (P.cellsOf f.type))) with
     | none=>rw [hm] at h;cases h
     | some r =>
      have hf:=(gU hm).2
      obtain ⟨_,h0,_⟩:=hf 0 f0 rfl
      obtain ⟨_,h1,_⟩:=hf 1 f1 rfl
      obtain ⟨_,h2,_⟩:=hf 2 f2 rfl
      obtain ⟨_,h3,_⟩:=hf 3 f3 rfl
      obtain ⟨_,h4,_⟩:=hf 4 f4 rfl
      obtain ⟨_,h5,_⟩:=hf 5 f5 rfl
      rw [e0,o0,ci] at h0;rw [e1,o1,ci] at h1;rw [e2,o2,ci] at h2;rw [e3,o3,cu] at h3;rw [e4,o4,cs1] at h4;rw [e5,o5,cS] at h5
      obtain ⟨m0,rfl⟩:=lL ui h0
      obtain ⟨m1,rfl⟩:=lL ui h1
      obtain ⟨m2,rfl⟩:=lL ui h2
      obtain ⟨m3,rfl,hu⟩:=jIY uu h3
      obtain ⟨m4,rfl⟩:=jGT us h4
      obtain ⟨s,ts,rfl,hTr,hNr⟩:=ih.1 c5 _ h5
      exact ⟨.mk m0 m1 m2 m3 m4 ts,s,rfl,hTr m0 m1 m2 m3 m4,.mk _ _ _ _ _ _ hu hNr⟩
   ·cases h
theorem oO {tS tT:TypeId} (hTT:TreeTypes P tS tT) {v:Value} {d:DataW H} {ps:List MemPlace} (h:DataW.Trod enc P W base sp held tS v d ps) (hv:∃a n c,v=.slice a n c) :
  ∃s:Sl,∃ts:List Sp.Tree,v=s.v∧TreeAt (fun b=>b<W.heap.size) W s (.mk 0 0 0 0 ⟨#[]⟩ ts)∧∀i (hi:i<ts.length),Sp.NumT ts[i]:=by
 obtain ⟨n,h⟩:=h
 obtain ⟨a,m,c,rfl⟩:=hv
 obtain ⟨s,ts,e,hT,hN⟩:=(jGS hTT n).1 _ _ h
 exact ⟨s,ts,e,(hT 0 0 0 0 ⟨#[]⟩).lt.mono (fun b hb=>hb.2),hN⟩
end
theorem jGV:TreeTypes prog 22 28 :=
 ⟨3,26,9,_,_,_,_,_,_,underlying22,underlying28,by kernel_rfl,⟨rfl,rfl,rfl,rfl,rfl,rfl⟩,⟨rfl,rfl,rfl,rfl,rfl,rfl⟩,underlying3,underlying26,underlying9,by kernel_rfl,by kernel_rfl,by kernel_rfl,by kernel_rfl⟩
end Go.Proofs
end
section
open Go Go.SE
namespace Go.Proofs
theorem jFL {P:Program} {W:World} {r:Reach} {b0:Nat} {t:TypeId} {v:Value} (ht:P.underlying t=some .string) (h:Value.okWide P W r b0 t v):∃x,v=.string x :=
 jAM ht (by unfold Value.okWide at h;rw [ht] at h;exact h)
end Go.Proofs
end
