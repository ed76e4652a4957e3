import Derived.Test.YtodiipjdnnnieaaGreatProg
import Derived.KernelRfl
import Derived.Test.YtodiipjdnnnieaaGreatPa3
import Derived.Test.YtodiipjdnnnieaaGreatPa6
import Derived.Test.YtodiipjdnnnieaaGreatPa4
import Derived.ProofKit
import Derived.Carry
import Derived.OpenShut
import Derived.Stop.Joined
import Derived.Test.YtodiipjdnnnieaaGreatPa5
section
open Go Go.SE
open Go.IntKind renaming i64 → q6
namespace Go.Proofs
open Tryz
set_option maxRecDepth 100000
set_option maxHeartbeats 4000000
attribute [local irreducible] wpL wpX opE wpE Calls
def m_P1_l1 (path1:Sl) (i1 aV:Int) (aW bL bM:Int) (aX:ByteArray) (bN:Sl) (aI aJ:Int) (aY aZ:Int) (aK:ByteArray) (aT:Sl) (w0:World) (Hl1:NP) (wl1:World) (Kc1:Int→Int→Int→Int→Int→ByteArray→Sl→Int→Int→Int→Int→ByteArray→Sl→NP→WP) (K:Int→Int→Int→Int→ByteArray→Sl→WP):Prop :=Br (decide (i1<(path1.len:Int))) (∃a1:Addr,At path1 i1 1 a1∧∀w3,Hst w0 Hl1 wl1 Hl1 w3→∃v1,w3.cell? a1=some (vi v1)∧Br (decide (v1≥(aT.len:Int))) (∀w4,Hst w0 Hl1 w3 Hl1 w4→K 0 0 0 0 ⟨#[]⟩ Sl.nil w4) (∃a2:Addr,At path1 i1 1 a2∧∃v2,w3.cell? a2=some (vi v2)∧¬ Hl1 a2.block∧∃a3:Addr,At aT v2 6 a3∧∃bF bG bH bI bJ bK,Row w3 a3 (Ab bF bG bH bI bJ bK)∧¬ Hl1 a3.block∧∀H3 w7,Hst w0 Hl1 w3 H3 w7→Kc1 (q6.wrap (i1+1)) aV aW bL bM aX bN bF bG bH bI bJ bK H3 w7)) (∀w9,Hst w0 Hl1 wl1 Hl1 w9→K aI aJ aY aZ aK aT w9)
def m_P1 (aD aC:Int) (aE aF:Int) (aG:ByteArray) (aH path1:Sl) (w0:World) (K:Int→Int→Int→Int→ByteArray→Sl→WP):Prop :=∀H2 w2,Hst w0 None w0 H2 w2→∃(I1:Int→Int→Int→Int→Int→ByteArray→Sl→Int→Int→Int→Int→ByteArray→Sl→NP→WP) (mu1:Int→Int→Int→Int→Int→ByteArray→Sl→Int→Int→Int→Int→ByteArray→Sl→World→Nat),I1 0 0 0 0 0 ⟨#[]⟩ Sl.nil aD aC aE aF aG aH H2 w2∧∀(i1 aV:Int) (aW bL bM:Int) (aX:ByteArray) (bN:Sl) (aI aJ:Int) (aY aZ:Int) (aK:ByteArray) (aT:Sl) (Hl1:NP) (wl1:World),Hst w0 Hl1 wl1 Hl1 wl1→I1 i1 aV aW bL bM aX bN aI aJ aY aZ aK aT Hl1 wl1→m_P1_l1 path1 i1 aV aW bL bM aX bN aI aJ aY aZ aK aT w0 Hl1 wl1 (fun y'0 y'1 y'2 y'3 y'4 y'5 y'6 y'7 y'8 y'9 y'10 y'11 y'12 H' w'=>I1 y'0 y'1 y'2 y'3 y'4 y'5 y'6 y'7 y'8 y'9 y'10 y'11 y'12 H' w'∧mu1 y'0 y'1 y'2 y'3 y'4 y'5 y'6 y'7 y'8 y'9 y'10 y'11 y'12 w'<mu1 i1 aV aW bL bM aX bN aI aJ aY aZ aK aT wl1) K
theorem w_P1 (aD aC aE aF aG aH path1 w0 K) (h:m_P1 aD aC aE aF aG aH path1 w0 K):
  Calls prog 163 #[(.agg #[(vi aD),(vi aC),(vi aE),(vu aF),(vs aG),aH.v]),path1.v] w0 (fun e w'=>∃bT bU bV bW bX bY,e=.returned (Aa bT bU bV bW bX bY)∧K bT bU bV bW bX bY w'):=by
 refine cw (args:=[(Aa aD aC aE aF aG aH),path1.v]) func163 ntmps163 ?_
 obtain ⟨hs,hb⟩:=st0 w0
 refine eg (nw3 (Ab aD aC aE aF aG aH) 107 hs hb xb fun p1 w1 H1 hs hb=>nw3 [(vi 0),(vi 0),(vi 0),(vu 0),ve,Sl.nil.v] 107 hs hb (zI (zeroValue107 _) rfl) fun p2 w2 H2 hs hb=>ln (zA (eg (q (ln (zH ?_))))))
 have ⟨h,hs⟩:=hs.hr (h H2 w2)
 obtain ⟨I1,mu1,h0,hr⟩:=h
 refine vO (σ:=Int×Int×Int×Int×Int×ByteArray×Sl×Int×Int×Int×Int×ByteArray×Sl×NP×World) (fun s ρ w=>w=s.2.2.2.2.2.2.2.2.2.2.2.2.2.2∧Has ρ [(1,path1.v),(2,(vp (some p1))),(4,(vp (some p2))),(5,(vi s.1))]∧Hst w0 s.2.2.2.2.2.2.2.2.2.2.2.2.2.1 w s.2.2.2.2.2.2.2.2.2.2.2.2.2.1 w∧HB s.2.2.2.2.2.2.2.2.2.2.2.2.2.1 w [(p2,[(vi s.2.1),(vi s.2.2.1),(vi s.2.2.2.1),(vu s.2.2.2.2.1),(vs s.2.2.2.2.2.1),s.2.2.2.2.2.2.1.v],107),(p1,[(vi s.2.2.2.2.2.2.2.1),(vi s.2.2.2.2.2.2.2.2.1),(vi s.2.2.2.2.2.2.2.2.2.1),(vu s.2.2.2.2.2.2.2.2.2.2.1),(vs s.2.2.2.2.2.2.2.2.2.2.2.1),s.2.2.2.2.2.2.2.2.2.2.2.2.1.v],107)]∧I1 s.1 s.2.1 s.2.2.1 s.2.2.2.1 s.2.2.2.2.1 s.2.2.2.2.2.1 s.2.2.2.2.2.2.1 s.2.2.2.2.2.2.2.1 s.2.2.2.2.2.2.2.2.1 s.2.2.2.2.2.2.2.2.2.1 s.2.2.2.2.2.2.2.2.2.2.1 s.2.2.2.2.2.2.2.2.2.2.2.1 s.2.2.2.2.2.2.2.2.2.2.2.2.1 s.2.2.2.2.2.2.2.2.2.2.2.2.2.1 s.2.2.2.2.2.2.2.2.2.2.2.2.2.2) (fun s=>mu1 s.1 s.2.1 s.2.2.1 s.2.2.2.1 s.2.2.2.2.1 s.2.2.2.2.2.1 s.2.2.2.2.2.2.1 s.2.2.2.2.2.2.2.1 s.2.2.2.2.2.2.2.2.1 s.2.2.2.2.2.2.2.2.2.1 s.2.2.2.2.2.2.2.2.2.2.1 s.2.2.2.2.2.2.2.2.2.2.2.1 s.2.2.2.2.2.2.2.2.2.2.2.2.1 s.2.2.2.2.2.2.2.2.2.2.2.2.2.2) (0,0,0,0,0,⟨#[]⟩,Sl.nil,aD,aC,aE,aF,aG,aH,H2,w2) ⟨rfl,hm,hs,hb,h0⟩ ?_
 rintro ⟨i1,aV,aW,bL,bM,aX,bN,aI,aJ,aY,aZ,aK,aT,Hl1,wl1⟩ ρ w ⟨hw,hH,hs,hb,hI⟩
 dsimp only at hw hH hs hb;subst w
 have h:=hr i1 aV aW bL bM aX bN aI aJ aY aZ aK aT Hl1 wl1 hs hI
 refine zT hH (zA (eg (qd (ln (cbr h ?_ ?_)))))<;>intro h
 refine zB (zM (zA (zH (zA (zA (uL (by kernel_rfl) (by kernel_rfl) (by kernel_rfl) (by kernel_rfl) ?_))))))
 intro w3 hw3
 have hs:Hst w0 Hl1 wl1 Hl1 w3:=by rw [hw3];exact hs.drew
 have hb:HB Hl1 w3 [(p2,(Ab aV aW bL bM aX bN),107),(p1,(Ab aI aJ aY aZ aK aT),107)]:=by rw [hw3];exact hb.drew
 refine qq 0 path1.v Kp0 (qq 1 (vi i1) Kp1 (qg 2 ?_))
 obtain ⟨a1,hv6,h⟩:=h
 refine sxQ Kp2 (zQ rfl) rfl (xi (runUnderlying42 _) (sizeOf3 _) hv6) (qg 3 ?_)
 have ⟨h,hs⟩:=hs.hr (h w3)
 obtain ⟨v1,hv5,h⟩:=h
 refine sxQ Kp3 (zQ rfl) rfl (xl (isAgg3 _) hv5) (qq 4 (vp (some (p1.add 5))) Kp4 (qr 5 aT.v Kp5 (xl (isAgg66 _) (hb.c 1 5 (gS gZ))) (qq 6 (vi (aT.len:Int)) Kp6 (qq 7 (vb (decide (v1≥(aT.len:Int)))) Kp7 (wn (zM (cbr h ?_ ?_)))))))<;>intro h
 refine eg (q (qB (zQ rfl) (xo p2 [(vi 0),(vi 0),(vi 0),(vu 0),ve,Sl.nil.v] (sizeOf107 _) (hb.k0 0 6 gZ)) ?_))
 intro w4 hn3
 obtain ⟨hs,hb⟩:=hb.st1 0 hs hn3 gZ
 refine ln (er (zV (qI (zV (zV (qI (zV ?_)))))))
 have ⟨h,hs⟩:=hs.hr (h w4)
 refine tG (.inl rfl) (vs:=[(.agg #[(vi 0),(vi 0),(vi 0),(vu 0),ve,Sl.nil.v])]) (v:=(.agg #[(vi 0),(vi 0),(vi 0),(vu 0),ve,Sl.nil.v])) results163 ⟨(rva (isAgg107 _) (sizeOf107 _) (hb.r0 0 6 gZ)),trivial⟩ (by kernel_rfl) ⟨0,0,0,0,⟨#[]⟩,Sl.nil,rfl,h⟩
 refine zB (zM (tO (fun x=>∃H',Hst w0 Hl1 w3 H' x∧HB H' x [(p2,(Ab aV aW bL bM aX bN),107),(p1,(Ab aI aJ aY aZ aK aT),107)]) [8] [8] (by kernel_rfl) (by kernel_rfl) (by kernel_rfl) (by kernel_rfl) ⟨_,hs.drew,hb.drew⟩ ?_))
 intro w5 hw5
 have hs:Hst w0 Hl1 w3 Hl1 w5:=by rw [hw5];exact hs.drew
 have hb:HB Hl1 w5 [(p2,(Ab aV aW bL bM aX bN),107),(p1,(Ab aI aJ aY aZ aK aT),107)]:=by rw [hw5];exact hb.drew
 refine qx 0 (vp (some (p1.add 5))) Kp0 (qz 1 aT.v Kp1 (fun w' hw'=>(by obtain ⟨H',hs',hb'⟩:=hw';exact (xl (isAgg66 _) (hb'.cell 1 5 (gS gZ) (by kernel_rfl))))) (qx 2 path1.v Kp2 (qx 3 (vi i1) Kp3 (qg 4 ?_))))
 obtain ⟨a2,hv4,h⟩:=h
 refine sy Kp4 (fun _ _=>xi (runUnderlying42 _) (sizeOf3 _) hv4) (qg 5 ?_)
 obtain ⟨v2,hv3,hnh,h⟩:=h
 refine sy (v:=(vi v2)) Kp5 (fun w' hw'=>by obtain ⟨H',hs',hb'⟩:=hw';exact (xl (isAgg3 _) (jIW hv3 hnh hs'))) (qg 6 ?_)
 obtain ⟨a3,hv2,h⟩:=h
 refine sy Kp6 (fun _ _=>xi (runUnderlying66 _) (sizeOf107 _) hv2) (qg 7 ?_)
 obtain ⟨bF,bG,bH,bI,bJ,bK,hv1,hnh,h⟩:=h
 refine sy (v:=(Aa bF bG bH bI bJ bK)) Kp7 (fun w' hw'=>by obtain ⟨H',hs',hb'⟩:=hw';exact (xa a3 (Ab bF bG bH bI bJ bK) (isAgg107 _) (sizeOf107 _) (jKQ hv1 hnh hs'))) (jNV (fun ρ wJ=>∃HJ:NP,Hst w0 Hl1 w3 HJ wJ∧HB HJ wJ [(p2,(Ab aV aW bL bM aX bN),107),(p1,(Ab bF bG bH bI bJ bK),107)]∧Has ρ [(1,path1.v),(2,(vp (some p1))),(4,(vp (some p2))),(5,(vi i1))]) ?_ ?_)
 refine lg 8 (uZ Kp8 (zQ rfl) (by kernel_rfl) (xo p1 (Ab bF bG bH bI bJ bK) (sizeOf107 _) (hb.k0 1 6 (gS gZ))) ?_)
 intro w8 hn5
 obtain ⟨hs,hb⟩:=hb.st1 1 hs hn5 (gS gZ)
 refine ⟨.inl (by kernel_rfl),?_⟩
 refine wn ⟨_,hs,hb,hm⟩
 rintro ρ w7 ⟨H3,hs,hb,hH⟩
 refine q_has hH (yR (zM (rg (qc (zC ?_)))))
 have ⟨h,hs⟩:=hs.hr (h H3 w7)
 refine zM ⟨((q6.wrap (i1+1)),aV,aW,bL,bM,aX,bN,bF,bG,bH,bI,bJ,bK,H3,w7),⟨rfl,hm,hs,hb,h.1⟩,h.2⟩
 refine vJ (yU (yU (yS (zM (eg (q2 (Aa aI aJ aY aZ aK aT) (xa p1 (Ab aI aJ aY aZ aK aT) (isAgg107 _) (sizeOf107 _) (hb.r0 1 6 (gS gZ))) (qB (zQ rfl) (xo p2 (Ab aI aJ aY aZ aK aT) (sizeOf107 _) (hb.k0 0 6 gZ)) ?_)))))))
 intro w9 hn6
 obtain ⟨hs,hb⟩:=hb.st1 0 hs hn6 gZ
 refine ln (er ?_)
 have ⟨h,hs⟩:=hs.hr (h w9)
 refine tG (.inl rfl) (vs:=[(Aa aI aJ aY aZ aK aT)]) (v:=(Aa aI aJ aY aZ aK aT)) results163 ⟨(rva (isAgg107 _) (sizeOf107 _) (hb.r0 0 6 gZ)),trivial⟩ (by kernel_rfl) ⟨aI,aJ,aY,aZ,aK,aT,rfl,h⟩
def s_B (kind1:Int):Bool :=(((kind1 == 1) || (kind1 == 2)) || (kind1 == 4))
theorem pw_B (kind1:Int) (w0:World) :
  Calls prog 164 #[(vi kind1)] w0 (fun e w'=>(e=.returned (vb (((kind1 == 1) || (kind1 == 2)) || (kind1 == 4))))∧Pure w0 w'):=by
 refine cw (args:=[(vi kind1)]) func164 ntmps164 (eg (q0 (vb false) (ln (zA ?_))))
 refine vS (fun ρ wJ=>w0=wJ∧Has ρ [(2,(vb (((kind1 == 1) || (kind1 == 2)) || (kind1 == 4))))]) ?_ ?_
 refine rg (qc (zL 3 (fun ρ wJ=>∃b4'0:Bool,((kind1 == 1)=b4'0)∧w0=wJ∧Has ρ [(0,(vi kind1)),(8,(vb (b4'0 || (kind1 == 2))))]) ?_ ?_))
 rintro ρ w4 ⟨b4'0,he0,hw,hH⟩
 subst he0
 subst hw
 refine zO hH (q (zL 3 (fun ρ wJ=>∃b5'0:Bool,(((kind1 == 1) || (kind1 == 2))=b5'0)∧w0=wJ∧Has ρ [(12,(vb (b5'0 || (kind1 == 4))))]) ?_ ?_))
 rintro ρ w5 ⟨b5'0,he0,hw,hH⟩
 subst he0
 subst hw
 refine zO hH (q (ln ⟨rfl,hm⟩))
 rcases bte ((kind1 == 1) || (kind1 == 2)) with hg8 | hg8
 refine sj2 9 hg8 (q2 (vb true) (xT hg8) (zC ⟨true,hg8,rfl,hm⟩))
 refine qk 9 hg8 (qk 9 hg8 (q2 (vb (kind1 == 4)) (xF hg8) (zC ⟨false,hg8,rfl,hm⟩)))
 rcases bte (kind1 == 1) with hg6 | hg6
 refine sj2 5 hg6 (q2 (vb true) (xT hg6) (zC ⟨true,hg6,rfl,hm⟩))
 refine qk 5 hg6 (qk 5 hg6 (q2 (vb (kind1 == 2)) (xF hg6) (zC ⟨false,hg6,rfl,hm⟩)))
 rintro ρ w3 ⟨hw,hH⟩
 subst hw
 refine vL hH (zM (er (rs1 results164 (v:=(vb (((kind1 == 1) || (kind1 == 2)) || (kind1 == 4)))) ⟨by kernel_rfl,Ext.refl _⟩)))
theorem p_B (kind1:Int) (w0:World):Calls prog 164 #[(.int .i64 kind1)] w0 (fun e w'=>e=.returned (.bool (s_B kind1))∧Pure w0 w'):=pw_B kind1 w0
def s_N2 (kind1:Int):Bool :=((s_B kind1) || (kind1 == 6))
theorem pw_N2 (kind1:Int) (w0:World) :
  Calls prog 165 #[(vi kind1)] w0 (fun e w'=>(e=.returned (vb ((s_B kind1) || (kind1 == 6))))∧Pure w0 w'):=by
 refine cw (args:=[(vi kind1)]) func165 ntmps165 ?_
 obtain ⟨hs,hb⟩:=st0 w0
 refine eg (q (ln (zA (vS (fun ρ wJ=>∃HJ:NP,Hst w0 None w0 HJ wJ∧HB HJ wJ []∧Has ρ [(2,(vb ((s_B kind1) || (kind1 == 6))))]) ?_ ?_))))
 refine rg (q (sc call164 ((p_B kind1 w0).mono ?_)))
 rintro e w4 ⟨he,hE⟩
 refine ⟨_,he,?_⟩
 obtain ⟨hs,hb⟩:=hs.pp hb hE
 refine q (zL 3 (fun ρ wJ=>∃b3'0:Bool,∃HJ:NP,((s_B kind1)=b3'0)∧Hst w0 None w0 HJ wJ∧HB HJ wJ []∧Has ρ [(8,(vb (b3'0 || (kind1 == 6))))]) ?_ ?_)
 rintro ρ w5 ⟨b3'0,H3,he0,hs,hb,hH⟩
 subst he0
 refine zO hH (q (ln ⟨_,hs,hb,hm⟩))
 rcases bte (s_B kind1) with hg4 | hg4
 refine sj2 5 hg4 (q2 (vb true) (xT hg4) (zC ⟨true,_,hg4,hs,hb,hm⟩))
 refine qk 5 hg4 (qk 5 hg4 (q2 (vb (kind1 == 6)) (xF hg4) (zC ⟨false,_,hg4,hs,hb,hm⟩)))
 rintro ρ w3 ⟨H2,hs,hb,hH⟩
 refine vL hH (zM (er (rs1 results165 (v:=(vb ((s_B kind1) || (kind1 == 6)))) ⟨by kernel_rfl,(Ext.refl (F:=None) _).hst hs⟩)))
theorem p_N2 (kind1:Int) (w0:World):Calls prog 165 #[(.int .i64 kind1)] w0 (fun e w'=>e=.returned (.bool (s_N2 kind1))∧Pure w0 w'):=pw_N2 kind1 w0
def s_Y1 (aA aB aU:Int) (aP:ByteArray) (aQ:Bool):Int :=(cond ((((((decide (aA<1)) || (decide (aA>7))) || ((aB != 0) && (aB != 1))) || ((!(s_B aA)) && (aB != 0))) || ((!((s_B aA) || (aA == 6))) && (!(decide (aP=⟨#[]⟩))))) || ((aQ && (aA != 1)) && (aA != 4))) 110 (cond (decide ((aP.size:Int)>64)) 1 0))
theorem pw_Y1 (aA aB aU:Int) (aP:ByteArray) (aQ:Bool) (w0:World) :
  Calls prog 166 #[(.agg #[(vi aA),(vi aB),(vu aU),(vs aP),(vb aQ)])] w0 (fun e w'=>∃b'0 b'1:Bool,(((((((decide (aA<1)) || (decide (aA>7))) || ((aB != 0) && (aB != 1))) || ((!(s_B aA)) && (aB != 0))) || ((!((s_B aA) || (aA == 6))) && (!(decide (aP=⟨#[]⟩))))) || ((aQ && (aA != 1)) && (aA != 4)))=b'0∧(decide ((aP.size:Int)>64))=b'1)∧(e=.returned (vi (cond b'0 110 (cond b'1 1 0))))∧Pure w0 w'):=by
 refine cw (args:=[(Ae aA aB aU aP aQ)]) func166 ntmps166 ?_
 obtain ⟨hs,hb⟩:=st0 w0
 refine eg (nw3 (Ac aA aB aU aP aQ) 35 hs hb xb fun p1 w1 H1 hs hb=>q (ln (zA (zA (vS (fun ρ wJ=>∃b13'0:Bool,∃HJ:NP,((((((decide (aA<1)) || (decide (aA>7))) || ((aB != 0) && (aB != 1))) || ((!(s_B aA)) && (aB != 0))) || ((!((s_B aA) || (aA == 6))) && (!(decide (aP=⟨#[]⟩)))))=b13'0)∧Hst w0 None w0 HJ wJ∧HB HJ wJ [(p1,(Ac aA aB aU aP aQ),35)]∧Has ρ [(1,(vp (some p1))),(56,(vb (b13'0 || ((aQ && (aA != 1)) && (aA != 4)))))]) ?_ ?_)))))
 refine rg (q (q3 (xl (isAgg3 _) (hb.d0 0 gZ)) (qb (zL 4 (fun ρ wJ=>∃b14'0:Bool,∃HJ:NP,((decide (aA<1))=b14'0)∧Hst w0 None w0 HJ wJ∧HB HJ wJ [(p1,(Ac aA aB aU aP aQ),35)]∧Has ρ [(1,(vp (some p1))),(10,(vb (b14'0 || (decide (aA>7)))))]) ?_ ?_))))
 rintro ρ w19 ⟨b14'0,H15,he0,hs,hb,hH⟩
 subst he0
 refine zO hH (q (zL 9 (fun ρ wJ=>∃b16'0:Bool,∃HJ:NP,(((decide (aA<1)) || (decide (aA>7)))=b16'0)∧Hst w0 None w0 HJ wJ∧HB HJ wJ [(p1,(Ac aA aB aU aP aQ),35)]∧Has ρ [(1,(vp (some p1))),(20,(vb (b16'0 || ((aB != 0) && (aB != 1)))))]) ?_ ?_))
 rintro ρ w21 ⟨b16'0,H17,he0,hs,hb,hH⟩
 subst he0
 refine zO hH (q (zL 10 (fun ρ wJ=>∃b19'0:Bool,∃HJ:NP,((((decide (aA<1)) || (decide (aA>7))) || ((aB != 0) && (aB != 1)))=b19'0)∧Hst w0 None w0 HJ wJ∧HB HJ wJ [(p1,(Ac aA aB aU aP aQ),35)]∧Has ρ [(1,(vp (some p1))),(31,(vb (b19'0 || ((!(s_B aA)) && (aB != 0)))))]) ?_ ?_))
 rintro ρ w25 ⟨b19'0,H20,he0,hs,hb,hH⟩
 subst he0
 refine zO hH (q (zL 10 (fun ρ wJ=>∃b22'0:Bool,∃HJ:NP,(((((decide (aA<1)) || (decide (aA>7))) || ((aB != 0) && (aB != 1))) || ((!(s_B aA)) && (aB != 0)))=b22'0)∧Hst w0 None w0 HJ wJ∧HB HJ wJ [(p1,(Ac aA aB aU aP aQ),35)]∧Has ρ [(1,(vp (some p1))),(42,(vb (b22'0 || ((!((s_B aA) || (aA == 6))) && (!(decide (aP=⟨#[]⟩)))))))]) ?_ ?_))
 rintro ρ w30 ⟨b22'0,H23,he0,hs,hb,hH⟩
 subst he0
 refine zO hH (q ?_)
 rcases bte (((((decide (aA<1)) || (decide (aA>7))) || ((aB != 0) && (aB != 1))) || ((!(s_B aA)) && (aB != 0))) || ((!((s_B aA) || (aA == 6))) && (!(decide (aP=⟨#[]⟩))))) with hg46 | hg46
 refine sj3 43 hg46 (sm (sm (sm (sj2 43 hg46 (sm (sm (sm (sj 43 hg46 (q2 (vb true) (xT hg46) (ln ⟨true,_,hg46,hs,hb,hm⟩))))))))))
 refine qk 43 hg46 (q4 43 hg46 (xl (isAgg4 _) (hb.d 0 4 gZ)) (qk 43 hg46 (zL 4 (fun ρ wJ=>∃b24'0:Bool,∃HJ:NP,(aQ=b24'0)∧Hst w0 None w0 HJ wJ∧HB HJ wJ [(p1,(Ac aA aB aU aP aQ),35)]∧Has ρ [(1,(vp (some p1))),(43,(vb (((((decide (aA<1)) || (decide (aA>7))) || ((aB != 0) && (aB != 1))) || ((!(s_B aA)) && (aB != 0))) || ((!((s_B aA) || (aA == 6))) && (!(decide (aP=⟨#[]⟩))))))),(50,(vb (b24'0 && (aA != 1))))]) ?_ ?_)))
 rintro ρ w33 ⟨b24'0,H25,he0,hs,hb,hH⟩
 subst he0
 refine zO hH (qk 43 hg46 (zL 4 (fun ρ wJ=>∃b25'0:Bool,∃HJ:NP,((aQ && (aA != 1))=b25'0)∧Hst w0 None w0 HJ wJ∧HB HJ wJ [(p1,(Ac aA aB aU aP aQ),35)]∧Has ρ [(1,(vp (some p1))),(43,(vb (((((decide (aA<1)) || (decide (aA>7))) || ((aB != 0) && (aB != 1))) || ((!(s_B aA)) && (aB != 0))) || ((!((s_B aA) || (aA == 6))) && (!(decide (aP=⟨#[]⟩))))))),(55,(vb (b25'0 && (aA != 4))))]) ?_ ?_))
 rintro ρ w34 ⟨b25'0,H26,he0,hs,hb,hH⟩
 subst he0
 refine zO hH (q2 (vb ((aQ && (aA != 1)) && (aA != 4))) (xF hg46) (ln ⟨false,_,hg46,hs,hb,hm⟩))
 rcases bte (aQ && (aA != 1)) with hg50 | hg50
 refine qk 51 hg50 (q4 51 hg50 (xl (isAgg3 _) (hb.d0 0 gZ)) (qk 51 hg50 (stq (v:=(vb (aA != 4))) (wy 43 hg46) (xT hg50) (zC ⟨true,_,hg50,hs,hb,hm⟩))))
 refine sj3 51 hg50 (stq (v:=(vb false)) (wy 43 hg46) (xF hg50) (zC ⟨false,_,hg50,hs,hb,hm⟩))
 rcases bte aQ with hg48 | hg48
 refine qk 46 hg48 (q4 46 hg48 (xl (isAgg3 _) (hb.d0 0 gZ)) (qk 46 hg48 (stq (v:=(vb (aA != 1))) (wy 43 hg46) (xT hg48) (zC ⟨true,_,hg48,hs,hb,hm⟩))))
 refine sj3 46 hg48 (stq (v:=(vb false)) (wy 43 hg46) (xF hg48) (zC ⟨false,_,hg48,hs,hb,hm⟩))
 rcases bte ((((decide (aA<1)) || (decide (aA>7))) || ((aB != 0) && (aB != 1))) || ((!(s_B aA)) && (aB != 0))) with hg43 | hg43
 refine sj5 32 hg43 (sm (sm (sm (sj 32 hg43 (q2 (vb true) (xT hg43) (zC ⟨true,_,hg43,hs,hb,hm⟩))))))
 refine qk 32 hg43 (q4 32 hg43 (xl (isAgg3 _) (hb.d0 0 gZ)) (vE (wy 32 hg43) (xc call165) ((p_N2 aA w25).mono ?_)))
 rintro e w31 ⟨he,hE⟩
 refine ⟨_,he,?_⟩
 obtain ⟨hs,hb⟩:=hs.pp hb hE
 refine qk 32 hg43 (qk 32 hg43 (zL 4 (fun ρ wJ=>∃b23'0:Bool,∃HJ:NP,((!((s_B aA) || (aA == 6)))=b23'0)∧Hst w0 None w0 HJ wJ∧HB HJ wJ [(p1,(Ac aA aB aU aP aQ),35)]∧Has ρ [(1,(vp (some p1))),(32,(vb ((((decide (aA<1)) || (decide (aA>7))) || ((aB != 0) && (aB != 1))) || ((!(s_B aA)) && (aB != 0))))),(41,(vb (b23'0 && (!(decide (aP=⟨#[]⟩))))))]) ?_ ?_))
 rintro ρ w32 ⟨b23'0,H24,he0,hs,hb,hH⟩
 subst he0
 refine zO hH (q2 (vb ((!((s_B aA) || (aA == 6))) && (!(decide (aP=⟨#[]⟩))))) (xF hg43) (zC ⟨false,_,hg43,hs,hb,hm⟩))
 rcases bte (!((s_B aA) || (aA == 6))) with hg45 | hg45
 refine qk 37 hg45 (q4 37 hg45 (xl (isAgg9 _) (hb.d 0 3 gZ)) (stq (v:=(vb (!(decide (aP=⟨#[]⟩))))) (wy 37 hg45) (yZ (by kernel_rfl) (by kernel_rfl)) (stq (v:=(vb (!(decide (aP=⟨#[]⟩))))) (wy 32 hg43) (xT hg45) (zC ⟨true,_,hg45,hs,hb,hm⟩))))
 refine sj3 37 hg45 (stq (v:=(vb false)) (wy 32 hg43) (xF hg45) (zC ⟨false,_,hg45,hs,hb,hm⟩))
 rcases bte (((decide (aA<1)) || (decide (aA>7))) || ((aB != 0) && (aB != 1))) with hg37 | hg37
 refine sj5 21 hg37 (sm (sm (sm (sj 21 hg37 (q2 (vb true) (xT hg37) (zC ⟨true,_,hg37,hs,hb,hm⟩))))))
 refine qk 21 hg37 (q4 21 hg37 (xl (isAgg3 _) (hb.d0 0 gZ)) (vE (wy 21 hg37) (xc call164) ((p_B aA w21).mono ?_)))
 rintro e w26 ⟨he,hE⟩
 refine ⟨_,he,?_⟩
 obtain ⟨hs,hb⟩:=hs.pp hb hE
 refine qk 21 hg37 (qk 21 hg37 (zL 4 (fun ρ wJ=>∃b20'0:Bool,∃HJ:NP,((!(s_B aA))=b20'0)∧Hst w0 None w0 HJ wJ∧HB HJ wJ [(p1,(Ac aA aB aU aP aQ),35)]∧Has ρ [(1,(vp (some p1))),(21,(vb (((decide (aA<1)) || (decide (aA>7))) || ((aB != 0) && (aB != 1))))),(30,(vb (b20'0 && (aB != 0))))]) ?_ ?_))
 rintro ρ w27 ⟨b20'0,H21,he0,hs,hb,hH⟩
 subst he0
 refine zO hH (q2 (vb ((!(s_B aA)) && (aB != 0))) (xF hg37) (zC ⟨false,_,hg37,hs,hb,hm⟩))
 rcases bte (!(s_B aA)) with hg39 | hg39
 refine qk 26 hg39 (q4 26 hg39 (xl (isAgg3 _) (hb.d 0 1 gZ)) (qk 26 hg39 (stq (v:=(vb (aB != 0))) (wy 21 hg37) (xT hg39) (zC ⟨true,_,hg39,hs,hb,hm⟩))))
 refine sj3 26 hg39 (stq (v:=(vb false)) (wy 21 hg37) (xF hg39) (zC ⟨false,_,hg39,hs,hb,hm⟩))
 rcases bte ((decide (aA<1)) || (decide (aA>7))) with hg31 | hg31
 refine sj4 11 hg31 (sm (sm (sm (sj 11 hg31 (q2 (vb true) (xT hg31) (zC ⟨true,_,hg31,hs,hb,hm⟩))))))
 refine qk 11 hg31 (q4 11 hg31 (xl (isAgg3 _) (hb.d 0 1 gZ)) (qk 11 hg31 (qk 11 hg31 (zL 4 (fun ρ wJ=>∃b17'0:Bool,∃HJ:NP,((aB != 0)=b17'0)∧Hst w0 None w0 HJ wJ∧HB HJ wJ [(p1,(Ac aA aB aU aP aQ),35)]∧Has ρ [(1,(vp (some p1))),(11,(vb ((decide (aA<1)) || (decide (aA>7))))),(19,(vb (b17'0 && (aB != 1))))]) ?_ ?_))))
 rintro ρ w22 ⟨b17'0,H18,he0,hs,hb,hH⟩
 subst he0
 refine zO hH (q2 (vb ((aB != 0) && (aB != 1))) (xF hg31) (zC ⟨false,_,hg31,hs,hb,hm⟩))
 rcases bte (aB != 0) with hg33 | hg33
 refine qk 15 hg33 (q4 15 hg33 (xl (isAgg3 _) (hb.d 0 1 gZ)) (qk 15 hg33 (stq (v:=(vb (aB != 1))) (wy 11 hg31) (xT hg33) (zC ⟨true,_,hg33,hs,hb,hm⟩))))
 refine sj3 15 hg33 (stq (v:=(vb false)) (wy 11 hg31) (xF hg33) (zC ⟨false,_,hg33,hs,hb,hm⟩))
 rcases bte (decide (aA<1)) with hg27 | hg27
 refine sj3 6 hg27 (q2 (vb true) (xT hg27) (zC ⟨true,_,hg27,hs,hb,hm⟩))
 refine qk 6 hg27 (q4 6 hg27 (xl (isAgg3 _) (hb.d0 0 gZ)) (qk 6 hg27 (q2 (vb (decide (aA>7))) (xF hg27) (zC ⟨false,_,hg27,hs,hb,hm⟩))))
 rintro ρ w18 ⟨b13'0,H14,he0,hs,hb,hH⟩
 subst he0
 refine vL hH (zM (vK (t:=((((((decide (aA<1)) || (decide (aA>7))) || ((aB != 0) && (aB != 1))) || ((!(s_B aA)) && (aB != 0))) || ((!((s_B aA) || (aA == 6))) && (!(decide (aP=⟨#[]⟩))))) || ((aQ && (aA != 1)) && (aA != 4)))) (by kernel_rfl) (fun hc1=>?_) (fun hc1=>?_)))
 refine eg (q (ln (er (zV (rs1 results166 (v:=(vi 110)) ⟨true,_,⟨hc1,rfl⟩,by kernel_rfl,(Ext.refl (F:=None) _).hst hs⟩)))))
 refine zB (zM (zA (eg (q (q3 (xl (isAgg9 _) (hb.d 0 3 gZ)) (qb (ln (vK (t:=(decide ((aP.size:Int)>64))) (by kernel_rfl) (fun hc2=>?_) (fun hc2=>?_)))))))))
 refine eg (q (ln (er (zV (rs1 results166 (v:=(vi 1)) ⟨false,true,⟨hc1,hc2⟩,by kernel_rfl,(Ext.refl (F:=None) _).hst hs⟩)))))
 refine zB (zM (eg (q (ln (er (rs1 results166 (v:=(vi 0)) ⟨false,false,⟨hc1,hc2⟩,by kernel_rfl,(Ext.refl (F:=None) _).hst hs⟩))))))
theorem p_Y1 (aA aB aU:Int) (aP:ByteArray) (aQ:Bool) (w0:World):Calls prog 166 #[(.agg #[(.int .i64 aA),(.int .i64 aB),(.int .u64 aU),(.string aP),(.bool aQ)])] w0 (fun e w'=>e=.returned (.int .i64 (s_Y1 aA aB aU aP aQ))∧Pure w0 w'):=by
 refine (pw_Y1 aA aB aU aP aQ w0).mono ?_;rintro e w' ⟨b'0,b'1,⟨e0,e1⟩,h,E⟩;subst e0;subst e1;exact ⟨h,E⟩
def m_H_l5 (aD aC:Int) (aE aF:Int) (aG:ByteArray) (aH:Sl) (kind1 i1:Int) (fakes1 aL:Int) (aM aN:Int) (aO:ByteArray) (cF:Bool) (bA bB bC:Int) (bD:ByteArray) (bE:Bool) (w0:World) (Hl3:NP) (wl3:World) (Kc2:Int→Int→Int→Int→ByteArray→Bool→NP→WP) (Kc5:Int→Int→Int→Int→ByteArray→Bool→Int→Int→Int→ByteArray→Bool→NP→WP) (K:Int→Int→Int→ByteArray→Bool→Bool→WP):Prop :=Br (decide (fakes1<4)) (∀w14,Hst w0 Hl3 wl3 Hl3 w14→∃C1:WP,C1 w14.drew∧∀w15,w15=w14.drew→Calls prog 166 #[(.agg #[(vi aL),(vi aM),(vu aN),(vs aO),(vb (decide (fakes1>0)))])] w15 (fun e w16=>∃r1,e=.returned (vi r1)∧C1 w16∧Kept Hl3 w15 w16∧Br (r1 == 0) (Br (kind1 == 4) (∃z1,(∀w',C1 w'→(Go.binOp .rem 3 (vi fakes1) (vi 2)).run prog w'=.ok (vi z1) w')∧∃z2,(∀w',C1 w'→(Go.binOp .quo 3 (vi fakes1) (vi 2)).run prog w'=.ok (vi z2) w')∧Calls prog 58 #[(.agg #[(vi aL),(vi aM),(vu aN),(vs aO),(vb (decide (fakes1>0)))]),(vb (z1 == 1)),(vb (z2 == 1))] w16 (fun e w17=>∃bT bU bV bW bX bY,e=.returned (Aa bT bU bV bW bX bY)∧C1 w17∧Kept Hl3 w16 w17∧Calls prog 47 #[(.agg #[(vi bT),(vi bU),(vi bV),(vu bW),(vs bX),bY.v]),(.agg #[(vi aD),(vi aC),(vi aE),(vu aF),(vs aG),aH.v])] w17 (fun e w18=>∃r2,e=.returned (vb r2)∧C1 w18∧Kept Hl3 w17 w18∧Br r2 (∀w19,Hst w0 Hl3 w18 Hl3 w19→K aL aM aN aO (decide (fakes1>0)) true w19) (Kc5 (q6.wrap (fakes1+1)) aL aM aN aO (decide (fakes1>0)) bA bB bC bD bE Hl3 w18)))) (Br (fakes1 != 2) (∃z3,(∀w',C1 w'→(Go.binOp .rem 3 (vi fakes1) (vi 2)).run prog w'=.ok (vi z3) w')∧∃z4,(∀w',C1 w'→(Go.binOp .quo 3 (vi fakes1) (vi 2)).run prog w'=.ok (vi z4) w')∧Calls prog 58 #[(.agg #[(vi aL),(vi aM),(vu aN),(vs aO),(vb (decide (fakes1>0)))]),(vb (z3 == 1)),(vb (z4 == 1))] w16 (fun e w20=>∃bO bP dB dC bQ dD,e=.returned (Aa bO bP dB dC bQ dD)∧C1 w20∧Kept Hl3 w16 w20∧Calls prog 47 #[(.agg #[(vi bO),(vi bP),(vi dB),(vu dC),(vs bQ),dD.v]),(.agg #[(vi aD),(vi aC),(vi aE),(vu aF),(vs aG),aH.v])] w20 (fun e w21=>∃r3,e=.returned (vb r3)∧C1 w21∧Kept Hl3 w20 w21∧Br r3 (∀w22,Hst w0 Hl3 w21 Hl3 w22→K aL aM aN aO (decide (fakes1>0)) true w22) (Kc5 (q6.wrap (fakes1+1)) aL aM aN aO (decide (fakes1>0)) bA bB bC bD bE Hl3 w21)))) (Kc5 (q6.wrap (fakes1+1)) aL aM aN aO (decide (fakes1>0)) bA bB bC bD bE Hl3 w16))) (Kc5 (q6.wrap (fakes1+1)) aL aM aN aO (decide (fakes1>0)) bA bB bC bD bE Hl3 w16))) (Kc2 (q6.wrap (i1+1)) bA bB bC bD bE Hl3 wl3)
def m_H_j4 (aD aC:Int) (aE aF:Int) (aG:ByteArray) (aH:Sl) (kind1 i1:Int) (aI aJ aR:Int) (aK:ByteArray) (aS:Bool) (aA aB aU:Int) (aP:ByteArray) (aQ:Bool) (w0:World) (H:NP) (w:World) (Kc2:Int→Int→Int→Int→ByteArray→Bool→NP→WP) (K:Int→Int→Int→ByteArray→Bool→Bool→WP):Prop :=∃(I3:Int→Int→Int→Int→ByteArray→Bool→Int→Int→Int→ByteArray→Bool→NP→WP) (mu3:Int→Int→Int→Int→ByteArray→Bool→Int→Int→Int→ByteArray→Bool→World→Nat),I3 0 aA aB aU aP aQ aI aJ aR aK aS H w∧∀(fakes1 aL:Int) (aM aN:Int) (aO:ByteArray) (cF:Bool) (bA bB bC:Int) (bD:ByteArray) (bE:Bool) (Hl3:NP) (wl3:World),Hst w0 Hl3 wl3 Hl3 wl3→I3 fakes1 aL aM aN aO cF bA bB bC bD bE Hl3 wl3→m_H_l5 aD aC aE aF aG aH kind1 i1 fakes1 aL aM aN aO cF bA bB bC bD bE w0 Hl3 wl3 Kc2 (fun y'0 y'1 y'2 y'3 y'4 y'5 y'6 y'7 y'8 y'9 y'10 H' w'=>I3 y'0 y'1 y'2 y'3 y'4 y'5 y'6 y'7 y'8 y'9 y'10 H' w'∧mu3 y'0 y'1 y'2 y'3 y'4 y'5 y'6 y'7 y'8 y'9 y'10 w'<mu3 fakes1 aL aM aN aO cF bA bB bC bD bE wl3) K
def m_H_j3 (aD aC:Int) (aE aF:Int) (aG:ByteArray) (aH:Sl) (kind1 i1:Int) (aI aJ aR:Int) (aK:ByteArray) (aS:Bool) (a1:Addr) (w0:World) (H:NP) (w:World) (Kc2:Int→Int→Int→Int→ByteArray→Bool→NP→WP) (K:Int→Int→Int→ByteArray→Bool→Bool→WP):Prop :=Br ((s_B kind1) || (kind1 == 6)) (∀H4 w13,Hst w0 H w H4 w13→∃bF bG bH bI bJ bK,Row w13 a1 (Ab bF bG bH bI bJ bK)∧∀p8 w23,New w13 (.cells #[(vi 1),(vi 0)] 3) p8 w23→Calls prog 163 #[(.agg #[(vi bF),(vi bG),(vi bH),(vu bI),(vs bJ),bK.v]),(Sl.mk (some p8) 2 2).v] w23 (fun e w24=>∃cG cH dE bZ cI dF,e=.returned (Aa cG cH dE bZ cI dF)∧Kept H4 w23 w24∧∀w25,Hst w0 H4 w24 H4 w25→∃cJ cK cL cM cN cO,Row w25 a1 (Ab cJ cK cL cM cN cO)∧∀p9 w26,New w25 (.cells #[(vi 1),(vi 1)] 3) p9 w26→Calls prog 163 #[(.agg #[(vi cJ),(vi cK),(vi cL),(vu cM),(vs cN),cO.v]),(Sl.mk (some p9) 2 2).v] w26 (fun e w27=>∃dG dH dI dJ cC dK,e=.returned (Aa dG dH dI dJ cC dK)∧Kept H4 w26 w27∧∀w28,Hst w0 H4 w27 H4 w28→m_H_j4 aD aC aE aF aG aH kind1 i1 aI aJ aR aK aS kind1 (cond (s_B kind1) aC 0) bZ cC false w0 H4 w28 Kc2 K))) (Br (kind1 == 7) (∀H4 w13,Hst w0 H w H4 w13→∀p10 w29,New w13 (.cells #[(vi 1)] 3) p10 w29→Calls prog 163 #[(.agg #[(vi aD),(vi aC),(vi aE),(vu aF),(vs aG),aH.v]),(Sl.mk (some p10) 1 1).v] w29 (fun e w30=>∃dL dM dN cD dO dP,e=.returned (Aa dL dM dN cD dO dP)∧Kept H4 w29 w30∧∀w31,Hst w0 H4 w30 H4 w31→m_H_j4 aD aC aE aF aG aH kind1 i1 aI aJ aR aK aS kind1 (cond (s_B kind1) aC 0) cD ⟨#[]⟩ false w0 H4 w31 Kc2 K)) (∀H4 w13,Hst w0 H w H4 w13→∀p11 w32,New w13 (.cells #[(vi 0),(vi 1)] 3) p11 w32→Calls prog 163 #[(.agg #[(vi aD),(vi aC),(vi aE),(vu aF),(vs aG),aH.v]),(Sl.mk (some p11) 2 2).v] w32 (fun e w33=>∃dQ dR dS cE dT dU,e=.returned (Aa dQ dR dS cE dT dU)∧Kept H4 w32 w33∧∀w34,Hst w0 H4 w33 H4 w34→m_H_j4 aD aC aE aF aG aH kind1 i1 aI aJ aR aK aS kind1 (cond (s_B kind1) aC 0) cE ⟨#[]⟩ false w0 H4 w34 Kc2 K)))
def m_H_l2 (aD aC:Int) (aE aF:Int) (aG:ByteArray) (aH:Sl) (p6:Addr) (kind1 i1:Int) (aI aJ aR:Int) (aK:ByteArray) (aS:Bool) (w0:World) (Hl2:NP) (wl2:World) (Kc1:Int→Int→Int→Int→ByteArray→Bool→NP→WP) (Kc2:Int→Int→Int→Int→ByteArray→Bool→NP→WP) (K:Int→Int→Int→ByteArray→Bool→Bool→WP):Prop :=Br (decide (i1<((Sl.mk (some p6) 3 3).len:Int))) (∃C2:WP,C2 wl2.drew∧∀w35,w35=wl2.drew→∃a2:Addr,At (Sl.mk (some p6) 3 3) i1 1 a2∧∃v1:Sl,(∀w',C2 w'→w'.cell? a2=some v1.v)∧(Calls prog 163 #[(.agg #[(vi aD),(vi aC),(vi aE),(vu aF),(vs aG),aH.v]),v1.v] w35 (fun e w36=>∃cP cQ cR cS cT cU,e=.returned (Aa cP cQ cR cS cT cU)∧Kept Hl2 w35 w36∧∀p12 w37,New w36 (.cells #[(vi 0),(vi 0),(vi 0),(vu 0),ve,Sl.nil.v] 107) p12 w37→C2 w37∧(∀j,j<6→vD w37 (p12.add j))∧¬ Hl2 p12.block∧∀w38,w38=storeRow w37 p12 (Ab cP cQ cR cS cT cU)→m_H_j3 aD aC aE aF aG aH kind1 i1 aI aJ aR aK aS p12 w0 Hl2 w38 Kc2 K))∧(∀p13 w39,New w35 (.cells #[(vi 0),(vi 0),(vi 0),(vu 0),ve,Sl.nil.v] 107) p13 w39→C2 w39∧Calls prog 163 #[(.agg #[(vi aD),(vi aC),(vi aE),(vu aF),(vs aG),aH.v]),v1.v] w39 (fun e w40=>∃cV cW cX cY cZ dA,e=.returned (Aa cV cW cX cY cZ dA)∧Kept Hl2 w39 w40∧(∀j,j<6→vD w40 (p13.add j))∧¬ Hl2 p13.block∧∀w41,w41=storeRow w40 p13 (Ab cV cW cX cY cZ dA)→m_H_j3 aD aC aE aF aG aH kind1 i1 aI aJ aR aK aS p13 w0 Hl2 w41 Kc2 K))) (Kc1 (q6.wrap (kind1+1)) aI aJ aR aK aS Hl2 wl2)
def m_H_l1 (aD aC:Int) (aE aF:Int) (aG:ByteArray) (aH:Sl) (p6:Addr) (kind1 aV:Int) (aW cA:Int) (aX:ByteArray) (cB:Bool) (w0:World) (Hl1:NP) (wl1:World) (Kc1:Int→Int→Int→Int→ByteArray→Bool→NP→WP) (K:Int→Int→Int→ByteArray→Bool→Bool→WP):Prop :=Br (decide (kind1≤7)) (∃(I2:Int→Int→Int→Int→ByteArray→Bool→NP→WP) (mu2:Int→Int→Int→Int→ByteArray→Bool→World→Nat),I2 0 aV aW cA aX cB Hl1 wl1∧∀(i1 aI:Int) (aJ aR:Int) (aK:ByteArray) (aS:Bool) (Hl2:NP) (wl2:World),Hst w0 Hl2 wl2 Hl2 wl2→I2 i1 aI aJ aR aK aS Hl2 wl2→m_H_l2 aD aC aE aF aG aH p6 kind1 i1 aI aJ aR aK aS w0 Hl2 wl2 Kc1 (fun y'0 y'1 y'2 y'3 y'4 y'5 H' w'=>I2 y'0 y'1 y'2 y'3 y'4 y'5 H' w'∧mu2 y'0 y'1 y'2 y'3 y'4 y'5 w'<mu2 i1 aI aJ aR aK aS wl2) K) (∀w42,Hst w0 Hl1 wl1 Hl1 w42→K 0 0 0 ⟨#[]⟩ false false w42)
def m_H (aD aC:Int) (aE aF:Int) (aG:ByteArray) (aH:Sl) (w0:World) (K:Int→Int→Int→ByteArray→Bool→Bool→WP):Prop :=∀H2 w2,Hst w0 None w0 H2 w2→∀p3 w3,New w2 (.cells #[(vi 0)] 3) p3 w3→∀p4 w4,New w3 (.cells #[(vi 0),(vi 1),(vi 0),(vi 0)] 3) p4 w4→∀p5 w5,New w4 (.cells #[(vi 0),(vi 1)] 3) p5 w5→∀p6 w6,New w5 (.cells #[(Sl.mk (some p3) 1 1).v,(Sl.mk (some p4) 4 4).v,(Sl.mk (some p5) 2 2).v] 42) p6 w6→∃(I1:Int→Int→Int→Int→ByteArray→Bool→NP→WP) (mu1:Int→Int→Int→Int→ByteArray→Bool→World→Nat),I1 1 0 0 0 ⟨#[]⟩ false H2 w6∧∀(kind1 aV:Int) (aW cA:Int) (aX:ByteArray) (cB:Bool) (Hl1:NP) (wl1:World),Hst w0 Hl1 wl1 Hl1 wl1→I1 kind1 aV aW cA aX cB Hl1 wl1→m_H_l1 aD aC aE aF aG aH p6 kind1 aV aW cA aX cB w0 Hl1 wl1 (fun y'0 y'1 y'2 y'3 y'4 y'5 H' w'=>I1 y'0 y'1 y'2 y'3 y'4 y'5 H' w'∧mu1 y'0 y'1 y'2 y'3 y'4 y'5 w'<mu1 kind1 aV aW cA aX cB wl1) K
theorem w_H (aD aC aE aF aG aH w0 K) (h:m_H aD aC aE aF aG aH w0 K):
  Calls prog 98 #[(.agg #[(vi aD),(vi aC),(vi aE),(vu aF),(vs aG),aH.v])] w0 (fun e w'=>∃dV dW bR dX bS r4,e=.returned (.tuple #[(Ae dV dW bR dX bS),(vb r4)])∧K dV dW bR dX bS r4 w'):=by
 refine cw (args:=[(Aa aD aC aE aF aG aH)]) func98 ntmps98 ?_
 obtain ⟨hs,hb⟩:=st0 w0
 refine eg (nw3 (Ab aD aC aE aF aG aH) 107 hs hb xb fun p1 w1 H1 hs hb=>nw3 (Ag 0 0 0 false) 35 hs hb (zI (zeroValue35 _) rfl) fun p2 w2 H2 hs hb=>q (ln (eg ?_)))
 have ⟨h,hs⟩:=hs.hr (h H2 w2)
 refine nw5 (fun p=>(Sl.mk (some p) 1 1).v) hs hb h fun p3 w3 hs hb h=>nw5 (fun p=>(Sl.mk (some p) 4 4).v) hs hb h fun p4 w4 hs hb h=>nw5 (fun p=>(Sl.mk (some p) 2 2).v) hs hb h fun p5 w5 hs hb h=>nw5 (fun p=>(Sl.mk (some p) 3 3).v) hs hb h fun p6 w6 hs hb h=>q (ln (zA (eg (q (ln (zH ?_))))))
 obtain ⟨I1,mu1,h0,hr⟩:=h
 refine vO (σ:=Int×Int×Int×Int×ByteArray×Bool×NP×World) (fun s ρ w=>w=s.2.2.2.2.2.2.2∧Has ρ [(1,(vp (some p1))),(2,(vp (some p2))),(4,(Sl.mk (some p6) 3 3).v),(5,(vi s.1))]∧Hst w0 s.2.2.2.2.2.2.1 w s.2.2.2.2.2.2.1 w∧HB s.2.2.2.2.2.2.1 w [(p2,(Ac (s.2.1) (s.2.2.1) (s.2.2.2.1) (s.2.2.2.2.1) (s.2.2.2.2.2.1)),35),(p1,(Ab aD aC aE aF aG aH),107)]∧I1 s.1 s.2.1 s.2.2.1 s.2.2.2.1 s.2.2.2.2.1 s.2.2.2.2.2.1 s.2.2.2.2.2.2.1 s.2.2.2.2.2.2.2) (fun s=>mu1 s.1 s.2.1 s.2.2.1 s.2.2.2.1 s.2.2.2.2.1 s.2.2.2.2.2.1 s.2.2.2.2.2.2.2) (1,0,0,0,⟨#[]⟩,false,H2,w6) ⟨rfl,hm,hs,hb,h0⟩ ?_
 rintro ⟨kind1,aV,aW,cA,aX,cB,Hl1,wl1⟩ ρ w ⟨hw,hH,hs,hb,hI⟩
 dsimp only at hw hH hs hb;subst w
 have h:=hr kind1 aV aW cA aX cB Hl1 wl1 hs hI
 refine zT hH (zA (eg (qb (ln (cbr h ?_ ?_)))))<;>intro h
 refine zB (zM (zA (zH (eg (q (ln (zH ?_)))))))
 obtain ⟨I2,mu2,h0,hr⟩:=h
 refine vO (σ:=Int×Int×Int×Int×ByteArray×Bool×NP×World) (fun s ρ w=>w=s.2.2.2.2.2.2.2∧Has ρ [(1,(vp (some p1))),(2,(vp (some p2))),(4,(Sl.mk (some p6) 3 3).v),(5,(vi kind1)),(6,(vi s.1))]∧Hst w0 s.2.2.2.2.2.2.1 w s.2.2.2.2.2.2.1 w∧HB s.2.2.2.2.2.2.1 w [(p2,(Ac (s.2.1) (s.2.2.1) (s.2.2.2.1) (s.2.2.2.2.1) (s.2.2.2.2.2.1)),35),(p1,(Ab aD aC aE aF aG aH),107)]∧I2 s.1 s.2.1 s.2.2.1 s.2.2.2.1 s.2.2.2.2.1 s.2.2.2.2.2.1 s.2.2.2.2.2.2.1 s.2.2.2.2.2.2.2) (fun s=>mu2 s.1 s.2.1 s.2.2.1 s.2.2.2.1 s.2.2.2.2.1 s.2.2.2.2.2.1 s.2.2.2.2.2.2.2) (0,aV,aW,cA,aX,cB,Hl1,wl1) ⟨rfl,hm,hs,hb,h0⟩ ?_
 rintro ⟨i1,aI,aJ,aR,aK,aS,Hl2,wl2⟩ ρ w ⟨hw,hH,hs,hb,hI⟩
 dsimp only at hw hH hs hb;subst w
 have h:=hr i1 aI aJ aR aK aS Hl2 wl2 hs hI
 refine zT hH (zA (eg (qd (ln (cbr h ?_ ?_)))))<;>intro h
 refine zB (zM (zA (zH (zA (qS (fun ρ w=>∃a1:Addr,∃H:NP,Has ρ [(1,(vp (some p1))),(2,(vp (some p2))),(4,(Sl.mk (some p6) 3 3).v),(5,(vi kind1)),(6,(vi i1)),(7,(vp (some a1)))]∧Hst w0 H w H w∧HB H w [(p2,(Ac aI aJ aR aK aS),35),(p1,(Ab aD aC aE aF aG aH),107)]∧m_H_j3 aD aC aE aF aG aH kind1 i1 aI aJ aR aK aS a1 w0 H w (fun y'0 y'1 y'2 y'3 y'4 y'5 H' w'=>I2 y'0 y'1 y'2 y'3 y'4 y'5 H' w'∧mu2 y'0 y'1 y'2 y'3 y'4 y'5 w'<mu2 i1 aI aJ aR aK aS wl2) K) ?_ ?_)))))
 rintro ρ w ⟨a1,H,hH,hs,hb,h⟩
 refine zT hH (eg (qb (nw3 (Ag 0 0 0 false) 35 hs hb (zI (zeroValue35 _) rfl) fun p7 w7 H3 hs hb=>sbx 0 (Ag kind1 0 0 false) (sizeOf35 _) hs hb gZ fun w8 hs hb=>ln (zA (eg (q (sc call164 ((p_B kind1 w8).mono ?_))))))))
 rintro e w9 ⟨he,hE⟩
 refine ⟨_,he,?_⟩
 obtain ⟨hs,hb⟩:=hs.pp hb hE
 refine ln (vS (fun ρ wJ=>∃b1'0:Bool,∃HJ:NP,((s_B kind1)=b1'0)∧Hst w0 H w HJ wJ∧HB HJ wJ [(p7,(Ag kind1 (cond b1'0 aC 0) 0 false),35),(p2,(Ac aI aJ aR aK aS),35),(p1,(Ab aD aC aE aF aG aH),107)]∧Has ρ [(1,(vp (some p1))),(2,(vp (some p2))),(4,(Sl.mk (some p6) 3 3).v),(5,(vi kind1)),(6,(vi i1)),(7,(vp (some a1))),(8,(vp (some p7)))]) ?_ ?_)
 refine vK (t:=(s_B kind1)) (by kernel_rfl) (fun hc4=>?_) (fun hc4=>?_)
 refine rg (q (q3 (xl (isAgg3 _) (hb.d 2 1 (gS (gS gZ)))) (q (qB (zQ rfl) (uO (a:=(p7.add 1)) (v:=(vi aC)) (by kernel_rfl) (by kernel_rfl) rfl (sizeOf3 _) (hb.canW 0 1 gZ (by kernel_rfl))) ?_))))
 intro w12 hn6
 have hsb:Hst w0 H w H3 w12∧HB H3 w12 [(p7,(Ag kind1 aC 0 false),35),(p2,(Ac aI aJ aR aK aS),35),(p1,(Ab aD aC aE aF aG aH),107)]:=by
  rw [hn6];exact hb.set (i:=0) 1 (v:=(vi aC)) hs gZ (by kernel_rfl)
 obtain ⟨hs,hb⟩:=hsb
 refine ln ⟨true,_,hc4,hs,hb,hm⟩
 refine zB (zM ⟨false,_,hc4,hs,hb,hm⟩)
 rintro ρ w11 ⟨b1'0,H4,he0,hs,hb,hH⟩
 subst he0
 refine vL hH (zM (zA (eg (q (sc call165 ((p_N2 kind1 w11).mono ?_))))))
 rintro e w13 ⟨he,hE⟩
 refine ⟨_,he,?_⟩
 obtain ⟨hs,hb⟩:=hs.pp hb hE
 refine ln (qS (fun ρ w=>∃aA aB aU aP aQ,∃H:NP,Has ρ [(1,(vp (some p1))),(2,(vp (some p2))),(4,(Sl.mk (some p6) 3 3).v),(5,(vi kind1)),(6,(vi i1)),(8,(vp (some p7)))]∧Hst w0 H w H w∧HB H w [(p7,(Ac aA aB aU aP aQ),35),(p2,(Ac aI aJ aR aK aS),35),(p1,(Ab aD aC aE aF aG aH),107)]∧m_H_j4 aD aC aE aF aG aH kind1 i1 aI aJ aR aK aS aA aB aU aP aQ w0 H w (fun y'0 y'1 y'2 y'3 y'4 y'5 H' w'=>I2 y'0 y'1 y'2 y'3 y'4 y'5 H' w'∧mu2 y'0 y'1 y'2 y'3 y'4 y'5 w'<mu2 i1 aI aJ aR aK aS wl2) K) ?_ ?_)
 rintro ρ w ⟨aA,aB,aU,aP,aQ,H,hH,hs,hb,h⟩
 refine zT hH (eg (q (ln (zH ?_))))
 obtain ⟨I3,mu3,h0,hr⟩:=h
 refine vO (σ:=Int×Int×Int×Int×ByteArray×Bool×Int×Int×Int×ByteArray×Bool×NP×World) (fun s ρ w=>w=s.2.2.2.2.2.2.2.2.2.2.2.2∧Has ρ [(1,(vp (some p1))),(2,(vp (some p2))),(4,(Sl.mk (some p6) 3 3).v),(5,(vi kind1)),(6,(vi i1)),(8,(vp (some p7))),(9,(vi s.1))]∧Hst w0 s.2.2.2.2.2.2.2.2.2.2.2.1 w s.2.2.2.2.2.2.2.2.2.2.2.1 w∧HB s.2.2.2.2.2.2.2.2.2.2.2.1 w [(p7,(Ac (s.2.1) (s.2.2.1) (s.2.2.2.1) (s.2.2.2.2.1) (s.2.2.2.2.2.1)),35),(p2,(Ac (s.2.2.2.2.2.2.1) (s.2.2.2.2.2.2.2.1) (s.2.2.2.2.2.2.2.2.1) (s.2.2.2.2.2.2.2.2.2.1) (s.2.2.2.2.2.2.2.2.2.2.1)),35),(p1,(Ab aD aC aE aF aG aH),107)]∧I3 s.1 s.2.1 s.2.2.1 s.2.2.2.1 s.2.2.2.2.1 s.2.2.2.2.2.1 s.2.2.2.2.2.2.1 s.2.2.2.2.2.2.2.1 s.2.2.2.2.2.2.2.2.1 s.2.2.2.2.2.2.2.2.2.1 s.2.2.2.2.2.2.2.2.2.2.1 s.2.2.2.2.2.2.2.2.2.2.2.1 s.2.2.2.2.2.2.2.2.2.2.2.2) (fun s=>mu3 s.1 s.2.1 s.2.2.1 s.2.2.2.1 s.2.2.2.2.1 s.2.2.2.2.2.1 s.2.2.2.2.2.2.1 s.2.2.2.2.2.2.2.1 s.2.2.2.2.2.2.2.2.1 s.2.2.2.2.2.2.2.2.2.1 s.2.2.2.2.2.2.2.2.2.2.1 s.2.2.2.2.2.2.2.2.2.2.2.2) (0,aA,aB,aU,aP,aQ,aI,aJ,aR,aK,aS,H,w) ⟨rfl,hm,hs,hb,h0⟩ ?_
 rintro ⟨fakes1,aL,aM,aN,aO,cF,bA,bB,bC,bD,bE,Hl3,wl3⟩ ρ w ⟨hw,hH,hs,hb,hI⟩
 dsimp only at hw hH hs hb;subst w
 have h:=hr fakes1 aL aM aN aO cF bA bB bC bD bE Hl3 wl3 hs hI
 refine zT hH (zA (eg (qb (ln (cbr h ?_ ?_)))))<;>intro h
 refine zB (zM (zA (zH (eg (qc (qB (zQ rfl) (uO (a:=(p7.add 4)) (v:=(vb (decide (fakes1>0)))) (by kernel_rfl) (by kernel_rfl) rfl (sizeOf4 _) (hb.canW 0 4 gZ (by kernel_rfl))) ?_))))))
 intro w14 hn7
 have hsb:Hst w0 Hl3 wl3 Hl3 w14∧HB Hl3 w14 [(p7,(Ac aL aM aN aO (decide (fakes1>0))),35),(p2,(Ac bA bB bC bD bE),35),(p1,(Ab aD aC aE aF aG aH),107)]:=by
  rw [hn7];exact hb.set (i:=0) 4 (v:=(vb (decide (fakes1>0)))) hs gZ (by kernel_rfl)
 obtain ⟨hs,hb⟩:=hsb
 refine ln (zA ?_)
 have ⟨h,hs⟩:=hs.hr (h w14)
 obtain ⟨C1,hC,h⟩:=h
 refine dr2 (fun x=>C1 x∧HB Hl3 x _) [1,19,21] [] ⟨hC,hb.drew⟩ h hs hb fun w15 hs hb h=>?_
 have hs:=hs.here
 refine qz 0 (Ae aL aM aN aO (decide (fakes1>0))) Kp0 (fun w' hw'=>(xa p7 (Ac aL aM aN aO (decide (fakes1>0))) (isAgg35 _) (sizeOf35 _) (hw'.2.r0 0 5 gZ))) (lg 1 (slc Kp1 call166 (h.mono ?_)))
 rintro e w16 ⟨r1,rfl,hC,hk,h⟩
 refine ⟨_,rfl,.inr ⟨hC,hb.kept hk⟩,?_⟩
 obtain ⟨hs,hb⟩:=hk.hh hs hb
 refine qx 2 (vb (r1 == 0)) Kp2 (qx 3 (vb (r1 == 0)) Kp3 (qg 4 ?_))
 obtain ⟨hg1,h⟩|⟨hg1,h⟩:=h.br
 refine sz (v:=(vi kind1)) Kp4 (wy 71 hg1) (fun _ _=>(by kernel_rfl)) (qw 5 (vb (kind1 == 4)) Kp5 (wy 71 hg1) (qw 6 (vb (kind1 == 4)) Kp6 (wy 71 hg1) (qg 7 ?_)))
 obtain ⟨hg2,h⟩|⟨hg2,h⟩:=h.br
 refine yI Kp7 (zX rfl (yD 74 hg2) rfl) (qn 8 Kp8 (zX rfl (yD 74 hg2) rfl) (qg 9 (sz (v:=(vb true)) Kp9 (wy 71 hg1) (fun _ _=>(xT hg2)) (qz 10 (vb true) (zK (S8 (zD (zD zJ)))) (fun _ _=>(xT hg1)) (qx 11 (vb true) (zK (S8 (zD (zD (zD zJ))))) (qg 12 (sz (v:=(Ae aL aM aN aO (decide (fakes1>0)))) (zK (S8 (S4 zJ))) (jBG rfl (yD (c:=true) 79 rfl)) (fun w' hw'=>(xa p7 (Ac aL aM aN aO (decide (fakes1>0))) (isAgg35 _) (sizeOf35 _) (hw'.2.r0 0 5 gZ))) (qw 13 (vi fakes1) (zK (S8 (S4 (zD zJ)))) (jBG rfl (yD (c:=true) 79 rfl)) (qg 14 ?_)))))))))
 obtain ⟨z1,hv2,h⟩:=h
 refine sz (v:=(vi z1)) (zK (S8 (S4 (zD (zD zJ))))) (jBG rfl (yD (c:=true) 79 rfl)) (fun w' hw'=>(jHG (by kernel_rfl) (by kernel_rfl) (by kernel_rfl) (hv2 w' hw'.1))) (qw 15 (vb (z1 == 1)) (zK (S8 (S4 (zD (zD (zD zJ)))))) (jBG rfl (yD (c:=true) 79 rfl)) (qw 16 (vi fakes1) (zK (S8 (S8 zJ))) (jBG rfl (yD (c:=true) 79 rfl)) (qg 17 ?_)))
 obtain ⟨z2,hv1,h⟩:=h
 refine sz (v:=(vi z2)) (zK (S8 (S8 (zD zJ)))) (jBG rfl (yD (c:=true) 79 rfl)) (fun w' hw'=>(jHG (by kernel_rfl) (by kernel_rfl) (by kernel_rfl) (hv1 w' hw'.1))) (qw 18 (vb (z2 == 1)) (zK (S8 (S8 (zD (zD zJ))))) (jBG rfl (yD (c:=true) 79 rfl)) (qg 20 (sz (v:=(Aa aD aC aE aF aG aH)) (zK (S8 (S8 (S4 zJ)))) (jBG rfl (yD (c:=true) 79 rfl)) (fun w' hw'=>(xa p1 (Ab aD aC aE aF aG aH) (isAgg107 _) (sizeOf107 _) (hw'.2.r0 2 6 (gS (gS gZ))))) (lg 19 (xG (zK (S8 (S8 (zD (zD (zD zJ)))))) (jBG rfl (yD (c:=true) 79 rfl)) (by kernel_rfl) (xc call58) (h.mono ?_))))))
 rintro e w17 ⟨bT,bU,bV,bW,bX,bY,rfl,hC,hk,h⟩
 refine ⟨_,rfl,.inr ⟨hC,hb.kept hk⟩,?_⟩
 obtain ⟨hs,hb⟩:=hk.hh hs hb
 refine lg 21 (xG (zK (S8 (S8 (S4 (zD zJ))))) (jBG rfl (yD (c:=true) 79 rfl)) (by kernel_rfl) (xc call47) (h.mono ?_))
 rintro e w18 ⟨r2,rfl,hC,hk,h⟩
 refine ⟨_,rfl,.inr ⟨hC,hb.kept hk⟩,?_⟩
 obtain ⟨hs,hb⟩:=hk.hh hs hb
 refine qx 22 (vb r2) (zK (S8 (S8 (S4 (zD (zD zJ)))))) (wn (zM (cbr h ?_ ?_)))<;>intro h
 refine eg (q2 (Ae aL aM aN aO (decide (fakes1>0))) (xa p7 (Ac aL aM aN aO (decide (fakes1>0))) (isAgg35 _) (sizeOf35 _) (hb.r0 0 5 gZ)) (qB (zQ rfl) (xo p2 (Ac aL aM aN aO (decide (fakes1>0))) (sizeOf35 _) (hb.k0 1 5 (gS gZ))) ?_))
 intro w19 hn8
 obtain ⟨hs,hb⟩:=hb.st1 1 hs hn8 (gS gZ)
 refine q (ln (er (qI (zV (zV (qI (qI (zV (zV (qI (qI (zV (zV (qI (zV ?_)))))))))))))))
 have ⟨h,hs⟩:=hs.hr (h w19)
 refine tG (.inl rfl) (vs:=[(Ae aL aM aN aO (decide (fakes1>0))),(vb true)]) (v:=(.tuple #[(Ae aL aM aN aO (decide (fakes1>0))),(vb true)])) results98 ⟨(rva (isAgg35 _) (sizeOf35 _) (hb.r0 1 5 (gS gZ))),(rvT (by kernel_rfl)),trivial⟩ (by kernel_rfl) ⟨aL,aM,aN,aO,(decide (fakes1>0)),true,rfl,h⟩
 refine zB (yR (zM (rg (qc (ln ⟨((q6.wrap (fakes1+1)),aL,aM,aN,aO,(decide (fakes1>0)),bA,bB,bC,bD,bE,Hl3,w18),⟨rfl,hm,hs,hb,h.1⟩,h.2⟩)))))
 refine sz (v:=(vi fakes1)) Kp7 (wy 74 hg2) (fun _ _=>(by kernel_rfl)) (qw 8 (vb (fakes1 != 2)) Kp8 (wy 74 hg2) (qg 9 (sz (v:=(vb (fakes1 != 2))) Kp9 (wy 71 hg1) (fun _ _=>(xF hg2)) (qz 10 (vb (fakes1 != 2)) (zK (S8 (zD (zD zJ)))) (fun _ _=>(xT hg1)) (qx 11 (vb (fakes1 != 2)) (zK (S8 (zD (zD (zD zJ))))) (qg 12 ?_))))))
 obtain ⟨hg3,h⟩|⟨hg3,h⟩:=h.br
 refine sz (v:=(Ae aL aM aN aO (decide (fakes1>0)))) (zK (S8 (S4 zJ))) (wy 79 hg3) (fun w' hw'=>(xa p7 (Ac aL aM aN aO (decide (fakes1>0))) (isAgg35 _) (sizeOf35 _) (hw'.2.r0 0 5 gZ))) (qw 13 (vi fakes1) (zK (S8 (S4 (zD zJ)))) (wy 79 hg3) (qg 14 ?_))
 obtain ⟨z3,hv4,h⟩:=h
 refine sz (v:=(vi z3)) (zK (S8 (S4 (zD (zD zJ))))) (wy 79 hg3) (fun w' hw'=>(jHG (by kernel_rfl) (by kernel_rfl) (by kernel_rfl) (hv4 w' hw'.1))) (qw 15 (vb (z3 == 1)) (zK (S8 (S4 (zD (zD (zD zJ)))))) (wy 79 hg3) (qw 16 (vi fakes1) (zK (S8 (S8 zJ))) (wy 79 hg3) (qg 17 ?_)))
 obtain ⟨z4,hv3,h⟩:=h
 refine sz (v:=(vi z4)) (zK (S8 (S8 (zD zJ)))) (wy 79 hg3) (fun w' hw'=>(jHG (by kernel_rfl) (by kernel_rfl) (by kernel_rfl) (hv3 w' hw'.1))) (qw 18 (vb (z4 == 1)) (zK (S8 (S8 (zD (zD zJ))))) (wy 79 hg3) (qg 20 (sz (v:=(Aa aD aC aE aF aG aH)) (zK (S8 (S8 (S4 zJ)))) (wy 79 hg3) (fun w' hw'=>(xa p1 (Ab aD aC aE aF aG aH) (isAgg107 _) (sizeOf107 _) (hw'.2.r0 2 6 (gS (gS gZ))))) (lg 19 (xG (zK (S8 (S8 (zD (zD (zD zJ)))))) (wy 79 hg3) (by kernel_rfl) (xc call58) (h.mono ?_))))))
 rintro e w20 ⟨bO,bP,dB,dC,bQ,dD,rfl,hC,hk,h⟩
 refine ⟨_,rfl,.inr ⟨hC,hb.kept hk⟩,?_⟩
 obtain ⟨hs,hb⟩:=hk.hh hs hb
 refine lg 21 (xG (zK (S8 (S8 (S4 (zD zJ))))) (wy 79 hg3) (by kernel_rfl) (xc call47) (h.mono ?_))
 rintro e w21 ⟨r3,rfl,hC,hk,h⟩
 refine ⟨_,rfl,.inr ⟨hC,hb.kept hk⟩,?_⟩
 obtain ⟨hs,hb⟩:=hk.hh hs hb
 refine qz 22 (vb r3) (zK (S8 (S8 (S4 (zD (zD zJ)))))) (fun _ _=>(xT hg3)) (wn (zM (cbr h ?_ ?_)))<;>intro h
 refine eg (q2 (Ae aL aM aN aO (decide (fakes1>0))) (xa p7 (Ac aL aM aN aO (decide (fakes1>0))) (isAgg35 _) (sizeOf35 _) (hb.r0 0 5 gZ)) (qB (zQ rfl) (xo p2 (Ac aL aM aN aO (decide (fakes1>0))) (sizeOf35 _) (hb.k0 1 5 (gS gZ))) ?_))
 intro w22 hn9
 obtain ⟨hs,hb⟩:=hb.st1 1 hs hn9 (gS gZ)
 refine q (ln (er (qI (zV (zV (qI (qI (zV (zV (qI (qI (zV (zV (qI (zV ?_)))))))))))))))
 have ⟨h,hs⟩:=hs.hr (h w22)
 refine tG (.inl rfl) (vs:=[(Ae aL aM aN aO (decide (fakes1>0))),(vb true)]) (v:=(.tuple #[(Ae aL aM aN aO (decide (fakes1>0))),(vb true)])) results98 ⟨(rva (isAgg35 _) (sizeOf35 _) (hb.r0 1 5 (gS gZ))),(rvT (by kernel_rfl)),trivial⟩ (by kernel_rfl) ⟨aL,aM,aN,aO,(decide (fakes1>0)),true,rfl,h⟩
 refine zB (yR (zM (rg (qc (ln ⟨((q6.wrap (fakes1+1)),aL,aM,aN,aO,(decide (fakes1>0)),bA,bB,bC,bD,bE,Hl3,w21),⟨rfl,hm,hs,hb,h.1⟩,h.2⟩)))))
 refine yI (zK (S8 (S4 zJ))) (zX rfl (yD 79 hg3) rfl) (qn 13 (zK (S8 (S4 (zD zJ)))) (zX rfl (yD 79 hg3) rfl) (qn 14 (zK (S8 (S4 (zD (zD zJ))))) (zX rfl (yD 79 hg3) rfl) (qn 15 (zK (S8 (S4 (zD (zD (zD zJ)))))) (zX rfl (yD 79 hg3) rfl) (qn 16 (zK (S8 (S8 zJ))) (zX rfl (yD 79 hg3) rfl) (qn 17 (zK (S8 (S8 (zD zJ)))) (zX rfl (yD 79 hg3) rfl) (qn 18 (zK (S8 (S8 (zD (zD zJ))))) (zX rfl (yD 79 hg3) rfl) (qn 20 (zK (S8 (S8 (S4 zJ)))) (zX rfl (yD 79 hg3) rfl) (lg 19 (yI (zK (S8 (S8 (zD (zD (zD zJ)))))) (zX rfl (yD 79 hg3) rfl) (lg 21 (yI (zK (S8 (S8 (S4 (zD zJ))))) (zX rfl (yD 79 hg3) rfl) (qz 22 (vb false) (zK (S8 (S8 (S4 (zD (zD zJ)))))) (fun _ _=>(xF hg3)) (wn (zM (yL (by kernel_rfl) (zB (yR (zM (rg (q0 (vi fakes1) (q0 (vi (q6.wrap (fakes1+1))) (q0 (vi (q6.wrap (fakes1+1))) (zC (zM ⟨((q6.wrap (fakes1+1)),aL,aM,aN,aO,(decide (fakes1>0)),bA,bB,bC,bD,bE,Hl3,w16),⟨rfl,hm,hs,hb,h.1⟩,h.2⟩))))))))))))))))))))))))
 refine yI Kp4 (zX rfl (yD 71 hg1) rfl) (qn 5 Kp5 (zX rfl (yD 71 hg1) rfl) (qn 6 Kp6 (zX rfl (yD 71 hg1) rfl) (qn 7 Kp7 (by kernel_rfl) (qn 8 Kp8 (by kernel_rfl) (qn 9 Kp9 (zX rfl (yD 71 hg1) rfl) (qz 10 (vb false) (zK (S8 (zD (zD zJ)))) (fun _ _=>(xF hg1)) (qx 11 (vb false) (zK (S8 (zD (zD (zD zJ))))) (qn 12 (zK (S8 (S4 zJ))) (zX rfl (yD (c:=false) 79 rfl) rfl) (qn 13 (zK (S8 (S4 (zD zJ)))) (zX rfl (yD (c:=false) 79 rfl) rfl) (qn 14 (zK (S8 (S4 (zD (zD zJ))))) (zX rfl (yD (c:=false) 79 rfl) rfl) (qn 15 (zK (S8 (S4 (zD (zD (zD zJ)))))) (zX rfl (yD (c:=false) 79 rfl) rfl) (qn 16 (zK (S8 (S8 zJ))) (zX rfl (yD (c:=false) 79 rfl) rfl) (qn 17 (zK (S8 (S8 (zD zJ)))) (zX rfl (yD (c:=false) 79 rfl) rfl) (qn 18 (zK (S8 (S8 (zD (zD zJ))))) (zX rfl (yD (c:=false) 79 rfl) rfl) (qn 20 (zK (S8 (S8 (S4 zJ)))) (zX rfl (yD (c:=false) 79 rfl) rfl) (lg 19 (yI (zK (S8 (S8 (zD (zD (zD zJ)))))) (zX rfl (yD (c:=false) 79 rfl) rfl) (lg 21 (yI (zK (S8 (S8 (S4 (zD zJ))))) (zX rfl (yD (c:=false) 79 rfl) rfl) (qx 22 (vb false) (zK (S8 (S8 (S4 (zD (zD zJ)))))) (wn (zM (yL (by kernel_rfl) ?_)))))))))))))))))))))))
 refine zB (yR (zM (rg (qc (ln ⟨((q6.wrap (fakes1+1)),aL,aM,aN,aO,(decide (fakes1>0)),bA,bB,bC,bD,bE,Hl3,w16),⟨rfl,hm,hs,hb,h.1⟩,h.2⟩)))))
 refine vJ (yU (yU (yS (yR (zM (rg (q0 (vi i1) (q0 (vi (q6.wrap (i1+1))) (q0 (vi (q6.wrap (i1+1))) (ln ⟨((q6.wrap (i1+1)),bA,bB,bC,bD,bE,Hl3,wl3),⟨rfl,hm,hs,hb.drop 1,h.1⟩,h.2⟩))))))))))
 refine cbr h ?_ ?_<;>intro h
 refine eg ?_
 have ⟨h,hs⟩:=hs.hr (h H4 w13)
 obtain ⟨bF,bG,bH,bI,bJ,bK,hv6,h⟩:=h
 refine qa (isAgg107 _) (sizeOf107 _) hv6 (nw5 (fun p=>(Sl.mk (some p) 2 2).v) hs hb h fun p8 w23 hs hb h=>sc call163 (h.mono fun e w24 ⟨cG,cH,dE,bZ,cI,dF,k,hk,h⟩=>have ⟨hs,hb⟩:=hk.hh hs hb;⟨_,k,?_⟩))
 refine qb (qB (zQ rfl) (uO (a:=(p7.add 2)) (v:=(vu bZ)) (by kernel_rfl) (by kernel_rfl) rfl (sizeOf23 _) (hb.canW 0 2 gZ (by kernel_rfl))) ?_)
 intro w25 hn10
 have hsb:Hst w0 H4 w24 H4 w25∧HB H4 w25 [(p7,(Ag kind1 (cond (s_B kind1) aC 0) bZ false),35),(p2,(Ac aI aJ aR aK aS),35),(p1,(Ab aD aC aE aF aG aH),107)]:=by
  rw [hn10];exact hb.set (i:=0) 2 (v:=(vu bZ)) hs gZ (by kernel_rfl)
 obtain ⟨hs,hb⟩:=hsb
 refine ln (rg ?_)
 have ⟨h,hs⟩:=hs.hr (h w25)
 obtain ⟨cJ,cK,cL,cM,cN,cO,hv5,h⟩:=h
 refine qa (isAgg107 _) (sizeOf107 _) hv5 (nw5 (fun p=>(Sl.mk (some p) 2 2).v) hs hb h fun p9 w26 hs hb h=>sc call163 (h.mono fun e w27 ⟨dG,dH,dI,dJ,cC,dK,k,hk,h⟩=>have ⟨hs,hb⟩:=hk.hh hs hb;⟨_,k,?_⟩))
 refine qb (qB (zQ rfl) (uO (a:=(p7.add 3)) (v:=(vs cC)) (by kernel_rfl) (by kernel_rfl) rfl (sizeOf9 _) (hb.canW 0 3 gZ (by kernel_rfl))) ?_)
 intro w28 hn11
 have hsb:Hst w0 H4 w27 H4 w28∧HB H4 w28 [(p7,(Ac kind1 (cond (s_B kind1) aC 0) bZ cC false),35),(p2,(Ac aI aJ aR aK aS),35),(p1,(Ab aD aC aE aF aG aH),107)]:=by
  rw [hn11];exact hb.set (i:=0) 3 (v:=(vs cC)) hs gZ (by kernel_rfl)
 obtain ⟨hs,hb⟩:=hsb
 refine zC ?_
 have ⟨h,hs⟩:=hs.hr (h w28)
 refine zM ⟨kind1,(cond (s_B kind1) aC 0),bZ,cC,false,H4,hm,hs,hb,h⟩
 refine eg (qb (ln (cbr h ?_ ?_)))<;>intro h
 refine rg (q2 (Aa aD aC aE aF aG aH) (xa p1 (Ab aD aC aE aF aG aH) (isAgg107 _) (sizeOf107 _) (hb.r0 2 6 (gS (gS gZ)))) ?_)
 have ⟨h,hs⟩:=hs.hr (h H4 w13)
 refine nw5 (fun p=>(Sl.mk (some p) 1 1).v) hs hb h fun p10 w29 hs hb h=>sc call163 (h.mono fun e w30 ⟨dL,dM,dN,cD,dO,dP,k,hk,h⟩=>have ⟨hs,hb⟩:=hk.hh hs hb;⟨_,k,?_⟩)
 refine qb (qB (zQ rfl) (uO (a:=(p7.add 2)) (v:=(vu cD)) (by kernel_rfl) (by kernel_rfl) rfl (sizeOf23 _) (hb.canW 0 2 gZ (by kernel_rfl))) ?_)
 intro w31 hn14
 have hsb:Hst w0 H4 w30 H4 w31∧HB H4 w31 [(p7,(Ag kind1 (cond (s_B kind1) aC 0) cD false),35),(p2,(Ac aI aJ aR aK aS),35),(p1,(Ab aD aC aE aF aG aH),107)]:=by
  rw [hn14];exact hb.set (i:=0) 2 (v:=(vu cD)) hs gZ (by kernel_rfl)
 obtain ⟨hs,hb⟩:=hsb
 refine zC ?_
 have ⟨h,hs⟩:=hs.hr (h w31)
 refine zM ⟨kind1,(cond (s_B kind1) aC 0),cD,⟨#[]⟩,false,H4,hm,hs,hb,h⟩
 refine rg (q2 (Aa aD aC aE aF aG aH) (xa p1 (Ab aD aC aE aF aG aH) (isAgg107 _) (sizeOf107 _) (hb.r0 2 6 (gS (gS gZ)))) ?_)
 have ⟨h,hs⟩:=hs.hr (h H4 w13)
 refine nw5 (fun p=>(Sl.mk (some p) 2 2).v) hs hb h fun p11 w32 hs hb h=>sc call163 (h.mono fun e w33 ⟨dQ,dR,dS,cE,dT,dU,k,hk,h⟩=>have ⟨hs,hb⟩:=hk.hh hs hb;⟨_,k,?_⟩)
 refine qb (qB (zQ rfl) (uO (a:=(p7.add 2)) (v:=(vu cE)) (by kernel_rfl) (by kernel_rfl) rfl (sizeOf23 _) (hb.canW 0 2 gZ (by kernel_rfl))) ?_)
 intro w34 hn16
 have hsb:Hst w0 H4 w33 H4 w34∧HB H4 w34 [(p7,(Ag kind1 (cond (s_B kind1) aC 0) cE false),35),(p2,(Ac aI aJ aR aK aS),35),(p1,(Ab aD aC aE aF aG aH),107)]:=by
  rw [hn16];exact hb.set (i:=0) 2 (v:=(vu cE)) hs gZ (by kernel_rfl)
 obtain ⟨hs,hb⟩:=hsb
 refine zC ?_
 have ⟨h,hs⟩:=hs.hr (h w34)
 refine zM ⟨kind1,(cond (s_B kind1) aC 0),cE,⟨#[]⟩,false,H4,hm,hs,hb,h⟩
 obtain ⟨C2,hC,h⟩:=h
 refine dr2 (fun x=>C2 x∧HB Hl2 x _) [5,6,7] [5,7] ⟨hC,hb.drew⟩ h hs hb fun w35 hs hb h=>?_
 have hs:=hs.here
 refine qz 0 (Aa aD aC aE aF aG aH) Kp0 (fun w' hw'=>(xa p1 (Ab aD aC aE aF aG aH) (isAgg107 _) (sizeOf107 _) (hw'.2.r0 1 6 (gS gZ)))) (qx 1 ((Sl.mk (some p6) 3 3).v) Kp1 (qx 2 (vi i1) Kp2 (qg 3 ?_)))
 obtain ⟨a2,hv8,h⟩:=h
 refine sy Kp3 (fun _ _=>xi (runUnderlying246 _) (sizeOf42 _) hv8) (qg 4 ?_)
 obtain ⟨v1,hv7,h⟩:=h
 refine sy Kp4 (fun _ k=>xl (isAgg42 _) (hv7 _ k.1)) (jMB (k:=5) (k':=6) (by kernel_rfl) ?_ ?_)
 have h:=h.1
 refine slc Kp5 call163 (h.mono ?_)
 rintro e w36 ⟨cP,cQ,cR,cS,cT,cU,rfl,hk,h⟩
 refine ⟨_,rfl,.inl (by kernel_rfl),?_⟩
 obtain ⟨hs,hb⟩:=hk.hh hs hb
 refine lg 6 (qD (O:=(.cells #[(vi 0),(vi 0),(vi 0),(vu 0),ve,Sl.nil.v] 107)) (fun p=>.pointer (some p)) Kp6 (zQ rfl) (by kernel_rfl) (zI (zeroValue107 _) rfl) ?_)
 intro p12 w37 hn19
 have h:=h p12 w37 hn19
 refine ⟨.inr ⟨h.1,hb.kept (Ext.new (F:=None) hn19).keptP⟩,?_⟩
 have h:=h.2
 obtain ⟨hs,hb⟩:=hs.nw hb hn19
 refine lg 7 ?_
 obtain ⟨hp1,hnh,h⟩:=h
 refine uZ Kp7 (zQ rfl) (by kernel_rfl) (xo p12 (Ab cP cQ cR cS cT cU) (sizeOf107 _) hp1) ?_
 intro w38 hn18
 have h:=h w38 hn18
 refine ⟨.inl (by kernel_rfl),?_⟩
 have hk:Kept Hl2 w37 w38:=by rw [hn18];exact Kept.storeRow hnh
 obtain ⟨hs,hb⟩:=hk.hh hs hb
 refine wn (zM ⟨p12,Hl2,hm,hs,hb,h⟩)
 have h:=h.2
 refine qD (O:=(.cells #[(vi 0),(vi 0),(vi 0),(vu 0),ve,Sl.nil.v] 107)) (fun p=>.pointer (some p)) Kp6 (zQ rfl) (by kernel_rfl) (zI (zeroValue107 _) rfl) ?_
 intro p13 w39 hn21
 have h:=h p13 w39 hn21
 refine ⟨.inr ⟨h.1,hb.kept (Ext.new (F:=None) hn21).keptP⟩,?_⟩
 have h:=h.2
 obtain ⟨hs,hb⟩:=hs.nw hb hn21
 refine lg 5 (slc Kp5 call163 (h.mono ?_))
 rintro e w40 ⟨cV,cW,cX,cY,cZ,dA,rfl,hk,h⟩
 refine ⟨_,rfl,.inl (by kernel_rfl),?_⟩
 obtain ⟨hs,hb⟩:=hk.hh hs hb
 refine lg 7 ?_
 obtain ⟨hp2,hnh,h⟩:=h
 refine uZ Kp7 (zQ rfl) (by kernel_rfl) (xo p13 (Ab cV cW cX cY cZ dA) (sizeOf107 _) hp2) ?_
 intro w41 hn20
 have h:=h w41 hn20
 refine ⟨.inl (by kernel_rfl),?_⟩
 have hk:Kept Hl2 w40 w41:=by rw [hn20];exact Kept.storeRow hnh
 obtain ⟨hs,hb⟩:=hk.hh hs hb
 refine wn (zM ⟨p13,Hl2,hm,hs,hb,h⟩)
 refine vJ (yU (yU (yS (yR (zM (rg (q0 (vi kind1) (q0 (vi (q6.wrap (kind1+1))) (q0 (vi (q6.wrap (kind1+1))) (ln ⟨((q6.wrap (kind1+1)),aI,aJ,aR,aK,aS,Hl2,wl2),⟨rfl,hm,hs,hb,h.1⟩,h.2⟩))))))))))
 refine vJ (yU (yU (yS (zM (eg (q0 (Ak 0 0 0 false) (qB (zQ rfl) (xo p2 (Ag 0 0 0 false) (sizeOf35 _) (hb.k0 0 5 gZ)) ?_)))))))
 intro w42 hn22
 obtain ⟨hs,hb⟩:=hb.st1 0 hs hn22 gZ
 refine q (ln (er ?_))
 have ⟨h,hs⟩:=hs.hr (h w42)
 refine tG (.inl rfl) (vs:=[(Ak 0 0 0 false),(vb false)]) (v:=(.tuple #[(Ak 0 0 0 false),(vb false)])) results98 ⟨(rva (isAgg35 _) (sizeOf35 _) (hb.r0 0 5 gZ)),(rvT (by kernel_rfl)),trivial⟩ (by kernel_rfl) ⟨0,0,0,⟨#[]⟩,false,false,rfl,h⟩
def m_O2 (p1:Option Addr) (t1:Int) (w0:World) (K:Int→Int→Int→ByteArray→Bool→Bool→WP):Prop :=∀H1 w1,Hst w0 None w0 H1 w1→Calls prog 87 #[(vp p1),(vi t1)] w1 (fun e w2=>∃r1,e=.returned (vb r1)∧Kept H1 w1 w2∧Br (!r1) (∀w3,Hst w0 H1 w2 H1 w3→K 0 0 0 ⟨#[]⟩ false false w3) (Calls prog 97 #[(vp p1),(vi t1)] w2 (fun e w4=>∃r2,e=.returned (vi r2)∧Kept H1 w2 w4∧Br (decide (r2>40)) (∀w5,Hst w0 H1 w4 H1 w5→K 0 0 0 ⟨#[]⟩ false false w5) (Calls prog 49 #[(vp p1),(vi t1)] w4 (fun e w6=>∃bT bU bV bW bX bY,e=.returned (Aa bT bU bV bW bX bY)∧Kept H1 w4 w6∧Calls prog 98 #[(.agg #[(vi bT),(vi bU),(vi bV),(vu bW),(vs bX),bY.v])] w6 (fun e w7=>∃bO bP bR bQ bS r3,e=.returned (.tuple #[(Ae bO bP bR bQ bS),(vb r3)])∧Kept H1 w6 w7∧∀w8,Hst w0 H1 w7 H1 w8→K bO bP bR bQ bS r3 w8))))))
theorem w_O2 (p1 t1 w0 K) (h:m_O2 p1 t1 w0 K):
  Calls prog 42 #[(vp p1),(vi t1)] w0 (fun e w'=>∃cG cH dY cI dZ r4,e=.returned (.tuple #[(Ae cG cH dY cI dZ),(vb r4)])∧K cG cH dY cI dZ r4 w'):=by
 refine cw (args:=[(vp p1),(vi t1)]) func42 ntmps42 ?_
 obtain ⟨hs,hb⟩:=st0 w0
 refine eg (nw3 (Ag 0 0 0 false) 35 hs hb (zI (zeroValue35 _) rfl) fun p2 w1 H1 hs hb=>q (ln (zA (eg (qb ?_)))))
 have ⟨h,hs⟩:=hs.hr (h H1 w1)
 refine sc call87 (h.mono fun e w2 ⟨r1,k,hk,h⟩=>have ⟨hs,hb⟩:=hk.hh hs hb;⟨_,k,?_⟩)
 refine qb ?_
 obtain ⟨hg1,h⟩|⟨hg1,h⟩:=h.br
 refine sj4 10 hg1 (q2 (vb true) (xT hg1) (ln (qZ (by kernel_rfl) (eg (q0 (Ak 0 0 0 false) (qB (zQ rfl) (xo p2 (Ag 0 0 0 false) (sizeOf35 _) (hb.k0 0 5 gZ)) ?_))))))
 intro w3 hn2
 obtain ⟨hs,hb⟩:=hb.st1 0 hs hn2 gZ
 refine q (ln (er (zV ?_)))
 have ⟨h,hs⟩:=hs.hr (h w3)
 refine tG (.inl rfl) (vs:=[(Ak 0 0 0 false),(vb false)]) (v:=(.tuple #[(Ak 0 0 0 false),(vb false)])) results42 ⟨(rva (isAgg35 _) (sizeOf35 _) (hb.r0 0 5 gZ)),(rvT (by kernel_rfl)),trivial⟩ (by kernel_rfl) ⟨0,0,0,⟨#[]⟩,false,false,rfl,h⟩
 refine qk 10 hg1 (qk 10 hg1 (vE (wy 10 hg1) (xc call97) (h.mono ?_)))
 rintro e w4 ⟨r2,rfl,hk,h⟩
 refine ⟨_,rfl,?_⟩
 obtain ⟨hs,hb⟩:=hk.hh hs hb
 refine qk 10 hg1 (q2 (vb (decide (r2>40))) (xF hg1) (ln (cbr h ?_ ?_)))<;>intro h
 refine eg (q (qB (zQ rfl) (xo p2 (Ag 0 0 0 false) (sizeOf35 _) (hb.k0 0 5 gZ)) ?_))
 intro w5 hn3
 obtain ⟨hs,hb⟩:=hb.st1 0 hs hn3 gZ
 refine q (ln (er (zV ?_)))
 have ⟨h,hs⟩:=hs.hr (h w5)
 refine tG (.inl rfl) (vs:=[(Ak 0 0 0 false),(vb false)]) (v:=(.tuple #[(Ak 0 0 0 false),(vb false)])) results42 ⟨(rva (isAgg35 _) (sizeOf35 _) (hb.r0 0 5 gZ)),(rvT (by kernel_rfl)),trivial⟩ (by kernel_rfl) ⟨0,0,0,⟨#[]⟩,false,false,rfl,h⟩
 refine zB (zM (eg (qb (sc call49 (h.mono fun e w6 ⟨bT,bU,bV,bW,bX,bY,k,hk,h⟩=>have ⟨hs,hb⟩:=hk.hh hs hb;⟨_,k,?_⟩)))))
 refine sc call98 (h.mono fun e w7 ⟨bO,bP,bR,bQ,bS,r3,k,hk,h⟩=>have ⟨hs,hb⟩:=hk.hh hs hb;⟨_,k,?_⟩)
 refine qb (qB (zQ rfl) (xo p2 (Ac bO bP bR bQ bS) (sizeOf35 _) (hb.k0 0 5 gZ)) ?_)
 intro w8 hn4
 obtain ⟨hs,hb⟩:=hb.st1 0 hs hn4 gZ
 refine q (ln (er ?_))
 have ⟨h,hs⟩:=hs.hr (h w8)
 refine tG (.inl rfl) (vs:=[(Ae bO bP bR bQ bS),(vb r3)]) (v:=(.tuple #[(Ae bO bP bR bQ bS),(vb r3)])) results42 ⟨(rva (isAgg35 _) (sizeOf35 _) (hb.r0 0 5 gZ)),(rvT (by kernel_rfl)),trivial⟩ (by kernel_rfl) ⟨bO,bP,bR,bQ,bS,r3,rfl,h⟩
end Go.Proofs
end
section
open Go Go.SE
namespace Go.Proofs
open Tryz
attribute [local irreducible] Calls
theorem jHO (l:Sp.Letter):s_Y1 l.kind l.frm l.c l.text l.fake=Sp.qK l:=by
 obtain ⟨k,f,c,x,g⟩:=l;unfold s_Y1 Sp.qK;have e1:s_B k=Sp.vQ k:=rfl;rw [e1];have e2:(Sp.vQ k || k == 6)=Sp.vZ k:=rfl;rw [e2];have e3:decide (((x.size:Int))>64)=decide (x.size>64):=decide_eq_decide.2 (by omega);rw [e3];generalize Sp.vQ k=a;generalize Sp.vZ k=b;have hc:((((((decide (k<1)) || (decide (k>7))) || (((f:Int) != 0) && ((f:Int) != 1))) || ((!a) && ((f:Int) != 0))) || ((!b) && (!(decide (x=(⟨#[]⟩:ByteArray)))))) || ((g && ((k:Int) != 1)) && ((k:Int) != 4)))=decide (k<1∨k>7∨(f≠0∧f≠1)∨(a=false∧f≠0)∨(b=false∧x≠⟨#[]⟩)∨(g=true∧k≠1∧k≠4)):=by
  rw [Bool.eq_iff_iff];simp only [Bool.or_eq_true,Bool.and_eq_true,decide_eq_true_eq,bne_iff_ne,Bool.not_eq_true',decide_eq_false_iff_not];simp only [or_assoc,and_assoc]
 rw [hc];by_cases h:(k<1∨k>7∨(f≠0∧f≠1)∨(a=false∧f≠0)∨(b=false∧x≠⟨#[]⟩)∨(g=true∧k≠1∧k≠4))
 ·rw [decide_eq_true h,if_pos h];rfl
 ·rw [decide_eq_false h,if_neg h];by_cases h2:x.size>64
  ·rw [decide_eq_true h2,if_pos h2];rfl
  ·rw [decide_eq_false h2,if_neg h2];rfl
def jLZ (p:List Nat):List (List Value):=p.map fun i:Nat=>[Value.int .i64 (i:Int)]
theorem jAI {S S2:NP} (x:Sp.Tree) (s sp:Sl) (p:List Nat) (w0:World) (hT:TreeAt S w0 s x) (hSw:∀b,S b→b<w0.heap.size) (hp:Lst S2 w0 1 sp (jLZ p)) (hS2:∀b,S2 b→b<w0.heap.size) (hpl:p.length≤100) :
  Calls prog 163 #[.agg (yH x s).toArray,sp.v] w0 (fun e w'=>∃s',e=.returned (.agg (yH (Sp.jCC x p) s').toArray)∧TreeAt S w0 s' (Sp.jCC x p)∧Pure w0 w'):=by
 obtain ⟨k,f,t,u,tx,ks⟩:=x
 suffices key:∀K:Int→Int→Int→Int→ByteArray→Sl→WP,(∀k' f' t' u' x' s' w' ks',Sp.jCC (.mk k f t u tx ks) p=.mk k' f' t' u' x' ks'→TreeAt S w0 s' (.mk k' f' t' u' x' ks')→Pure w0 w'→K k' f' t' u' x' s' w')→m_P1 k f t u tx s sp w0 K by
  refine (w_P1 _ _ _ _ _ _ _ w0 (fun k' f' t' u' x' s' w'=>∃ks',Sp.jCC (.mk k f t u tx ks) p=.mk k' f' t' u' x' ks'∧TreeAt S w0 s' (.mk k' f' t' u' x' ks')∧Pure w0 w') (key _ (fun k' f' t' u' x' s' w' ks' h1 h2 h3=>⟨ks',h1,h2,h3⟩))).mono ?_;rintro _ w' ⟨k',f',t',u',x',s',rfl,ks',h1,h2,h3⟩;rw [h1];exact ⟨s',rfl,h2,h3⟩
 intro K hK
 have hlen:sp.len=p.length:=by rw [hp.len];simp [jLZ]
 unfold m_P1
 intro H2 w2 hs2
 refine ⟨fun i _ _ _ _ _ _ k' f' t' u' x' s' H w'=>∃j:Nat,i=j∧j≤p.length∧Pure w0 w'∧∃ks',TreeAt S w0 s' (.mk k' f' t' u' x' ks')∧Sp.jCC (.mk k f t u tx ks) p=Sp.jCC (.mk k' f' t' u' x' ks') (p.drop j),fun i _ _ _ _ _ _ _ _ _ _ _ _ _=>((p.length:Int) - i).toNat,
  ⟨0,rfl,Nat.zero_le _,hs2.first,ks,hT,rfl⟩,?_⟩
 rintro _ _ _ _ _ _ _ k' f' t' u' x' s' Hl wl hl ⟨j,rfl,hj,El,ks',hT',heq⟩
 unfold m_P1_l1
 refine ⟨fun hc=>?_,fun hc=>?_⟩
 ·have hlt:=vV hlen hc
  rw [List.drop_eq_getElem_cons hlt,Sp.jCC] at heq
  have hpp:∀w',Pure w0 w'→∃a,At sp j 1 a∧S2 a.block∧w'.cell? a=some (.int .i64 (p[j]:Int)):=by
   intro w' E;obtain ⟨a,h1,h2,h3⟩:=(hp.pure E).nth (f:=fun i:Nat=>[Value.int .i64 (i:Int)]) (xs:=p) hlt;exact ⟨a,h1,h2,jCH h3⟩
  obtain ⟨a,hat,_,_⟩:=hpp wl El
  refine ⟨a,hat,?_⟩
  intro w3 hs3
  have E3:=El.hst hs3
  have hs3':=hs3.here
  obtain ⟨a1,hat1,hS1,hc1⟩:=hpp w3 E3
  have haa:a1=a:=by
   obtain ⟨_,_,x,hx,rfl⟩:=hat;obtain ⟨_,_,y,hy,rfl⟩:=hat1;rw [hx] at hy;cases hy;rfl
  subst haa
  have hl':s'.len=ks'.length:=by cases hT';assumption
  refine ⟨_,hc1,fun h=>?_,fun h=>?_⟩
  ·have : ks'[p[j]]? = none := by
    have h:=of_decide_eq_true h;exact List.getElem?_eq_none (by omega)
   rw [show (Sp.Tree.mk k' f' t' u' x' ks').kids=ks' from rfl,this] at heq
   intro w4 hs4
   exact hK _ _ _ _ _ _ _ _ heq TreeAt.leaf (E3.hst hs4)
  ·have hlt2:p[j]<ks'.length:=by have h:=of_decide_eq_false h;omega
   rw [show (Sp.Tree.mk k' f' t' u' x' ks').kids=ks' from rfl,List.getElem?_eq_getElem hlt2] at heq
   have hd:∀b,S b→¬ Hl b:=fun b hb hh=>by have:=hl.old b hh;have:=hSw b hb;omega
   have hd2:∀b,S2 b→¬ Hl b:=fun b hb hh=>by have:=hl.old b hh;have:=hS2 b hb;omega
   cases hT' with
   | mk _ _ _ _ _ _ _ rs len fit row kid =>
   obtain ⟨a3,hat3,hS3,hr3⟩:=row _ hlt2
   refine ⟨a1,hat1,_,hc1,hd2 _ hS1,a3,hat3,_,_,_,_,_,rs p[j],E3.row hr3 id,hd _ hS3,?_⟩
   intro H3 w7 hs7
   rw [vC hlt (by omega)]
   refine ⟨⟨j+1,rfl,hlt,E3.hst hs7,ks'[p[j]].kids,?_,?_⟩,yB hlt⟩
   ·have:=kid _ hlt2
    generalize ks'[p[j]]=y at *
    obtain ⟨_,_,_,_,_,_⟩:=y
    exact this
   ·rw [heq]
    generalize ks'[p[j]]=y
    obtain ⟨_,_,_,_,_,_⟩:=y
    rfl
 ·have hge:=qA hlen hj hc
  subst hge
  rw [List.drop_length] at heq
  intro w9 hs9
  exact hK _ _ _ _ _ _ _ _ heq hT' (El.hst hs9)
theorem jIO:∀j:Nat,j<4→∀w,(Go.binOp .rem 3 (.int .i64 (j:Int)) (.int .i64 2)).run prog w=.ok (.int .i64 ((j % 2:Nat):Int)) w
 | 0,_,w=>by kernel_rfl
 | 1,_,w=>by kernel_rfl
 | 2,_,w=>by kernel_rfl
 | 3,_,w=>by kernel_rfl
 | n+4,h,_=>by omega
theorem jIP:∀j:Nat,j<4→∀w,(Go.binOp .quo 3 (.int .i64 (j:Int)) (.int .i64 2)).run prog w=.ok (.int .i64 ((j / 2:Nat):Int)) w
 | 0,_,w=>by kernel_rfl
 | 1,_,w=>by kernel_rfl
 | 2,_,w=>by kernel_rfl
 | 3,_,w=>by kernel_rfl
 | n+4,h,_=>by omega
theorem Lst.of_path {w:World} {p:Addr} {T:TypeId} (ts:List Nat) (h:Box w p (ts.map fun t:Nat=>Value.int .i64 (t:Int)) T):Lst (·=p.block) w 1 ⟨some p,ts.length,ts.length⟩ (jLZ ts):=by
 refine ⟨by simp [jLZ],fun i hi=>?_⟩;have hi':i<ts.length:=by simpa [jLZ] using hi
 refine ⟨p.add (i*1),⟨by omega,by simpa using hi',p,rfl,by simp⟩,by rw [zU],fun j hj=>?_⟩;have hj0:j=0:=by simpa [jLZ] using hj
 subst hj0;have:=h.cell (i:=i) (v:=.int .i64 (ts[i]:Int)) (by simp [hi']);rw [uU,Nat.mul_one,Nat.add_zero,this];simp [jLZ]
theorem TreeAt.back {S:NP} {w w':World} {s:Sl} {t:Sp.Tree} (h:TreeAt S w' s t) (hE:Pure w w') (hd:∀b,S b→b<w.heap.size):TreeAt S w s t:=by
 induction h with
 | mk k f t u x ks s rs len fit row kid ih =>
  refine .mk k f t u x ks s rs len fit (fun i h=>let ⟨a,h1,h2,h3⟩:=row i h;⟨a,h1,h2,fun j hj=>?_⟩) ih
  rw [← h3 j hj]
  unfold World.cell?
  rw [zU,hE.keep _ (hd _ h2) (fun h=>h)]
theorem jCE {S:NP} (x:Sp.Tree) (s:Sl) (w0:World) (hT:TreeAt S w0 s x) (hSw:∀b,S b→b<w0.heap.size) :
  Calls prog 98 #[.agg (yH x s).toArray] w0 (fun e w'=>∃k f c:Int,∃t:ByteArray,∃g r:Bool,e=.returned (.tuple #[.agg #[.int .i64 k,.int .i64 f,.int .u64 c,.string t,.bool g],.bool r])∧(((⟨k,f,c,t,g⟩:Sp.Letter),r)=Sp.qE x∧Pure w0 w')):=by
 obtain ⟨xk,xf,xt,xu,xx,ks⟩:=x
 generalize hx:Sp.Tree.mk xk xf xt xu xx ks=x at *
 have hxr:yH x s=[.int .i64 xk,.int .i64 xf,.int .i64 xt,.int .u64 xu,.string xx,s.v]:=by rw [← hx];rfl
 have hxn:x.node.frm=xf:=by rw [← hx];rfl
 rw [hxr]
 suffices key:∀K:Int→Int→Int→ByteArray→Bool→Bool→WP,(∀k f c t g r w',(((⟨k,f,c,t,g⟩:Sp.Letter),r)=Sp.qE x∧Pure w0 w')→K k f c t g r w')→m_H xk xf xt xu xx s w0 K from
  w_H _ _ _ _ _ _ w0 _ (key _ (fun _ _ _ _ _ _ _ h=>h))
 intro K hK
 have hxv:(Value.agg #[.int .i64 xk,.int .i64 xf,.int .i64 xt,.int .u64 xu,.string xx,s.v])=.agg (yH x s).toArray:=by rw [hxr]
 have tS:∀{w},Pure w0 w→TreeAt S w s x∧∀b,S b→b<w.heap.size:=fun E=>⟨hT.pure E,fun b hb=>by have:=hSw b hb;have:=E.size;omega⟩
 unfold m_H
 intro H2 w2 hs2 p3 w3 h3 p4 w4 h4 p5 w5 h5 p6 w6 h6
 have E2:=hs2.first
 have b3:=(((Box.of_new h3).pure (Ext.new h4)).pure (Ext.new h5)).pure (Ext.new h6)
 have b4:=((Box.of_new h4).pure (Ext.new h5)).pure (Ext.new h6)
 have b5:=(Box.of_new h5).pure (Ext.new h6)
 have b6:=Box.of_new h6
 have E6:Pure w2 w6:=(((Ext.new h3:Pure w2 w3).trans (Ext.new h4)).trans (Ext.new h5)).trans (Ext.new h6)
 have hs6:=hs2.again E6.keptP
 have v3:w2.heap.size≤p3.block:=by have:=h3.at_size;omega
 have v4:w2.heap.size≤p4.block:=by have:=h4.at_size;have:=(Ext.new (F:=None) h3).size;omega
 have v5:w2.heap.size≤p5.block:=by have:=h5.at_size;have:=(Ext.new (F:=None) h3).size;have:=(Ext.new (F:=None) h4).size;omega
 have v6:w2.heap.size≤p6.block:=by have:=h6.at_size;have:=(Ext.new (F:=None) h3).size;have:=(Ext.new (F:=None) h4).size;have:=(Ext.new (F:=None) h5).size;omega
 let B:WP:=fun w=>Box w p3 [.int .i64 0] 3∧Box w p4 [.int .i64 0,.int .i64 1,.int .i64 0,.int .i64 0] 3∧Box w p5 [.int .i64 0,.int .i64 1] 3∧Box w p6 [(Sl.mk (some p3) 1 1).v,(Sl.mk (some p4) 4 4).v,(Sl.mk (some p5) 2 2).v] 42
 let V:NP→Prop:=fun H=>¬ H p3.block∧¬ H p4.block∧¬ H p5.block∧¬ H p6.block
 have B6:B w6:=⟨b3,b4,b5,b6⟩
 have V6:V H2:=⟨fun h=>by have:=hs2.lt _ h;omega,fun h=>by have:=hs2.lt _ h;omega,fun h=>by have:=hs2.lt _ h;omega,fun h=>by have:=hs2.lt _ h;omega⟩
 have Bp:∀{w w'},B w→Pure w w'→B w':=fun h E=>⟨h.1.pure E,h.2.1.pure E,h.2.2.1.pure E,h.2.2.2.pure E⟩
 have BV:∀{H w H' w'},B w∧V H→Hst w0 H w H' w'→B w'∧V H':=by
  rintro H w H' w' ⟨⟨q3,q4,q5,q6⟩,⟨n3,n4,n5,n6⟩⟩ hs;have d:∀(p:Addr),p.block<w.heap.size→¬ H p.block→¬ H' p.block:=fun p h1 h2=>hs.disj (G:=(·=p.block)) (fun b e=>by subst e;exact ⟨h1,h2⟩) _ rfl;have m3:=d p3 q3.lt n3;have m4:=d p4 q4.lt n4;have m5:=d p5 q5.lt n5;have m6:=d p6 q6.lt n6;exact ⟨⟨q3.ext hs.ext m3,q4.ext hs.ext m4,q5.ext hs.ext m5,q6.ext hs.ext m6⟩,⟨m3,m4,m5,m6⟩⟩
 refine ⟨fun kd _ _ _ _ _ H w'=>∃q:Nat,kd=(q:Int)+1∧q≤7∧Pure w0 w'∧(B w'∧V H)∧Sp.yM x 7 1=Sp.yM x (7 - q) ((q:Int)+1),fun kd _ _ _ _ _ _=>(8 - kd).toNat,⟨0,rfl,by omega,E2.trans E6,⟨B6,V6⟩,rfl⟩,?_⟩
 rintro _ d1 d2 d3 d4 d5 Hl wl hl ⟨q,rfl,hq,El,BVl,heq⟩
 unfold m_H_l1
 refine ⟨fun hc=>?_,fun hc=>?_⟩
 ·have hq7:q<7:=by have:=of_decide_eq_true hc;omega
  obtain ⟨n,hn⟩:∃n,7 - q=n+1:=⟨7 - q - 1,by omega⟩
  have hstep:Sp.yM x (n+1) ((q:Int)+1)=(match Sp.qM x ((q:Int)+1) Sp.deals with | some l=>some l | none=>Sp.yM x n ((q:Int)+1+1)):=rfl
  rw [hn,hstep] at heq
  clear hstep
  generalize hkd:((q:Int)+1)=kd at *
  refine ⟨fun i _ _ _ _ _ H w'=>∃j:Nat,i=j∧j≤3∧Pure w0 w'∧(B w'∧V H)∧Sp.qM x kd Sp.deals=Sp.qM x kd (Sp.deals.drop j),fun i _ _ _ _ _ _=>(3 - i).toNat,⟨0,rfl,by omega,El,BVl,rfl⟩,?_⟩
  rintro _ d1 d2 d3 d4 d5 Hm wm hm ⟨j,rfl,hj,Em,BVm,heqd⟩
  unfold m_H_l2
  refine ⟨fun hc2=>?_,fun hc2=>?_⟩
  ·have hj3:j<3:=by have:=of_decide_eq_true hc2;simp only at this;omega
   have hjd:j<Sp.deals.length:=hj3
   have hstep:Sp.qM x kd (Sp.deals[j] :: Sp.deals.drop (j+1))=(match Sp.qX x (Sp.jHD x kd Sp.deals[j]) 4 0 with | some l=>some l | none=>Sp.qM x kd (Sp.deals.drop (j+1))):=rfl
   rw [List.drop_eq_getElem_cons hjd,hstep] at heqd
   clear hstep
   generalize hpp:Sp.deals[j]=pp at *
   have hpath:∃a:Addr,∃sl:Sl,At (Sl.mk (some p6) 3 3) (j:Int) 1 a∧(∀w,B w→w.cell? a=some sl.v∧∃S2:NP,Lst S2 w 1 sl (jLZ pp)∧∀b,S2 b→b<w.heap.size):=by
    have hj':j=0∨j=1∨j=2:=by omega
    rcases hj' with rfl | rfl | rfl
    ·have:pp=[0]:=hpp.symm;subst this;refine ⟨p6,⟨some p3,1,1⟩,⟨by omega,by simp,p6,rfl,by simp [Addr.add]⟩,fun w h=>⟨h.2.2.2.cell0,_,Lst.of_path [0] h.1,fun b e=>by subst e;exact h.1.lt⟩⟩
    ·have:pp=[0,1,0,0]:=hpp.symm;subst this;refine ⟨p6.add 1,⟨some p4,4,4⟩,⟨by omega,by simp,p6,rfl,rfl⟩,fun w h=>⟨h.2.2.2.cell rfl,_,Lst.of_path [0,1,0,0] h.2.1,fun b e=>by subst e;exact h.2.1.lt⟩⟩
    ·have:pp=[0,1]:=hpp.symm;subst this;refine ⟨p6.add 2,⟨some p5,2,2⟩,⟨by omega,by simp,p6,rfl,rfl⟩,fun w h=>⟨h.2.2.2.cell rfl,_,Lst.of_path [0,1] h.2.2.1,fun b e=>by subst e;exact h.2.2.1.lt⟩⟩
   obtain ⟨a,sl,hat,hcell⟩:=hpath
   have hppl:pp.length≤100:=by
    have hj':j=0∨j=1∨j=2:=by omega
    rcases hj' with rfl | rfl | rfl <;> (rw [← hpp];simp [Sp.deals])
   have J3 : ∀ (a1 : Addr) (w : World) (sd : Sl) (Td : TypeId), Hst w0 Hm w Hm w → Pure w0 w → (B w ∧ V Hm) → Box w a1 (yH (Sp.jCC x pp) sd) Td → ¬ Hm a1.block → TreeAt S w0 sd (Sp.jCC x pp) →
     m_H_j3 xk xf xt xu xx s kd j d1 d2 d3 d4 d5 a1 w0 Hm w (fun y'0 y'1 y'2 y'3 y'4 y'5 H' w'=>(∃j:Nat,y'0=j∧j≤3∧Pure w0 w'∧(B w'∧V H')∧Sp.qM x kd Sp.deals=Sp.qM x kd (Sp.deals.drop j))∧(3 - y'0).toNat<(3 - (j:Int)).toNat) K:=by
    intro a1 w sd Td hs E hBV hB1 hv1 hTd
    unfold m_H_j3
    have J4 : ∀ (c : Int) (t : ByteArray) (H : NP) (w : World), Hst w0 H w H w → Pure w0 w → (B w ∧ V H) → (⟨kd, cond (s_B kd) xf 0, c, t, false⟩ : Sp.Letter) = Sp.jHD x kd pp →
      m_H_j4 xk xf xt xu xx s kd j d1 d2 d3 d4 d5 kd (cond (s_B kd) xf 0) c t false w0 H w (fun y'0 y'1 y'2 y'3 y'4 y'5 H' w'=>(∃j:Nat,y'0=j∧j≤3∧Pure w0 w'∧(B w'∧V H')∧Sp.qM x kd Sp.deals=Sp.qM x kd (Sp.deals.drop j))∧(3 - y'0).toNat<(3 - (j:Int)).toNat) K:=by
     intro c t H w hs E hBV hcand
     generalize hlf:cond (s_B kd) xf 0=lf at *
     rw [← hcand] at heqd
     unfold m_H_j4
     refine ⟨fun fk lk lf' lc lt lg _ _ _ _ _ H w'=>(kd=lk∧lf=lf'∧c=lc∧t=lt)∧∃f:Nat,fk=f∧f≤4∧Pure w0 w'∧(B w'∧V H)∧Sp.qX x ⟨kd,lf,c,t,false⟩ 4 0=Sp.qX x ⟨kd,lf,c,t,false⟩ (4 - f) f,fun fk _ _ _ _ _ _ _ _ _ _ _=>(4 - fk).toNat,⟨⟨rfl,rfl,rfl,rfl⟩,0,rfl,by omega,E,hBV,rfl⟩,?_⟩
     rintro _ _ _ _ _ lg e1 e2 e3 e4 e5 Hf wf hsf ⟨⟨rfl,rfl,rfl,rfl⟩,f,rfl,hf4,Ef,BVf,heqf⟩
     unfold m_H_l5
     refine ⟨fun hc3=>?_,fun hc3=>?_⟩
     ·have hf:f<4:=by have:=of_decide_eq_true hc3;omega
      obtain ⟨m,hm'⟩:∃m,4 - f=m+1:=⟨4 - f - 1,by omega⟩
      have hstep:Sp.qX x ⟨kd,lf,c,t,false⟩ (m+1) f=(if Sp.jFH x ⟨kd,lf,c,t,false⟩ f then some (Sp.yT ⟨kd,lf,c,t,false⟩ f) else Sp.qX x ⟨kd,lf,c,t,false⟩ m (f+1)):=rfl
      rw [hm',hstep] at heqf
      clear hstep
      intro w14 hs14
      have E14:=Ef.hst hs14
      have BV14:=BV BVf hs14
      have hd14:Pure w14 w14.drew:=Ext.drew w14
      refine ⟨fun w'=>Pure w14 w',hd14,?_⟩
      rintro _ rfl
      have hfd:decide ((f:Int)>0)=decide (f>0):=decide_eq_decide.2 (by omega)
      rw [hfd]
      refine (p_Y1 kd lf c t (decide (f>0)) w14.drew).mono ?_
      rintro _ w16 ⟨rfl,E16⟩
      rw [jHO ⟨kd,lf,c,t,decide (f>0)⟩]
      have Ed:=hd14.trans E16
      refine ⟨_,rfl,Ed,E16.keptP,?_⟩
      have hwf:Sp.yT ⟨kd,lf,c,t,false⟩ f=⟨kd,lf,c,t,decide (f>0)⟩:=rfl
      have next:∀w',Pure w14 w'→Sp.jFH x ⟨kd,lf,c,t,false⟩ f=false→((((kd=kd∧lf=lf∧c=c∧t=t)∧∃f':Nat,IntKind.i64.wrap ((f:Int)+1)=f'∧f'≤4∧Pure w0 w'∧(B w'∧V Hf)∧Sp.qX x ⟨kd,lf,c,t,false⟩ 4 0=Sp.qX x ⟨kd,lf,c,t,false⟩ (4 - f') f'))∧(4 - IntKind.i64.wrap ((f:Int)+1)).toNat<(4 - (f:Int)).toNat):=by
       intro w' E' hno;rw [hno,if_neg (by simp)] at heqf;rw [vC hf (by omega)];exact ⟨⟨⟨rfl,rfl,rfl,rfl⟩,f+1,rfl,hf,E14.trans E',⟨Bp BV14.1 E',BV14.2⟩,by rw [heqf,show m=4 - (f+1) from by omega]⟩,by omega⟩
      have found:∀w',Pure w0 w'→Sp.jFH x ⟨kd,lf,c,t,false⟩ f=true→K kd lf c t (decide (f>0)) true w':=by
       intro w' E' hyes;rw [hyes,if_pos rfl,hwf] at heqf;rw [heqf] at heqd;rw [heqd] at heq;exact hK _ _ _ _ _ _ _ ⟨by unfold Sp.qE;rw [heq],E'⟩
      have cmp : ∀ w, Pure w14 w → Sp.qK ⟨kd, lf, c, t, decide (f > 0)⟩ = 0 → (kd == 4 || decide (f ≠ 2)) = true →
        Calls prog 58 #[.agg #[.int .i64 kd,.int .i64 lf,.int .u64 c,.string t,.bool (decide (f>0))],.bool (((f % 2:Nat):Int) == 1),.bool (((f / 2:Nat):Int) == 1)] w (fun e w17=>∃rKind1:Int,∃rFrom1:Int,∃rTo1:Int,∃rNum1:Int,∃rText1:ByteArray,∃rKids1:Sl,e=.returned (.agg #[(.int .i64 rKind1),(.int .i64 rFrom1),(.int .i64 rTo1),(.int .u64 rNum1),(.string rText1),rKids1.v])∧Pure w14 w17∧Kept Hf w w17 ∧
         Calls prog 47 #[.agg #[(.int .i64 rKind1),(.int .i64 rFrom1),(.int .i64 rTo1),(.int .u64 rNum1),(.string rText1),rKids1.v],.agg #[.int .i64 xk,.int .i64 xf,.int .i64 xt,.int .u64 xu,.string xx,s.v]] w17 (fun e w18=>∃r2:Bool,e=.returned (.bool r2)∧Pure w14 w18∧Kept Hf w17 w18∧r2=Sp.jFH x ⟨kd,lf,c,t,false⟩ f)):=by
       intro w Ew herr hk4
       have hfr:lf=0∨lf=1:=by
        unfold Sp.qK at herr;simp only at herr;split at herr
        ·cases herr
        ·rename_i h;simp only [not_or,not_and] at h;have:=h.2.2.1;by_cases h0:lf=0
         ·exact .inl h0
         ·exact .inr (Classical.not_not.1 (this h0))
       have hb1:(((f % 2:Nat):Int) == 1)=(f % 2 == 1):=by rw [Bool.eq_iff_iff];simp;omega
       have hb2:(((f / 2:Nat):Int) == 1)=(f / 2 == 1):=by rw [Bool.eq_iff_iff];simp;omega
       rw [hb1,hb2]
       refine (jGL w.heap.size kd lf c t (decide (f>0)) (f % 2 == 1) (f / 2 == 1) w (Nat.le_refl _) hfr).mono ?_
       rintro _ w17 ⟨s',rfl,hT',E17⟩
       generalize hLT:Sp.vX ⟨kd,lf,c,t,decide (f>0)⟩ (f % 2 == 1) (f / 2 == 1)=LT at *
       obtain ⟨lk,lff,lt,lu,lx,lks⟩:=LT
       refine ⟨_,_,_,_,_,s',rfl,Ew.trans E17,E17.keptP,?_⟩
       rw [hxv]
       have E017:=(E14.trans Ew).trans E17
       refine (jGP (S:=fun b=>b<w17.heap.size) (.mk lk lff lt lu lx lks) x s' s w17 (hT'.lt.mono (fun b hb=>hb.2)) ((tS E017).1.mono (tS E017).2) (fun b hb=>hb)).mono ?_
       rintro _ w18 ⟨r,rfl,hr,E18⟩
       refine ⟨_,rfl,(Ew.trans E17).trans E18,E18.keptP,?_⟩
       unfold Sp.jFH
       rw [hwf,hLT,hr]
       simp [herr]
       intro _
       simpa using hk4
      refine ⟨fun h1=>⟨fun h2=>?_,fun h2=>⟨fun h3=>?_,fun h3=>?_⟩⟩,fun h1=>?_⟩
      ·refine ⟨_,fun w' _=>jIO f hf w',_,fun w' _=>jIP f hf w',?_⟩
       refine (cmp w16 Ed (by simpa using h1) (by rw [h2];rfl)).mono ?_
       rintro _ w17 ⟨_,_,_,_,_,s',rfl,E17,K17,h17⟩
       refine ⟨_,_,_,_,_,s',rfl,E17,K17,?_⟩
       refine h17.mono ?_
       rintro _ w18 ⟨r,rfl,E18,K18,hr⟩
       refine ⟨_,rfl,E18,K18,fun h=>?_,fun h=>next _ E18 (by rw [← hr];exact h)⟩
       intro w19 hs19
       exact found _ ((E14.trans E18).hst hs19) (by rw [← hr];exact h)
      ·refine ⟨_,fun w' _=>jIO f hf w',_,fun w' _=>jIP f hf w',?_⟩
       have hf2:decide (f≠2)=true:=decide_eq_true (fun e=>by subst e;simp at h3)
       refine (cmp w16 Ed (by simpa using h1) (by rw [hf2];simp)).mono ?_
       rintro _ w17 ⟨_,_,_,_,_,s',rfl,E17,K17,h17⟩
       refine ⟨_,_,_,_,_,s',rfl,E17,K17,?_⟩
       refine h17.mono ?_
       rintro _ w18 ⟨r,rfl,E18,K18,hr⟩
       refine ⟨_,rfl,E18,K18,fun h=>?_,fun h=>next _ E18 (by rw [← hr];exact h)⟩
       intro w19 hs19
       exact found _ ((E14.trans E18).hst hs19) (by rw [← hr];exact h)
      ·refine next _ Ed ?_
       have hf2 : f = 2 := by have : (f : Int) = 2 := by simpa using h3
                              omega
       unfold Sp.jFH
       simp only
       rw [h2,hf2];simp
      ·refine next _ Ed ?_
       unfold Sp.jFH
       rw [hwf]
       have:decide (Sp.qK ⟨kd,lf,c,t,decide (f>0)⟩=0)=false:=decide_eq_false (by simpa using h1)
       rw [this];rfl
     ·have hf:f=4:=by have:=of_decide_eq_false hc3;omega
      subst hf
      rw [Nat.sub_self,Sp.qX] at heqf
      rw [heqf] at heqd
      simp only at heqd
      rw [vC hj3 (by omega)]
      exact ⟨⟨j+1,rfl,hj3,Ef,BVf,heqd⟩,by omega⟩
    have hsg:s_B kd=Sp.vQ kd:=rfl
    have hcf:cond (s_B kd) xf 0=(Sp.jHD x kd pp).frm:=by
     rw [hsg];unfold Sp.jHD;simp only;rw [hxn];cases Sp.vQ kd <;> rfl
    have place : ∀ (y : Sp.Tree) (sy : Sl) (pth : List Nat) (w : World) (p8 : Addr) (w23 : World), Pure w0 w → TreeAt S w0 sy y → New w (.cells (pth.map fun t : Nat => Value.int .i64 (t : Int)).toArray 3) p8 w23 → pth.length ≤ 100 →
      Calls prog 163 #[.agg (yH y sy).toArray,(Sl.mk (some p8) pth.length pth.length).v] w23 (fun e w'=>∃s',e=.returned (.agg (yH (Sp.jCC y pth) s').toArray)∧TreeAt S w23 s' (Sp.jCC y pth)∧Pure w23 w'):=by
     intro y sy pth w p8 w23 E hTy h8 hpl
     have E23:Pure w0 w23:=E.trans (Ext.new h8)
     exact jAI (S2:=(·=p8.block)) y sy _ pth w23 (hTy.pure E23) (tS E23).2 (Lst.of_path pth (Box.of_new h8)) (fun b e=>by subst e;exact (Box.of_new h8).lt) hpl
    refine ⟨fun htx=>?_,fun htx=>⟨fun h7=>?_,fun h7=>?_⟩⟩
    ·have htx':Sp.vZ kd=true:=htx
     intro H4 w13 hs13
     have E13:=E.hst hs13
     have BV13:=BV hBV hs13
     have hv13:¬ H4 a1.block:=hs13.disj (G:=(·=a1.block)) (fun b e=>by subst e;exact ⟨hB1.lt,hv1⟩) _ rfl
     have B13:=hB1.ext hs13.ext hv13
     generalize hD:Sp.jCC x pp=D at *
     obtain ⟨dk,df,dt,du,dx,dks⟩:=D
     refine ⟨_,_,_,_,_,sd,B13.row,?_⟩
     intro p8 w23 h8
     have E23:Pure w13 w23:=Ext.new h8
     refine (place (.mk dk df dt du dx dks) sd [1,0] w13 p8 w23 E13 hTd h8 (by simp)).mono ?_
     rintro _ w24 ⟨s1,rfl,_,E24⟩
     generalize hk1:Sp.jCC (.mk dk df dt du dx dks) [1,0]=y1 at *
     obtain ⟨y1k,y1f,y1t,y1u,y1x,y1s⟩:=y1
     refine ⟨_,_,_,_,_,s1,rfl,E24.keptP,?_⟩
     intro w25 hs25
     have E1324:=E23.trans E24
     have B24:=B13.pure E1324
     have hv25:¬ H4 a1.block:=hv13
     have B25:=B24.ext hs25.ext hv25
     refine ⟨_,_,_,_,_,sd,B25.row,?_⟩
     have E25:=(E13.trans E1324).hst hs25
     have BV25:=BV ⟨Bp BV13.1 E1324,BV13.2⟩ hs25
     intro p9 w26 h9
     have E26:Pure w25 w26:=Ext.new h9
     refine (place (.mk dk df dt du dx dks) sd [1,1] w25 p9 w26 E25 hTd h9 (by simp)).mono ?_
     rintro _ w27 ⟨s2,rfl,_,E27⟩
     generalize hk2:Sp.jCC (.mk dk df dt du dx dks) [1,1]=y2 at *
     obtain ⟨y2k,y2f,y2t,y2u,y2x,y2s⟩:=y2
     refine ⟨_,_,_,_,_,s2,rfl,E27.keptP,?_⟩
     intro w28 hs28
     have E2527:=E26.trans E27
     refine J4 y1u y2x H4 w28 hs28.here ((E25.trans E2527).hst hs28) (BV ⟨Bp BV25.1 E2527,BV25.2⟩ hs28) ?_
     rw [hcf]
     unfold Sp.jHD
     simp only [htx',if_true,hD,hk1,hk2]
     rfl
    ·have h7:kd=7:=by simpa using h7
     intro H4 w13 hs13
     have E13:=E.hst hs13
     have BV13:=BV hBV hs13
     intro p10 w29 h10
     have E29:Pure w13 w29:=Ext.new h10
     rw [hxv]
     refine (place x s [1] w13 p10 w29 E13 hT h10 (by simp)).mono ?_
     rintro _ w30 ⟨s1,rfl,_,E30⟩
     generalize hk1:Sp.jCC x [1]=y1 at *
     obtain ⟨y1k,y1f,y1t,y1u,y1x,y1s⟩:=y1
     refine ⟨_,_,_,_,_,s1,rfl,E30.keptP,?_⟩
     intro w31 hs31
     have E1330:=E29.trans E30
     refine J4 y1u ⟨#[]⟩ H4 w31 hs31.here ((E13.trans E1330).hst hs31) (BV ⟨Bp BV13.1 E1330,BV13.2⟩ hs31) ?_
     rw [hcf]
     unfold Sp.jHD
     subst h7
     simp only [hk1]
     rfl
    ·have h7:kd≠7:=by simpa using h7
     have htx':Sp.vZ kd=false:=htx
     intro H4 w13 hs13
     have E13:=E.hst hs13
     have BV13:=BV hBV hs13
     intro p11 w32 h11
     have E32:Pure w13 w32:=Ext.new h11
     rw [hxv]
     refine (place x s [0,1] w13 p11 w32 E13 hT h11 (by simp)).mono ?_
     rintro _ w33 ⟨s1,rfl,_,E33⟩
     generalize hk1:Sp.jCC x [0,1]=y1 at *
     obtain ⟨y1k,y1f,y1t,y1u,y1x,y1s⟩:=y1
     refine ⟨_,_,_,_,_,s1,rfl,E33.keptP,?_⟩
     intro w34 hs34
     have E1333:=E32.trans E33
     refine J4 y1u ⟨#[]⟩ H4 w34 hs34.here ((E13.trans E1333).hst hs34) (BV ⟨Bp BV13.1 E1333,BV13.2⟩ hs34) ?_
     rw [hcf]
     unfold Sp.jHD
     have h7b:(kd == 7)=false:=by simpa using h7
     simp only [htx',h7b,hk1,Bool.false_eq_true,if_false]
     rfl
   have Edr:Pure wm wm.drew:=Ext.drew wm
   have Emd:=Em.trans Edr
   have Bmd:=Bp BVm.1 Edr
   refine ⟨fun w'=>B w',Bmd,?_⟩
   rintro _ rfl
   refine ⟨a,hat,sl,fun w' h=>(hcell w' h).1,?_,?_⟩
   ·rw [hxv]
    obtain ⟨_,S2,hL,hS2⟩:=hcell _ Bmd
    refine (jAI x s sl pp wm.drew (tS Emd).1 (tS Emd).2 hL hS2 hppl).mono ?_
    rintro _ w36 ⟨sd,rfl,hTd,E36⟩
    generalize hD:Sp.jCC x pp=D at *
    obtain ⟨dk,df,dt,du,dx,dks⟩:=D
    refine ⟨_,_,_,_,_,sd,rfl,E36.keptP,?_⟩
    intro p12 w37 h12
    have E37:=E36.trans (Ext.new h12)
    have b12:=Box.of_new h12
    have hnh:¬ Hm p12.block:=by intro hh;have:=hm.lt _ hh;have:=h12.at_size;have:=(Edr.trans E36).size;omega
    have B36:=Bp Bmd E36
    have B37:=Bp Bmd E37
    have hTd0:TreeAt S w0 sd (Sp.Tree.mk dk df dt du dx dks):=hTd.back Emd hSw
    refine ⟨B37,b12.canWs (n:=6) (by simp),hnh,?_⟩
    rintro _ rfl
    have E38:=Ext.storeRow w37 p12 [(.int .i64 dk),(.int .i64 df),(.int .i64 dt),(.int .u64 du),(.string dx),sd.v]
    have b38:=b12.store (vs:=[(.int .i64 dk),(.int .i64 df),(.int .i64 dt),(.int .u64 du),(.string dx),sd.v]) rfl
    exact J3 p12 _ sd _ ((hm.again (Edr.trans E37).keptP).again (E38.kept (fun b hb e=>hnh (e▸hb)))) ((Emd.trans E37).own (by have:=h12.at_size;have:=(Emd.trans E36).size;omega) E38) ⟨⟨B37.1.ext E38 (New.ne h12 B36.1.blk),B37.2.1.ext E38 (New.ne h12 B36.2.1.blk),B37.2.2.1.ext E38 (New.ne h12 B36.2.2.1.blk),B37.2.2.2.ext E38 (New.ne h12 B36.2.2.2.blk)⟩,BVm.2⟩ b38 hnh hTd0
   ·rw [hxv]
    intro p13 w39 h13
    have E39:Pure wm.drew w39:=Ext.new h13
    have B39:=Bp Bmd E39
    have Em39:=Emd.trans E39
    have b13:=Box.of_new h13
    have hnh:¬ Hm p13.block:=by intro hh;have:=hm.lt _ hh;have:=h13.at_size;have:=Edr.size;omega
    obtain ⟨_,S2,hL,hS2⟩:=hcell _ B39
    refine ⟨B39,(jAI x s sl pp w39 (tS Em39).1 (tS Em39).2 hL hS2 hppl).mono ?_⟩
    rintro _ w40 ⟨sd,rfl,hTd,E40⟩
    generalize hD:Sp.jCC x pp=D at *
    obtain ⟨dk,df,dt,du,dx,dks⟩:=D
    have hTd0:TreeAt S w0 sd (Sp.Tree.mk dk df dt du dx dks):=hTd.back Em39 hSw
    have B40:=Bp B39 E40
    have b40:=b13.pure E40
    refine ⟨_,_,_,_,_,sd,rfl,E40.keptP,b40.canWs (n:=6) (by simp),hnh,?_⟩
    rintro _ rfl
    have E41:=Ext.storeRow w40 p13 [(.int .i64 dk),(.int .i64 df),(.int .i64 dt),(.int .u64 du),(.string dx),sd.v]
    have b41:=b40.store (vs:=[(.int .i64 dk),(.int .i64 df),(.int .i64 dt),(.int .u64 du),(.string dx),sd.v]) rfl
    exact J3 p13 _ sd _ ((hm.again ((Edr.trans E39).trans E40).keptP).again (E41.kept (fun b hb e=>hnh (e▸hb)))) ((Em39.trans E40).own (by have:=h13.at_size;have:=Emd.size;omega) E41) ⟨⟨B40.1.ext E41 (New.ne h13 Bmd.1.blk),B40.2.1.ext E41 (New.ne h13 Bmd.2.1.blk),B40.2.2.1.ext E41 (New.ne h13 Bmd.2.2.1.blk),B40.2.2.2.ext E41 (New.ne h13 Bmd.2.2.2.blk)⟩,BVm.2⟩ b41 hnh hTd0
  ·have hj3:j=3:=by have:=of_decide_eq_false hc2;simp only at this;omega
   subst hj3
   have:Sp.deals.drop 3=[]:=rfl
   rw [this,Sp.qM] at heqd
   rw [heqd] at heq
   simp only at heq
   have hkw:IntKind.i64.wrap (kd+1)=((q+1:Nat):Int)+1:=by rw [IntWalk.i64_in _ (by omega)];omega
   rw [hkw]
   exact ⟨⟨q+1,rfl,hq7,Em,BVm,by rw [heq];congr 1 <;> omega⟩,by show (8 - _:Int).toNat<(8 - _:Int).toNat;omega⟩
 ·have hq7:q=7:=by have:=of_decide_eq_false hc;omega
  subst hq7
  rw [Nat.sub_self,Sp.yM] at heq
  intro w42 hs42
  exact hK _ _ _ _ _ _ _ ⟨by unfold Sp.qE;rw [heq];rfl,El.hst hs42⟩
theorem jCA (p:Addr) {L:Sp.Pool} (hW:Sp.Wf L) (t:Int) (w0:World) (F:NP) (hP:qY w0 p L F) :
  Calls prog 42 #[.pointer (some p),.int .i64 t] w0 (fun e w'=>∃k f c:Int,∃t':ByteArray,∃g r:Bool,e=.returned (.tuple #[.agg #[.int .i64 k,.int .i64 f,.int .u64 c,.string t',.bool g],.bool r])∧(((⟨k,f,c,t',g⟩:Sp.Letter),r)=Sp.xI L t∧Pure w0 w')):=by
 suffices key:∀K:Int→Int→Int→ByteArray→Bool→Bool→WP,(∀k f c t' g r w',(((⟨k,f,c,t',g⟩:Sp.Letter),r)=Sp.xI L t∧Pure w0 w')→K k f c t' g r w')→m_O2 (some p) t w0 K from
  w_O2 _ _ w0 _ (key _ (fun _ _ _ _ _ _ _ h=>h))
 intro K hK
 have hok:=hW.ok
 unfold m_O2
 intro H1 w1 hs1
 have E1:=hs1.first
 refine (yQ p t w1 (hP.pure E1)).mono ?_
 rintro _ w2 ⟨r,rfl,hr,rfl⟩
 refine ⟨_,rfl,(Ext.refl _:Pure w2 w2).keptP,fun h=>?_,fun h=>?_⟩
 ·intro w3 hs3
  refine hK _ _ _ _ _ _ _ ⟨?_,E1.hst hs3⟩
  unfold Sp.xI
  rw [if_neg (fun hh=>by rw [hr,hh.1] at h;cases h)]
  rfl
 ·have hin:Sp.inP L t=true:=by rw [← hr];simpa using h
  refine (tM p t w2 (hP.pure E1) hok).mono ?_
  rintro _ w4 ⟨z,rfl,hz,rfl⟩
  refine ⟨_,rfl,(Ext.refl _:Pure w4 w4).keptP,fun h2=>?_,fun h2=>?_⟩
  ·intro w5 hs5
   refine hK _ _ _ _ _ _ _ ⟨?_,E1.hst hs5⟩
   have h2:=of_decide_eq_true h2
   unfold Sp.xI
   rw [if_neg (fun hh=>hh.2 (hz▸h2))]
   rfl
  ·have h2:=of_decide_eq_false h2
   refine (jGO p hW _ t w4 F rfl (hP.pure E1)).mono ?_
   rintro _ w6 ⟨s',rfl,hT,E6⟩
   generalize hD:Sp.zW L t=D at *
   obtain ⟨dk,df,dt,du,dx,dks⟩:=D
   refine ⟨_,_,_,_,_,s',rfl,E6.keptP,?_⟩
   refine (jCE _ s' w6 hT.lt (fun b hb=>hb.2)).mono ?_
   rintro _ w7 ⟨k,f,c,t',g,r,rfl,hrd,E7⟩
   refine ⟨_,_,_,_,_,_,rfl,E7.keptP,?_⟩
   intro w8 hs8
   refine hK _ _ _ _ _ _ _ ⟨?_,((E1.trans E6).trans E7).hst hs8⟩
   unfold Sp.xI
   rw [if_pos ⟨hin,hz▸h2⟩,hD,hrd]
end Go.Proofs
end
section
namespace Go.Sp
theorem jMH {L:Pool} (hW:Wf L):∀(n:Nat) (t:Int),t.toNat=n→inP L t=true→sizeOf L t=cnt (zW L t):=by
 intro n;induction n using Nat.strongRecOn with
 | _ n ih =>
 intro t hn ht;have h:=hW.node ht;rw [uD hW ht,h.2.2.2.2.2.1,cnt];have:∀l:List Int,(∀k∈l,sizeOf L k=cnt (zW L k))→(l.map (sizeOf L)).sum=(cntAll (l.map (zW L)):Int):=by
  intro l;induction l with
  | nil=>intro _;rfl
  | cons a l ihl=>intro hh;simp only [List.map_cons,List.sum_cons,cntAll,hh a (by simp),ihl (fun k hk=>hh k (by simp [hk]))];omega
 rw [this _ (fun k hk=>?_)]
 ·omega
 ·have hk2:=h.2.2.2.2.1 k hk;have:=yC.1 hk2.1;exact ih k.toNat (by omega) k rfl hk2.1
theorem uP {L:Pool} {t k:Int} (h:(zY L t k).2=false):inP L t=true∧(zG L t).kind=k∧zY L t k=(zG L t,false):=by
 unfold zY at h ⊢;split at h
 ·rename_i hh;exact ⟨hh.1,hh.2,by rw [if_pos hh]⟩
 ·cases h
theorem uQ {L:Pool} {t k:Int} (h:inP L t=true) (hk:(zG L t).kind=k):zY L t k=(zG L t,false):=by unfold zY;rw [if_pos ⟨h,hk⟩]
section
variable {L:Pool} (hW:Wf L) {t:Int} (ht:inP L t=true)
include hW ht
theorem jOH:(zG L t).text.size≤64:=by
 have:=(hW.node ht).2.2.2.1;unfold vF at this;split at this
 ·cases this
 split at this
 ·cases this
 ·omega
theorem nd3 (hk:(zG L t).kind=3):zW L t=qJ (zG L t).text:=by
 have h:=(hW.node ht).1;rw [uD hW ht,hk,qJ];have hkk:vA (zG L t)=[]:=by unfold vA;rw [hk];rfl
 rw [hkk];unfold vH at h;rw [hk] at h;simp [shapeOf,isKind] at h;simp [h]
theorem nd2 (hk:(zG L t).kind=2):zW L t=jBC (zG L t).num:=by
 have h:=(hW.node ht).1;rw [uD hW ht,hk,jBC];have hkk:vA (zG L t)=[]:=by unfold vA;rw [hk];rfl
 rw [hkk];unfold vH at h;rw [hk] at h;simp [shapeOf,isKind] at h;simp [h]
theorem nd4 (hk:(zG L t).kind=4):inP L (zG L t).a=true∧inP L (zG L t).b=true∧zW L t=qT (zW L (zG L t).a) (zW L (zG L t).b):=by
 have h:=(hW.node ht).1;have hp:=(hW.node ht).2.2.2.2.1;have hkk:vA (zG L t)=[(zG L t).a,(zG L t).b]:=by unfold vA;rw [hk];rfl
 rw [hkk] at hp;refine ⟨(hp _ (by simp)).1,(hp _ (by simp)).1,?_⟩;rw [uD hW ht,hk,qT,hkk];unfold vH at h;rw [hk] at h;simp [shapeOf,isKind] at h;simp [h]
theorem nd7 (hk:(zG L t).kind=7):inP L (zG L t).a=true∧0≤(zG L t).frm∧zW L t=xH (zG L t).frm (zW L (zG L t).a):=by
 have h:=(hW.node ht).1;have hf:=(hW.node ht).2.2.2.1;have hp:=(hW.node ht).2.2.2.2.1;have hkk:vA (zG L t)=[(zG L t).a]:=by unfold vA;rw [hk];rfl
 rw [hkk] at hp;refine ⟨(hp _ (by simp)).1,?_,?_⟩
 ·unfold vF at hf;rw [hk] at hf;split at hf
  ·cases hf
  ·rename_i hh;simp [shapeOf,tZ] at hh;omega
 rw [uD hW ht,hk,xH,hkk];unfold vH at h;rw [hk] at h;simp [shapeOf,isKind] at h;simp [h]
theorem nd89 (hk:(zG L t).kind=8∨(zG L t).kind=9):inP L (zG L t).a=true∧0≤(zG L t).frm∧(zG L t).frm<16∧((zG L t).to=1 - (zG L t).frm→zW L t=yO (zG L t).frm (zW L (zG L t).a) ((zG L t).kind == 9)):=by
 have h:=(hW.node ht).1;have hf:=(hW.node ht).2.2.2.1;have hp:=(hW.node ht).2.2.2.2.1;have hkk:vA (zG L t)=[(zG L t).a]:=by unfold vA;rcases hk with hk | hk <;> (rw [hk];rfl)
 rw [hkk] at hp;have hff:0≤(zG L t).frm∧(zG L t).frm<16:=by
  unfold vF at hf;rcases hk with hk | hk <;>
  ·rw [hk] at hf;split at hf
   ·cases hf
   ·rename_i hh;simp [shapeOf,tZ] at hh;omega
 refine ⟨(hp _ (by simp)).1,hff.1,hff.2,fun hto=>?_⟩;rw [uD hW ht,yO,hkk,← hto];unfold vH at h;rcases hk with hk | hk <;>
 ·rw [hk] at h ⊢;simp [shapeOf,isKind] at h;simp [h]
theorem uR {k f t' u:Int} {x:ByteArray} {ks:List Tree} (h:zW L t=.mk k f t' u x ks):(zG L t).kind=k∧(zG L t).frm=f∧(zG L t).to=t'∧(zG L t).num=u∧(zG L t).text=x:=by
 rw [uD hW ht] at h;injection h with h1 h2 h3 h4 h5 h6;exact ⟨h1,h2,h3,h4,h5⟩
end
theorem jDV {n:Int} (h:0≤n∧n<16):IntKind.i64.wrap (1 - n)=1 - n:=IntWalk.i64_in _ (by omega)
section
variable {L:Pool} (hW:Wf L) {t:Int}
include hW
theorem yY (h:(zS L t).2=false):inP L t=true∧inP L (zS L t).1.2=true∧zW L t=qT (qJ (zS L t).1.1) (zW L (zS L t).1.2):=by
 unfold zS at h ⊢;simp only [Bool.or_eq_false_iff] at h;obtain ⟨ht,hk,e1⟩:=uP h.1;rw [e1] at h ⊢;simp only at h ⊢;obtain ⟨ha,hka,e2⟩:=uP h.2;rw [e2];obtain ⟨_,h2,h3⟩:=nd4 hW ht hk;exact ⟨ht,h2,by rw [h3,nd3 hW ha hka]⟩
theorem jAF (ht:inP L t=true) {g:ByteArray} {y:Tree} (h:zW L t=qT (qJ g) y):∃n,zS L t=((g,n),false)∧inP L n=true∧zW L n=y:=by
 have hk:=(uR hW ht (h.trans rfl)).1;obtain ⟨h1,h2,h3⟩:=nd4 hW ht hk;rw [h] at h3;have e1:qJ g=zW L (zG L t).a:=by simpa [qT] using (Tree.mk.inj h3).2.2.2.2.2 |> fun e=>(List.cons.inj e).1
 have e2:y=zW L (zG L t).b:=by have:=(Tree.mk.inj h3).2.2.2.2.2;exact (List.cons.inj (List.cons.inj this).2).1
 have hka:=uR hW h1 (e1.symm.trans rfl);refine ⟨(zG L t).b,?_,h2,e2.symm⟩;unfold zS;rw [uQ ht hk];simp only;rw [uQ h1 hka.1];simp [hka.2.2.2.2]
theorem jDB (h:(vU L t).2=false):inP L t=true∧zW L t=qG (vU L t).1.1 (vU L t).1.2∧(vU L t).1.2.size≤64:=by
 unfold vU at h ⊢;simp only [Bool.or_eq_false_iff,Bool.not_eq_false',decide_eq_true_eq] at h;obtain ⟨⟨⟨⟨h1,h2⟩,h3⟩,h4⟩,h5⟩:=h;obtain ⟨ht,_,e⟩:=yY hW h1;obtain ⟨hp,hpk,e2⟩:=uP h2;simp only at h3 ⊢;rw [e2] at h4 h5 ⊢;simp only at h4 h5 ⊢;obtain ⟨ha,hak,e4⟩:=uP h4;obtain ⟨hb,hbk,e5⟩:=uP h5;rw [e4,e5];refine ⟨ht,?_,jOH hW hb⟩;rw [e,h3,(nd4 hW hp hpk).2.2,nd2 hW ha hak,nd3 hW hb hbk];rfl
theorem jDC (ht:inP L t=true) {c:Int} {x:ByteArray} (h:zW L t=qG c x):vU L t=((c,x),false):=by
 obtain ⟨n,e1,hn,e⟩:=jAF hW ht h;have hk:=(uR hW hn (e.trans rfl)).1;obtain ⟨h1,h2,h3⟩:=nd4 hW hn hk;rw [e] at h3;have q1:jBC c=zW L (zG L n).a:=(List.cons.inj (Tree.mk.inj h3).2.2.2.2.2).1;have q2:qJ x=zW L (zG L n).b:=(List.cons.inj (List.cons.inj (Tree.mk.inj h3).2.2.2.2.2).2).1;have k1:=uR hW h1 (q1.symm.trans rfl);have k2:=uR hW h2 (q2.symm.trans rfl);unfold vU;rw [e1];simp only;rw [uQ hn hk];simp only;rw [uQ h1 k1.1,uQ h2 k2.1];simp [k1.2.2.2.1,k2.2.2.2.2]
theorem jET (ht:inP L t=true) {c:Int} (h:zW L t=jBC c):(zY L t 2).1.num=c∧(zY L t 2).2=false:=by
 have k:=uR hW ht (h.trans rfl);rw [uQ ht k.1];exact ⟨k.2.2.2.1,rfl⟩
theorem jES (h:(zY L t 2).2=false):inP L t=true∧zW L t=jBC (zY L t 2).1.num:=by
 obtain ⟨h1,h2,e⟩:=uP h;rw [e];exact ⟨h1,nd2 hW h1 h2⟩
theorem tI (ht:inP L t=true) (h:(zR L t).2=false):(zR L t).1.kind=1∧((zR L t).1.frm=0∨(zR L t).1.frm=1)∧zW L t=yO (zR L t).1.frm (qG (zR L t).1.c (zR L t).1.text) (zR L t).1.fake∧(zR L t).1.text.size≤64:=by
 unfold zR at h ⊢;simp only at h ⊢;split at h
 ·cases h
 rename_i hh;rw [if_neg hh];simp only [not_or,not_and,Classical.not_not] at hh;have hk:(zG L t).kind=8∨(zG L t).kind=9:=by
  by_cases h8:(zG L t).kind=8
  ·exact .inl h8
  ·exact .inr (hh.1 h8)
 obtain ⟨ha,h0,h16,hT⟩:=nd89 hW ht hk;have hto:=hh.2.2;rw [jDV ⟨h0,h16⟩] at hto;obtain ⟨_,e,hx⟩:=jDB hW h;simp only;refine ⟨trivial,by have:=hh.2.1;omega,by rw [hT hto,e],hx⟩
theorem tJ (ht:inP L t=true) {n c:Int} {x:ByteArray} {g:Bool} (hn:n=0∨n=1) (h:zW L t=yO n (qG c x) g):zR L t=(⟨1,n,c,x,g⟩,false):=by
 have k:=uR hW ht (h.trans rfl);have hk:(zG L t).kind=8∨(zG L t).kind=9:=by rw [k.1];cases g <;> simp
 obtain ⟨ha,h0,h16,hT⟩:=nd89 hW ht hk;have:=hT (by rw [k.2.2.1,k.2.1]);rw [h,k.2.1] at this;have q1:qG c x=zW L (zG L t).a:=(List.cons.inj (Tree.mk.inj this).2.2.2.2.2).1;unfold zR;simp only;rw [if_neg,jDC hW ha q1.symm,k.1,k.2.1]
 ·cases g <;> rfl
 ·simp only [not_or,not_and,Classical.not_not];refine ⟨fun h8=>hk.resolve_left h8,by rw [k.2.1];omega,?_⟩;rw [k.2.2.1,jDV ⟨h0,h16⟩,k.2.1]
end
def IsL (x:Tree) (l:Letter):Prop:=qK l=0∧∃a b:Bool,(l.kind=4→l.fake=(a || b))∧x=vX l a b
theorem jBI {k f c:Int} {x:ByteArray} {g:Bool} (h:qK ⟨k,f,c,x,g⟩=0):(k=1∨k=2∨k=3∨k=4∨k=5∨k=6∨k=7)∧(f=0∨f=1)∧(vQ k=false→f=0)∧(vZ k=false→x=⟨#[]⟩)∧(g=true→k=1∨k=4)∧x.size≤64:=by
 unfold qK at h;simp only at h;split at h
 ·cases h
 rename_i hh;split at h
 ·cases h
 simp only [not_or,not_and,Classical.not_not] at hh;obtain ⟨h1,h2,h3,h4,h5,h6⟩:=hh;refine ⟨by omega,?_,h4,h5,?_,by omega⟩
 ·by_cases h0:f=0
  ·exact .inl h0
  ·exact .inr (h3 h0)
 ·intro hg;by_cases h1:k=1
  ·exact .inl h1
  ·exact .inr (h6 hg h1)
theorem uS {k f c:Int} {x:ByteArray} {g:Bool} (hk:1≤k∧k≤7) (hf:f=0∨f=1) (h1:vQ k=false→f=0) (h2:vZ k=false→x=⟨#[]⟩) (h3:g=true→k=1∨k=4) (hx:x.size≤64):qK ⟨k,f,c,x,g⟩=0:=by
 unfold qK;simp only;rw [if_neg,if_neg (by omega)];simp only [not_or,not_and,Classical.not_not];refine ⟨by omega,by omega,fun h0=>hf.resolve_left h0,h1,h2,fun hg h1=>(h3 hg).resolve_left h1⟩
section
variable {L:Pool} (hW:Wf L) {t:Int}
include hW
theorem jFV {who:Int} (h:(vT L who t).2=false):∃c x a b,(vT L who t).1=⟨4,who,c,x,a || b⟩∧x.size≤64∧zW L t=qT (yO 0 (qG c x) a) (yO 1 (qG c x) b):=by
 unfold vT at h ⊢;simp only [Bool.or_eq_false_iff,Bool.not_eq_false',decide_eq_true_eq,bne_eq_false_iff_eq] at h;obtain ⟨⟨⟨⟨⟨⟨h1,h2⟩,h3⟩,h4⟩,h5⟩,h6⟩,h7⟩:=h;obtain ⟨ht,hk,e⟩:=uP h1;simp only;rw [e] at h2 h3 h4 h5 h6 h7 ⊢;simp only at h2 h3 h4 h5 h6 h7 ⊢;obtain ⟨ha,hb,hT⟩:=nd4 hW ht hk;obtain ⟨_,_,ea,hx⟩:=tI hW ha h2;obtain ⟨_,_,eb,_⟩:=tI hW hb h3;refine ⟨_,_,_,_,rfl,hx,?_⟩;rw [hT,ea,eb,h4,h5,h6,h7]
theorem jFW (ht:inP L t=true) {who c:Int} {x:ByteArray} {a b:Bool} (h:zW L t=qT (yO 0 (qG c x) a) (yO 1 (qG c x) b)):vT L who t=(⟨4,who,c,x,a || b⟩,false):=by
 have hk:=(uR hW ht (h.trans rfl)).1;obtain ⟨h1,h2,h3⟩:=nd4 hW ht hk;rw [h] at h3;have q1:=(List.cons.inj (Tree.mk.inj h3).2.2.2.2.2).1;have q2:=(List.cons.inj (List.cons.inj (Tree.mk.inj h3).2.2.2.2.2).2).1;unfold vT;simp only;rw [uQ ht hk];simp only;rw [tJ hW h1 (.inl rfl) q1.symm,tJ hW h2 (.inr rfl) q2.symm];simp
theorem jHR {who:Int} (hw:0≤who) (h:(qF L who t).2=false):IsL (xH who (zW L t)) (qF L who t).1:=by
 unfold qF at h ⊢;simp only at h ⊢;by_cases c1:(zS L t).1.1=uI∧who=0
 ·rw [if_pos c1] at h ⊢;simp only [Bool.or_eq_false_iff] at h;obtain ⟨ht,hn,e⟩:=yY hW h.1;show IsL _ ⟨3,0,_,⟨#[]⟩,false⟩;refine ⟨uS (by omega) (.inl rfl) (fun _=>rfl) (fun _=>rfl) (fun h=>nomatch h) (Nat.zero_le _),false,false,by simp,?_⟩;rw [e,c1.1,c1.2,(jES hW h.2).2];rfl
 rw [if_neg c1] at h ⊢;by_cases c2:(zS L t).1.1=qO∧who=2
 ·rw [if_pos c2] at h ⊢;simp only [Bool.or_eq_false_iff] at h;obtain ⟨ht,hn,e⟩:=yY hW h.1;show IsL _ ⟨5,0,_,⟨#[]⟩,false⟩;refine ⟨uS (by omega) (.inl rfl) (fun _=>rfl) (fun _=>rfl) (fun h=>nomatch h) (Nat.zero_le _),false,false,by simp,?_⟩;rw [e,c2.1,c2.2,(jES hW h.2).2];rfl
 rw [if_neg c2] at h ⊢;by_cases c3:(zS L t).1.1=qW∧who=2
 ·rw [if_pos c3] at h ⊢;simp only [Bool.or_eq_false_iff] at h;obtain ⟨ht,hn,e⟩:=yY hW h.1;obtain ⟨_,e2,hx⟩:=jDB hW h.2;refine ⟨uS (by omega) (.inl rfl) (fun _=>rfl) (by simp [vZ]) (by simp) hx,false,false,by simp,?_⟩;rw [e,c3.1,c3.2,e2];rfl
 rw [if_neg c3] at h ⊢;by_cases c4:(zS L t).1.1=jAC∧who≤1
 ·rw [if_pos c4] at h ⊢;simp only [Bool.or_eq_false_iff] at h;obtain ⟨_,e2,hx⟩:=jDB hW h.2;refine ⟨uS (by omega) (by omega) (by simp [vQ]) (by simp [vZ,vQ]) (by simp) hx,false,false,by simp,?_⟩;rw [e2];rfl
 rw [if_neg c4] at h ⊢;by_cases c5:(zS L t).1.1=qV∧who≤1
 ·rw [if_pos c5] at h ⊢;simp only [Bool.or_eq_false_iff] at h;obtain ⟨ht,hn,e⟩:=yY hW h.1;obtain ⟨c,x,a,b,e2,hx,e3⟩:=jFV hW h.2;rw [e2];refine ⟨uS (by omega) (by omega) (by simp [vQ]) (by simp [vZ,vQ]) (by simp) hx,a,b,by simp,?_⟩;rw [e,c5.1,e3];cases a <;> cases b <;> rfl
 rw [if_neg c5] at h;cases h
theorem jMM (ht:inP L t=true) (h:(xJ L t).2=false):IsL (zW L t) (xJ L t).1:=by
 unfold xJ at h ⊢;simp only at h ⊢;by_cases c1:(zG L t).kind=7
 ·rw [if_pos c1] at h ⊢;obtain ⟨h1,h2,h3⟩:=nd7 hW ht c1;rw [h3];exact jHR hW h2 h
 rw [if_neg c1] at h ⊢;by_cases c2:(zG L t).kind=8∨(zG L t).kind=9
 ·rw [if_pos c2] at h ⊢;obtain ⟨h1,h2,h3,h4⟩:=tI hW ht h;generalize zR L t=r at *;obtain ⟨⟨k,f,c,x,g⟩,b⟩:=r;simp only at h1 h2 h3 h4 ⊢;subst h1;exact ⟨uS (by omega) h2 (by simp [vQ]) (by simp [vZ,vQ]) (by simp) h4,false,false,by simp,h3⟩
 rw [if_neg c2] at h ⊢;split at h
 ·cases h
 rename_i c3;rw [if_neg c3];simp only [Bool.or_eq_true,Bool.not_eq_true',decide_eq_false_iff_not,not_or,Classical.not_not,Bool.not_eq_true] at c3;obtain ⟨_,hn,e⟩:=yY hW c3.1;show IsL _ ⟨7,0,_,⟨#[]⟩,false⟩;refine ⟨uS (by omega) (.inl rfl) (fun _=>rfl) (fun _=>rfl) (fun h=>nomatch h) (Nat.zero_le _),false,false,by simp,?_⟩;rw [e,c3.2,(jES hW h).2];rfl
theorem jIR (ht:inP L t=true) {l:Letter} (h:IsL (zW L t) l):xJ L t=(l,false):=by
 obtain ⟨k,f,c,x,g⟩:=l;obtain ⟨h1,a,b,h4,hT⟩:=h;obtain ⟨hk,hf,hs,hx,hg,_⟩:=jBI h1;have tagged:∀{who:Int} {gg:ByteArray} {y:Tree},zW L t=xH who (qT (qJ gg) y)→(zG L t).kind=7∧(zG L t).frm=who∧inP L (zG L t).a=true∧zW L (zG L t).a=qT (qJ gg) y∧∃n,zS L (zG L t).a=((gg,n),false)∧inP L n=true∧zW L n=y:=by
  intro who gg y e;have k:=uR hW ht (e.trans rfl);obtain ⟨q1,_,q3⟩:=nd7 hW ht k.1;rw [e] at q3;have q:=(List.cons.inj (Tree.mk.inj q3).2.2.2.2.2).1;exact ⟨k.1,k.2.1,q1,q.symm,jAF hW q1 q.symm⟩
 rcases hk with rfl | rfl | rfl | rfl | rfl | rfl | rfl
 ·have e:zW L t=yO f (qG c x) g:=hT;have k:=uR hW ht (e.trans rfl);unfold xJ;simp only;rw [if_neg (by rw [k.1];cases g <;> decide),if_pos (by rw [k.1];cases g <;> decide),tJ hW ht hf e]
 ·have e:zW L t=xH f (qG c x):=hT;have:g=false:=by cases g with
   | false=>rfl
   | true=>exact absurd (hg rfl) (by omega)
  subst this;obtain ⟨k,kf,h1,h2,n,e1,hn,e2⟩:=tagged e;unfold xJ qF;simp only;rw [if_pos k,e1,kf];simp only;rw [if_neg (fun q=>absurd q.1 (by decide)),if_neg (fun q=>absurd q.1 (by decide)),if_neg (fun q=>absurd q.1 (by decide)),if_pos ⟨trivial,by omega⟩,jDC hW h1 h2];rfl
 ·obtain rfl:f=0:=hs rfl;obtain rfl:x=⟨#[]⟩:=hx rfl;have:g=false:=by cases g with
   | false=>rfl
   | true=>exact absurd (hg rfl) (by omega)
  subst this;have e:zW L t=xH 0 (qT (qJ uI) (jBC c)):=hT;obtain ⟨k,kf,h1,h2,n,e1,hn,e2⟩:=tagged e;obtain ⟨u1,u2⟩:=jET hW hn e2;unfold xJ qF;simp only;rw [if_pos k,e1,kf];simp only;rw [if_pos ⟨trivial,trivial⟩,u1,u2];rfl
 ·have e:zW L t=xH f (qT (qJ qV) (qT (yO 0 (qG c x) (g && a)) (yO 1 (qG c x) (g && b)))):=hT;obtain ⟨k,kf,h1,h2,n,e1,hn,e2⟩:=tagged e;have hgg:((g && a) || (g && b))=g:=by
   have:=h4 rfl;simp only at this;subst this;cases a <;> cases b <;> rfl
  unfold xJ qF;simp only;rw [if_pos k,e1,kf];simp only;rw [if_neg (fun q=>absurd q.1 (by decide)),if_neg (fun q=>absurd q.1 (by decide)),if_neg (fun q=>absurd q.1 (by decide)),if_neg (fun q=>absurd q.1 (by decide)),if_pos ⟨trivial,by omega⟩,jFW hW hn e2,hgg];rfl
 ·obtain rfl:f=0:=hs rfl;obtain rfl:x=⟨#[]⟩:=hx rfl;have:g=false:=by cases g with
   | false=>rfl
   | true=>exact absurd (hg rfl) (by omega)
  subst this;have e:zW L t=xH 2 (qT (qJ qO) (jBC c)):=hT;obtain ⟨k,kf,h1,h2,n,e1,hn,e2⟩:=tagged e;obtain ⟨u1,u2⟩:=jET hW hn e2;unfold xJ qF;simp only;rw [if_pos k,e1,kf];simp only;rw [if_neg (fun q=>absurd q.1 (by decide)),if_pos ⟨trivial,trivial⟩,u1,u2];rfl
 ·obtain rfl:f=0:=hs rfl;have:g=false:=by cases g with
   | false=>rfl
   | true=>exact absurd (hg rfl) (by omega)
  subst this;have e:zW L t=xH 2 (qT (qJ qW) (qG c x)):=hT;obtain ⟨k,kf,h1,h2,n,e1,hn,e2⟩:=tagged e;unfold xJ qF;simp only;rw [if_pos k,e1,kf];simp only;rw [if_neg (fun q=>absurd q.1 (by decide)),if_neg (fun q=>absurd q.1 (by decide)),if_pos ⟨trivial,trivial⟩,jDC hW hn e2];rfl
 ·obtain rfl:f=0:=hs rfl;obtain rfl:x=⟨#[]⟩:=hx rfl;have:g=false:=by cases g with
   | false=>rfl
   | true=>exact absurd (hg rfl) (by omega)
  subst this;have e:zW L t=qT (qJ jFK) (jBC c):=hT;have k:=uR hW ht (e.trans rfl);obtain ⟨n,e1,hn,e2⟩:=jAF hW ht e;obtain ⟨u1,u2⟩:=jET hW hn e2;unfold xJ;simp only;rw [if_neg (by rw [k.1];decide),if_neg (by rw [k.1];decide),e1];simp only;rw [if_neg (by simp),u1,u2]
end
theorem jJQ (l:Letter) (a b:Bool):cnt (vX l a b)≤40:=by
 unfold vX;simp only [yO,qG,xH,qT,qJ,jBC];split
 ·simp [cnt,cntAll]
 split
 ·simp [cnt,cntAll]
 split
 ·simp [cnt,cntAll]
 split
 ·simp [cnt,cntAll]
 split
 ·simp [cnt,cntAll]
 split
 ·simp [cnt,cntAll]
 ·simp [cnt,cntAll]
theorem jAP {x:Tree} {l:Letter}:∀{n i:Nat} {l':Letter},qX x l n i=some l'→∃f,i≤f∧f<i+n∧jFH x l f=true∧l'=yT l f
 | 0,i,l',h=>by cases h
 | n+1,i,l',h=>by
  unfold qX at h;split at h
  ·rename_i hf;cases h;exact ⟨i,by omega,by omega,hf,rfl⟩
  ·obtain ⟨f,h1,h2,h3,h4⟩:=jAP h;exact ⟨f,by omega,by omega,h3,h4⟩
theorem jCR {x:Tree} {l:Letter} {f:Nat} (hf:jFH x l f=true):∀{n i:Nat},i≤f→f<i+n→qX x l n i≠none
 | 0,i,h1,h2=>by omega
 | n+1,i,h1,h2=>by
  unfold qX;split
  ·simp
  ·rename_i h;by_cases e:i=f
   ·subst e;exact absurd hf h
   ·exact jCR hf (by omega) (by omega)
theorem jAQ {x:Tree} {k:Int}:∀{ps:List (List Nat)} {l:Letter},qM x k ps=some l→∃p∈ps,∃f,f<4∧jFH x (jHD x k p) f=true∧l=yT (jHD x k p) f
 | [],l,h=>by cases h
 | p :: ps,l,h=>by
  unfold qM at h;split at h
  ·rename_i l' he;cases h;obtain ⟨f,_,h2,h3,h4⟩:=jAP he;exact ⟨p,by simp,f,by omega,h3,h4⟩
  ·obtain ⟨p',h1,h2⟩:=jAQ h;exact ⟨p',by simp [h1],h2⟩
theorem jCS {x:Tree} {k:Int} {p:List Nat} {f:Nat} (hf:f<4) (h:jFH x (jHD x k p) f=true):∀{ps:List (List Nat)},p∈ps→qM x k ps≠none
 | [],hp=>by cases hp
 | q :: ps,hp=>by
  unfold qM;split
  ·simp
  ·rename_i he;rcases List.mem_cons.1 hp with e | e
   ·subst e;exact absurd he (jCR h (Nat.zero_le _) (by omega))
   ·exact jCS hf h e
theorem jAO {x:Tree}:∀{n:Nat} {i:Int} {l:Letter},yM x n i=some l→∃k p f,i≤k∧k<i+n∧f<4∧jFH x (jHD x k p) f=true∧l=yT (jHD x k p) f
 | 0,i,l,h=>by cases h
 | n+1,i,l,h=>by
  unfold yM at h;split at h
  ·rename_i l' he;cases h;obtain ⟨p,_,f,h1,h2,h3⟩:=jAQ he;exact ⟨i,p,f,by omega,by omega,h1,h2,h3⟩
  ·obtain ⟨k,p,f,h1,h2,h3⟩:=jAO h;exact ⟨k,p,f,by omega,by omega,h3⟩
theorem jCQ {x:Tree} {k:Int} {p:List Nat} {f:Nat} (hp:p∈deals) (hf:f<4) (h:jFH x (jHD x k p) f=true):∀{n:Nat} {i:Int},i≤k→k<i+n→yM x n i≠none
 | 0,i,h1,h2=>by omega
 | n+1,i,h1,h2=>by
  unfold yM;split
  ·simp
  ·rename_i he;by_cases e:i=k
   ·subst e;exact absurd he (jCS hf h hp)
   ·exact jCQ hp hf h (by omega) (by omega)
theorem jON {x:Tree} {l:Letter} {f:Nat} (hf:f<4) (h:jFH x l f=true):IsL x (yT l f):=by
 unfold jFH at h;simp only [Bool.and_eq_true,decide_eq_true_eq] at h;obtain ⟨⟨h1,h2⟩,h3⟩:=h;refine ⟨h1,f % 2 == 1,f / 2 == 1,fun _=>?_,((jIN _ _).1 h3).symm⟩;have:f=0∨f=1∨f=2∨f=3:=by omega
 rcases this with rfl | rfl | rfl | rfl <;> rfl
theorem jAD {x:Tree} {l:Letter} (h:qE x=(l,true)):IsL x l:=by
 unfold qE at h;split at h
 ·rename_i l' he;cases h;obtain ⟨k,p,f,_,_,h1,h2,rfl⟩:=jAO he;exact jON h1 h2
 ·cases h
theorem jAE {x:Tree} (h:(qE x).2=false):qE x=(qP,false)∧yM x 7 1=none:=by
 unfold qE at h ⊢;split at h
 ·cases h
 ·rename_i he;simp only [he];exact ⟨trivial,trivial⟩
theorem jOO {x:Tree} {l l0:Letter} {f:Nat} (hl:qK l=0) (h1:yT l0 f=l) (h2:l0.kind=4∨f≠2) (h3:vX l (f % 2 == 1) (f / 2 == 1)=x):jFH x l0 f=true:=by
 unfold jFH;rw [h1,(jIN _ _).2 h3];simp [hl];exact h2
theorem jHQ {x:Tree} {l:Letter} (h:IsL x l):(qE x).2=true:=by
 cases hr:(qE x).2 with
 | true=>rfl
 | false =>
  exfalso
  have hno:=(jAE hr).2
  obtain ⟨k,f,c,tx,g⟩:=l
  obtain ⟨h1,a,b,h4,hT⟩:=h
  obtain ⟨hk,hf,hs,hx,hg,_⟩:=jBI h1
  have go:∀(p:List Nat) (fk:Nat),p∈deals→fk<4→yT (jHD x k p) fk=⟨k,f,c,tx,g⟩→(k=4∨fk≠2)→vX ⟨k,f,c,tx,g⟩ (fk % 2 == 1) (fk / 2 == 1)=x→False:=by
   intro p fk hp hfk e1 e2 e3;exact jCQ (x:=x) (k:=k) hp hfk (jOO h1 e1 (by simpa [jHD] using e2) e3) (n:=7) (i:=1) (by omega) (by omega) hno
  have nog:k≠1→k≠4→g=false:=by
   intro n1 n4;cases g with
   | false=>rfl
   | true=>exact absurd (hg rfl) (by omega)
  rcases hk with rfl | rfl | rfl | rfl | rfl | rfl | rfl
  ·subst hT
   cases g with
   | false=>exact go [0] 0 (by simp [deals]) (by omega) rfl (by omega) rfl
   | true=>exact go [0] 1 (by simp [deals]) (by omega) rfl (by omega) rfl
  ·obtain rfl:=nog (by omega) (by omega)
   subst hT
   exact go [0] 0 (by simp [deals]) (by omega) rfl (by omega) rfl
  ·obtain rfl:=nog (by omega) (by omega)
   obtain rfl:f=0:=hs rfl
   obtain rfl:tx=⟨#[]⟩:=hx rfl
   subst hT
   exact go [0] 0 (by simp [deals]) (by omega) rfl (by omega) rfl
  ·have:=h4 rfl
   simp only at this
   subst this
   subst hT
   cases a <;> cases b
   ·exact go [0,1,0,0] 0 (by simp [deals]) (by omega) rfl (by omega) rfl
   ·exact go [0,1,0,0] 2 (by simp [deals]) (by omega) rfl (by omega) rfl
   ·exact go [0,1,0,0] 1 (by simp [deals]) (by omega) rfl (by omega) rfl
   ·exact go [0,1,0,0] 3 (by simp [deals]) (by omega) rfl (by omega) rfl
  ·obtain rfl:=nog (by omega) (by omega)
   obtain rfl:f=0:=hs rfl
   obtain rfl:tx=⟨#[]⟩:=hx rfl
   subst hT
   exact go [0] 0 (by simp [deals]) (by omega) rfl (by omega) rfl
  ·obtain rfl:=nog (by omega) (by omega)
   obtain rfl:f=0:=hs rfl
   subst hT
   exact go [0,1] 0 (by simp [deals]) (by omega) rfl (by omega) rfl
  ·obtain rfl:=nog (by omega) (by omega)
   obtain rfl:f=0:=hs rfl
   obtain rfl:tx=⟨#[]⟩:=hx rfl
   subst hT
   exact go [0] 0 (by simp [deals]) (by omega) rfl (by omega) rfl
theorem jER {L:Pool} {t:Int} (h:inP L t=false):jAT L t=(qP,false):=by
 have e:zG L t=jBV:=by simp [zG,uK h]
 have e2:zS L t=((⟨#[]⟩,0),true)∨(zS L t).2=true:=by
  right;unfold zS;have:zY L t 4=(jBV,true):=by unfold zY;rw [if_neg (by rw [h];simp)]
  rw [this];rfl
 have e3:(zS L t).2=true:=by rcases e2 with e2 | e2 <;> simp [e2]
 have:(xJ L t).2=true:=by
  unfold xJ;simp only;rw [e,if_neg (by decide),if_neg (by decide),if_pos (by simp [e3])]
 unfold jAT;rw [if_pos this]
theorem jEQ {L:Pool} (hW:Wf L) (t:Int):jAT L t=xI L t:=by
 cases hi:inP L t with
 | false =>
  rw [jER hi]
  unfold xI
  rw [if_neg (by simp [hi])]
 | true =>
  have hsz:=jMH hW _ t rfl hi
  cases hq:(xJ L t).2 with
  | false =>
   have h:=jMM hW hi hq
   have hle:¬ sizeOf L t>40:=by
    obtain ⟨_,a,b,_,e⟩:=h;have:=jJQ (xJ L t).1 a b;rw [← e] at this;omega
   have hr:=jHQ h
   have e:qE (zW L t)=((qE (zW L t)).1,true):=Prod.ext rfl hr
   have:=jIR hW hi (jAD e)
   unfold jAT xI
   rw [if_neg (by simp [hq]),if_pos ⟨hi,hle⟩,e,this]
  | true =>
   unfold jAT
   rw [if_pos hq]
   unfold xI
   split
   ·cases hr:(qE (zW L t)).2 with
    | false=>exact (jAE hr).1.symm
    | true =>
     have e:qE (zW L t)=((qE (zW L t)).1,true):=Prod.ext rfl hr
     have:=jIR hW hi (jAD e)
     rw [this] at hq;cases hq
   ·rfl
end Go.Sp
end
section
open Go Go.SE
namespace Go.Sp
theorem jML {L:Pool} (hW:Wf L) (t:Int):(jAT L t).1=qP∨qK (jAT L t).1=0:=by
 rw [jEQ hW];unfold xI;split
 ·cases h:(qE (zW L t)).2 with
  | false=>left;rw [(jAE h).1]
  | true=>right;exact (jAD (Prod.ext rfl h:qE (zW L t)=((qE (zW L t)).1,true))).1
 ·exact .inl rfl
def jLY (fs:List Fact) (who c:Int) (x:ByteArray):Int :=
 if (vI 0 fs).length+(vI 1 fs).length=0 then 2
 else match vI who fs with
  | []=>3
  | f :: _=>if f.c≠c then 4 else if f.text≠x then 5 else 0
theorem jNZ {l:Letter} (h:l=qP∨qK l=0) (who c:Int) (x:ByteArray):tQ who c x 2 (vN l)=jLY (vN l) who c x:=by
 obtain ⟨k,f,c1,x1,g⟩:=l;rcases h with h | h
 ·injection h with h1;subst h1;rfl
 obtain ⟨hk,hf,_⟩:=jBI h;unfold vN;rcases hk with rfl | rfl | rfl | rfl | rfl | rfl | rfl
 ·cases g <;> simp [Letter.fact,tQ,jLY,vI]
 ·simp only [Letter.fact,tQ,jLY,vI];by_cases hw:f=who
  ·subst hw;by_cases hc:c1=c
   ·subst hc;by_cases hx:x1=x
    ·subst hx;rcases hf with rfl | rfl <;> simp [tQ]
    ·rcases hf with rfl | rfl <;> simp [tQ,hx]
   ·rcases hf with rfl | rfl <;> simp [tQ,hc]
  ·rcases hf with rfl | rfl <;> simp [tQ,hw]
 ·simp [Letter.fact,tQ,jLY,vI]
 ·cases g <;> simp [Letter.fact,tQ,jLY,vI]
 ·simp [Letter.fact,tQ,jLY,vI]
 ·simp only [Letter.fact,tQ,jLY,vI];by_cases h0:(0:Int)=who
  ·subst h0;by_cases hc:c1=c
   ·subst hc;by_cases hx:x1=x
    ·subst hx;simp [tQ]
    ·simp [tQ,hx]
   ·simp [tQ,hc]
  ·by_cases h1:(1:Int)=who
   ·subst h1;by_cases hc:c1=c
    ·subst hc;by_cases hx:x1=x
     ·subst hx;simp [tQ]
     ·simp [tQ,hx]
    ·simp [tQ,hc]
   ·simp [tQ,h0,h1]
 ·simp [Letter.fact,tQ,jLY,vI]
end Go.Sp
namespace Go.Proofs
open Tryz
attribute [local irreducible] Calls
theorem jJM {w0 w2 w3:World} {p2:Addr} {cs:Array Value} (fs:List Sp.Fact) (n:Nat) (E:Pure w0 w2) (hn:New w2 (.cells cs 75) p2 w3) (hc:cs.toList=(fs.map yP).flatten) (hl:fs.length=n) (hm:n≤3):RetO w0 75 4 (fs.map yP) ⟨some p2,n,n⟩ w3:=by
 have R:=Rws.lit (sz:=4) hn hc (xK fs) (by simp [maxLen];omega);rw [List.length_map,hl] at R;refine ⟨R,fun b hb=>?_,E.trans (Ext.new hn)⟩;obtain ⟨a,ha,rfl⟩:=hb;cases ha;exact New.own E hn
theorem jGU (l:Sp.Letter) (w0:World) :
  Calls prog 99 #[.agg #[.int .i64 l.kind,.int .i64 l.frm,.int .u64 l.c,.string l.text,.bool l.fake]] w0 (fun e w'=>∃s:Sl,e=.returned s.v∧RetO w0 75 4 ((Sp.vN l).map yP) s w'):=by
 refine w_M3 l.kind l.frm l.c l.text l.fake w0 (fun s w'=>RetO w0 75 4 ((Sp.vN l).map yP) s w') ?_
 unfold m_M3
 have hnil:∀w',Pure w0 w'→RetO w0 75 4 (([]:List Sp.Fact).map yP) Sl.nil w':=fun w' E=>⟨Rws.nil _ _ _,fun b h=>(by obtain ⟨a,h,_⟩:=h;cases h),E⟩
 refine ⟨fun hk=>⟨fun hf H w2 hs p2 w3 h3=>?_,fun hf H w1 hs=>?_⟩,fun hk=>⟨fun hk2 H w2 hs p2 w3 h3=>?_,fun hk2=>⟨fun hk3 H w2 hs p2 w3 h3=>?_,fun hk3=>⟨fun hk4 H w8 hs p5 w9 h9=>?_,fun hk4=>⟨fun hk5 H w2 hs p2 w3 h3=>?_,fun hk5=>⟨fun hk6 H w1 hs=>?_,fun hk6 H w1 hs=>?_⟩⟩⟩⟩⟩⟩
 ·have hk:l.kind=1:=by simpa using hk
  have hf:l.fake=false:=by simpa using hf
  have e:Sp.vN l=[l.fact 1 l.frm]:=by simp [Sp.vN,hk,hf]
  rw [e];exact jJM [l.fact 1 l.frm] 1 hs.first h3 rfl rfl (by omega)
 ·have hk:l.kind=1:=by simpa using hk
  have hf:l.fake=true:=by simpa using hf
  have e:Sp.vN l=[]:=by simp [Sp.vN,hk,hf]
  rw [e];exact hnil w1 hs.first
 ·have hk2:l.kind=2:=by simpa using hk2
  have e:Sp.vN l=[l.fact 2 l.frm]:=by simp [Sp.vN,hk2]
  rw [e];exact jJM [l.fact 2 l.frm] 1 hs.first h3 rfl rfl (by omega)
 ·have hk3:l.kind=3:=by simpa using hk3
  have e:Sp.vN l=[l.fact 3 0]:=by simp [Sp.vN,hk3]
  rw [e];exact jJM [l.fact 3 0] 1 hs.first h3 rfl rfl (by omega)
 ·have hk4:l.kind=4:=by simpa using hk4
  refine ⟨fun hf=>?_,fun hf=>?_⟩
  ·have hf:l.fake=false:=by simpa using hf
   have E9:Pure w0 w9:=hs.first.trans (Ext.new h9)
   have E89:Pure w8 w9:=Ext.new h9
   refine ⟨Pure w8,E89.trans (Ext.drew w9),?_⟩
   rintro _ rfl
   refine (p_P 1 0 l.kind l.frm l.c l.text l.fake _).mono ?_
   rintro _ w11 ⟨rfl,E11⟩
   have F11:=(Ext.drew (F:=None) w9).trans E11
   refine ⟨_,_,_,_,rfl,E89.trans F11,E11.keptP,(p_P 1 1 l.kind l.frm l.c l.text l.fake _).mono ?_⟩
   rintro _ w12 ⟨rfl,E12⟩
   have F12:=F11.trans E12
   refine ⟨_,_,_,_,rfl,E89.trans F12,E12.keptP,fun p6 w13 h13=>⟨E89.trans (F12.trans (Ext.new h13)),?_⟩⟩
   have F13:=F12.trans (Ext.new (F:=None) h13)
   have R1:Rws w9 75 4 ⟨some p5,1,1⟩ [yP (l.fact 4 l.frm)]:=Rws.lit h9 rfl (xK [l.fact 4 l.frm]) (by simp [maxLen])
   have R2:Rws w13 75 4 ⟨some p6,2,2⟩ [yP (l.fact 1 0),yP (l.fact 1 1)]:=Rws.lit h13 rfl (xK [l.fact 1 0,l.fact 1 1]) (by simp [maxLen])
   obtain ⟨s,w14,hr,hR,hE,hb⟩:=(R1.pure F13).appendL (P:=prog) uJ (ty:=71) R2.lst (xK [l.fact 1 0,l.fact 1 1]) (jCJ [l.fact 1 0,l.fact 1 1]) (by simp) (by simp [maxLen])
   have hp5:w8.heap.size≤p5.block:=New.own (Ext.refl w8) h9
   have hs1:∀b,(Sl.mk (some p5) 1 1).blk b→w8.heap.size≤b:=by rintro b ⟨a,ha,rfl⟩;cases ha;exact hp5
   have F14:Pure w8 w14:=(E89.trans F13).trans' hE (fun i hi h=>by have:=hs1 i h;omega)
   have sz:=hs.first.size
   have e:Sp.vN l=[l.fact 4 l.frm]++[l.fact 1 0,l.fact 1 1]:=by simp [Sp.vN,hk4,hf]
   refine ⟨s,w14,hr,F14,hE.kept (fun b hb h=>by have:=hs1 b h;have:=hs.lt b hb;omega),?_,fun b hb'=>?_,hs.first.trans F14⟩
   ·rw [e];exact hR
   ·rcases hb b hb' with h | h
    ·have:=hs1 b h;omega
    ·have:=(E89.trans F13).size;omega
  ·have hf:l.fake=true:=by simpa using hf
   have e:Sp.vN l=[l.fact 4 l.frm]:=by simp [Sp.vN,hk4,hf]
   rw [e];exact jJM [l.fact 4 l.frm] 1 hs.first h9 rfl rfl (by omega)
 ·have hk5:l.kind=5:=by simpa using hk5
  have e:Sp.vN l=[l.fact 5 2]:=by simp [Sp.vN,hk5]
  rw [e];exact jJM [l.fact 5 2] 1 hs.first h3 rfl rfl (by omega)
 ·have hk6:l.kind=6:=by simpa using hk6
  refine ⟨Pure w1,Ext.drew w1,?_⟩
  rintro _ rfl
  refine (p_P 6 2 l.kind l.frm l.c l.text l.fake _).mono ?_
  rintro _ w11 ⟨rfl,E11⟩
  have F11:=(Ext.drew (F:=None) w1).trans E11
  refine ⟨_,_,_,_,rfl,F11,E11.keptP,(p_P 2 0 l.kind l.frm l.c l.text l.fake _).mono ?_⟩
  rintro _ w12 ⟨rfl,E12⟩
  have F12:=F11.trans E12
  refine ⟨_,_,_,_,rfl,F12,E12.keptP,(p_P 2 1 l.kind l.frm l.c l.text l.fake _).mono ?_⟩
  rintro _ w13 ⟨rfl,E13⟩
  have F13:=F12.trans E13
  refine ⟨_,_,_,_,rfl,F13,E13.keptP,fun p8 w21 h21=>⟨F13.trans (Ext.new h21),?_⟩⟩
  have e:Sp.vN l=[l.fact 6 2,l.fact 2 0,l.fact 2 1]:=by simp [Sp.vN,hk6]
  rw [e];exact jJM [l.fact 6 2,l.fact 2 0,l.fact 2 1] 3 (hs.first.trans F13) h21 rfl rfl (by omega)
 ·simp at hk hk2 hk3 hk4 hk5 hk6
  have e:Sp.vN l=[]:=by simp [Sp.vN,hk,hk2,hk3,hk4,hk5,hk6]
  rw [e];exact hnil w1 hs.first
theorem jOG {L:Sp.Pool} {t:Int} (h:Sp.inP L t=false):Sp.ofS L t=[]:=by unfold Sp.ofS Sp.ofR;rw [Sp.jER h];rfl
theorem jIX (p:Addr) (t:Int) (w0:World) {L:Sp.Pool} {F:NP} (hW:Sp.Wf L) (hP:qY w0 p L F) :
  Calls prog 43 #[.pointer (some p),.int .i64 t] w0 (fun e w'=>∃s:Sl,e=.returned s.v∧RetO w0 75 4 ((Sp.ofS L t).map yP) s w'):=by
 refine w_N3 _ _ w0 (fun s w'=>RetO w0 75 4 ((Sp.ofS L t).map yP) s w') ?_
 unfold m_N3
 have hnil:∀w',Pure w0 w'→RetO w0 75 4 (([]:List Sp.Fact).map yP) Sl.nil w':=fun w' E=>⟨Rws.nil _ _ _,fun b h=>(by obtain ⟨a,h,_⟩:=h;cases h),E⟩
 refine (yQ p t w0 hP).mono ?_
 rintro _ w1 ⟨_,rfl,rfl,hw1⟩
 have E1:Pure w0 w1:=by subst hw1;exact Ext.refl _
 refine ⟨_,rfl,E1.keptP,fun h=>?_,fun h=>?_⟩
 ·have h:Sp.inP L t=false:=by simpa using h
  rw [jOG h];exact hnil w1 E1
 refine (jCA p hW t w1 F (hP.pure E1)).mono ?_
 rintro _ w2 ⟨k,f,c,x,fk,ok,rfl,hrd,E2⟩
 rw [← Sp.jEQ hW] at hrd
 have e:Sp.ofS L t=Sp.ofR (⟨k,f,c,x,fk⟩,ok):=by unfold Sp.ofS;rw [← hrd]
 have E02:=E1.trans E2
 refine ⟨k,f,c,x,fk,ok,rfl,E2.keptP,fun h H w4 hs=>?_,fun h H w4 hs=>?_⟩
 ·have h:ok=false:=by simpa using h
  rw [e,h];exact hnil w4 (E02.hst hs)
 ·have h:ok=true:=by simpa using h
  refine (jGU ⟨k,f,c,x,fk⟩ w4).mono ?_
  rintro _ w5 ⟨s,rfl,hr⟩
  refine ⟨s,rfl,hr.kept,?_⟩
  rw [e,h]
  exact ⟨hr.rows,fun b hb=>by have:=hr.own b hb;have:=(E02.hst hs).size;omega,(E02.hst hs).trans hr.pure⟩
theorem jLP (p:Addr) (t who c:Int) (x:ByteArray) (w0:World) {L:Sp.Pool} {F:NP} (hW:Sp.Wf L) (hP:qY w0 p L F) :
  Calls prog 44 #[.pointer (some p),.int .i64 t,.int .i64 who,.int .u64 c,.string x] w0 (fun e w'=>∃r:Int,e=.returned (.int .i64 r)∧(r=Sp.jII L t who c x∧Pure w0 w')):=by
 suffices key:∀K:Int→WP,(∀w',Pure w0 w'→K (Sp.jII L t who c x) w')→m_F2 (some p) t who c x w0 K from
  w_F2 _ _ _ _ _ w0 _ (key _ (fun _ h=>⟨rfl,h⟩))
 intro K hK
 unfold m_F2
 refine (yQ p t w0 hP).mono ?_
 rintro _ w1 ⟨_,rfl,rfl,hw1⟩
 have E1:Pure w0 w1:=by subst hw1;exact Ext.refl _
 refine ⟨_,rfl,E1.keptP,fun h=>?_,fun h=>?_⟩
 ·have h:Sp.inP L t=false:=by simpa using h
  have e:Sp.jII L t who c x=1:=by unfold Sp.jII;rw [Sp.jER h];rfl
  rw [e] at hK;exact hK w1 E1
 refine (jCA p hW t w1 F (hP.pure E1)).mono ?_
 rintro _ w2 ⟨k,f,c1,x1,fk,ok,rfl,hrd,E2⟩
 rw [← Sp.jEQ hW] at hrd
 have hfrm:=Sp.jML hW t
 have e:Sp.jII L t who c x=if ok=true then Sp.tQ who c x 2 (Sp.vN ⟨k,f,c1,x1,fk⟩) else 1:=by unfold Sp.jII;rw [← hrd]
 have eO:Sp.ofS L t=Sp.ofR (⟨k,f,c1,x1,fk⟩,ok):=by unfold Sp.ofS;rw [← hrd]
 rw [← hrd] at hfrm
 have E02:=E1.trans E2
 refine ⟨k,f,c1,x1,fk,ok,rfl,E2.keptP,fun h H w4 hs=>?_,fun h H w4 hs=>?_⟩
 ·have h:ok=false:=by simpa using h
  rw [h] at e;rw [e] at hK;exact hK w4 (E02.hst hs)
 have h:ok=true:=by simpa using h
 rw [h,if_pos rfl,Sp.jNZ hfrm] at e
 have E4:=E02.hst hs
 refine (jIX p t w4 hW (hP.pure E4)).mono ?_
 rintro _ w5 ⟨r3,rfl,h3⟩
 rw [eO,h] at h3
 have h3:RetO w4 75 4 ((Sp.vN ⟨k,f,c1,x1,fk⟩).map yP) r3 w5:=h3
 have hfl:(Sp.vN ⟨k,f,c1,x1,fk⟩).length≤3:=by
  unfold Sp.vN;repeat' split
  all_goals simp
 generalize Sp.vN ⟨k,f,c1,x1,fk⟩=fs at *
 have bl:∀n,(Sp.vI n fs).length≤3:=fun n=>Nat.le_trans (List.length_filter_le _ _) hfl
 refine ⟨r3,rfl,h3.kept,(tC r3 0 fs w5 h3.rows.lst (by omega)).mono ?_⟩
 rintro _ w6 ⟨r4,rfl,h4⟩
 refine ⟨r4,rfl,h4.kept,(tC r3 1 fs w6 (h3.rows.pure h4.pure).lst (by omega)).mono ?_⟩
 rintro _ w7 ⟨r5,rfl,h5⟩
 have E7:=((E4.trans h3.pure).trans h4.pure).trans h5.pure
 have l4:r4.len=(Sp.vI 0 fs).length:=by rw [h4.rows.len];simp
 have l5:r5.len=(Sp.vI 1 fs).length:=by rw [h5.rows.len];simp
 have b0:=bl 0
 have b1:=bl 1
 refine ⟨r5,rfl,h5.kept,fun hz=>?_,fun hz=>?_⟩
 ·rw [l4,l5,i64 (by omega) (by omega)] at hz
  have hz:(Sp.vI 0 fs).length+(Sp.vI 1 fs).length=0:=by have hz:=beq_iff_eq.1 hz;omega
  rw [Sp.jLY,if_pos hz] at e
  rw [e] at hK;exact hK w7 E7
 rw [l4,l5,i64 (by omega) (by omega)] at hz
 have hz:¬ ((Sp.vI 0 fs).length+(Sp.vI 1 fs).length=0):=by simp at hz;omega
 rw [Sp.jLY,if_neg hz] at e
 refine (tC r3 who fs w7 ((h3.rows.pure h4.pure).pure h5.pure).lst (by omega)).mono ?_
 rintro _ w8 ⟨r6,rfl,h6⟩
 have E8:=E7.trans h6.pure
 have l6:r6.len=(Sp.vI who fs).length:=by rw [h6.rows.len];simp
 have hrows:=h6.rows
 refine ⟨r6,rfl,h6.kept,fun h0=>?_,fun h0=>?_⟩
 all_goals generalize Sp.vI who fs=bs at *
 ·have:bs=[]:=by rw [l6] at h0;simpa using h0
  subst this
  rw [e] at hK;exact hK w8 E8
 ·cases bs with
  | nil=>rw [l6] at h0;simp at h0
  | cons g gs =>
   obtain ⟨a,hat,hrow⟩:=hrows.nth (j:=0) (by simp)
   simp only [List.getElem_cons_zero] at hrow
   refine ⟨a,hat,_,hrow 2 (by simp [yP]),fun hc=>?_,fun hc=>⟨a,hat,_,hrow 3 (by simp [yP]),fun hx=>?_,fun hx=>?_⟩⟩
   ·simp only at e
    rw [if_pos (by simpa using hc)] at e
    rw [e] at hK;exact hK w8 E8
   ·simp only at e
    rw [if_neg (by simpa using hc),if_pos (by simpa using hx)] at e
    rw [e] at hK;exact hK w8 E8
   ·simp only at e
    rw [if_neg (by simpa using hc),if_neg (by simpa using hx)] at e
    rw [e] at hK;exact hK w8 E8
end Go.Proofs
end
section
open Go Go.SE
namespace Go.Proofs
open Tryz
attribute [local irreducible] Calls
theorem jJS (p:Addr) (w:World) {L:Sp.Pool} {F:NP} (hP:vB w p L F):Calls prog 38 #[.pointer (some p)] w (fun e w'=>∃r:Int,e=.returned (.int .i64 r)∧(r=L.length∧w'=w)):=by
 refine w_P2 _ w (fun r w'=>r=L.length∧w'=w) ?_;unfold m_P2;obtain ⟨s,m,h,_⟩:=hP;refine Br.f rfl ⟨p,rfl,s,h.box.cell0,?_,rfl⟩;have:=h.rows.len;rw [this];simp
theorem qY.lenCell {w:World} {p:Addr} {L:Sp.Pool} {F:NP} (h:qY w p L F):∃s:Sl,s.len=L.length∧∀w',Pure w w'→w'.cell? p=some s.v:=by
 obtain ⟨s1,s2,s3,h,_⟩:=h;exact ⟨s1,by rw [h.r1.len];simp,fun w' E=>(h.box.pure E).cell0⟩
theorem jAZ {S:NP} (ts:List Sp.Tree) (s:Sl) (t who c:Int) (x:ByteArray) (w0:World) (hT:TreeAt S w0 s (.mk 0 0 0 0 ⟨#[]⟩ ts)) (hS:∀b,S b→b<w0.heap.size) :
  Calls prog 9 #[.agg #[s.v,.int .i64 t,.int .i64 who,.int .u64 c,.string x]] w0 (fun e w'=>∃r:Bool,e=.returned (.bool r)∧(r=true∧Pure w0 w')):=by
 refine w_G _ _ _ _ _ w0 (fun r w'=>r=true∧Pure w0 w') ?_
 unfold m_G
 intro H1 w1 hs1
 have E1:=hs1.first
 have up:∀{w:World},Pure w0 w→∀b,S b→b<w.heap.size:=fun E b hb=>by have:=hS b hb;have:=E.size;omega
 refine (jGW ts s w1 (hT.pure E1) (up E1)).mono ?_
 rintro _ w2 ⟨z,rfl,hz,E2⟩
 refine ⟨z,rfl,E2.keptP,fun H2 w22 hs2=>?_⟩
 have E22:=(E1.trans E2).hst hs2
 unfold m_G_j1
 refine ⟨fun h=>?_,fun h=>?_⟩
 ·refine (jIZ w22).mono ?_
  rintro _ w3 ⟨_,rfl,rfl,E3⟩
  exact ⟨_,rfl,E3.keptP,rfl,E22.trans E3⟩
 obtain ⟨hn,hc⟩:=hz (by rw [Bool.or_eq_false_iff] at h;exact h.1)
 refine (jFE ts s w22 (hT.pure E22) (up E22) hn).mono ?_
 rintro _ w3 ⟨_,_,_,rfl,p,q,F1,F2,rfl,rfl,rfl,P3⟩
 refine ⟨_,_,_,rfl,P3.pure.keptP,Br.f rfl ?_⟩
 obtain ⟨hW,_⟩:=Sp.jFX ts
 generalize Sp.xB ts=L at *
 refine (jIX q t w3 hW P3.ref).mono ?_
 rintro _ w4 ⟨r5,rfl,h5⟩
 refine ⟨_,rfl,h5.kept,(jLP q t who c x w4 hW (P3.ref.pure h5.pure)).mono ?_⟩
 rintro _ w5 ⟨_,rfl,rfl,E5⟩
 have F5:=h5.pure.trans E5
 have hP5:=P3.pool.pure F5
 have hf3:=Sp.jHS L t
 have e5:=h5.rows.pure E5
 generalize hfs:Sp.ofS L t=fs at *
 refine ⟨_,rfl,E5.keptP,(jFG (some p) t w5 hP5 hW.ok).mono ?_⟩
 rintro _ w6 ⟨r7,rfl,h7⟩
 rw [hfs] at h7
 have hH2:∀b,H2 b→b<w22.heap.size:=hs2.lt
 have z3:=P3.pure.size
 have z5:=F5.size
 have z6:=h7.pure.size
 refine ⟨_,rfl,h7.kept,Pure w6,Ext.drew w6,?_⟩
 rintro _ rfl
 have Ed:Pure w6 w6.drew:=Ext.drew w6
 have e6:=e5.pure h7.pure
 refine (jBO r7 r5 fs fs _ (h7.rows.pure Ed).lst (e6.pure Ed).lst (by omega)).mono ?_
 rintro _ w14 ⟨_,rfl,rfl,E14⟩
 have F14:=Ed.trans E14
 refine ⟨_,rfl,F14,E14.keptP,Br.f (by simp) fun p2 w15 h15=>⟨F14.trans (Ext.new h15),?_⟩⟩
 have F15:=F14.trans (Ext.new (F:=None) h15)
 have R8:Rws w15 75 4 ⟨some p2,0,0⟩ (([]:List Sp.Fact).map yP):=Rws.lit (rs:=[]) h15 rfl (by simp) (by simp)
 obtain ⟨s1,w16,hrun,hR16,hE16,hb16⟩:=R8.appendL (P:=prog) uJ (ty:=71) (e6.pure F15).lst (xK _) (jCJ _) (by simp;omega) (by simp [maxLen];omega)
 have hp2:w6.heap.size≤p2.block:=New.own F14 h15
 have hblk:∀b,(Sl.mk (some p2) 0 0).blk b→w6.heap.size≤b:=fun b h=>by obtain ⟨a,ha,rfl⟩:=h;cases ha;exact hp2
 have F16:Pure w6 w16:=F15.trans' hE16 (fun i hi h=>by have:=hblk i h;omega)
 refine ⟨s1,w16,hrun,F16,hE16.kept (fun b hb hs=>by have:=hblk b hs;have:=hH2 b hb;omega),?_⟩
 have hR16:Rws w16 75 4 s1 (fs.map yP):=hR16
 refine (jJU s1 who fs w16 hR16.lst (fun b hb=>hR16.lt hb) (by omega)).mono ?_
 rintro _ w17 ⟨r14,rfl,h14⟩
 have F17:=F16.trans h14.pure
 refine ⟨_,rfl,F17,h14.kept,(tC r5 who fs w17 (e6.pure F17).lst (by omega)).mono ?_⟩
 rintro _ w18 ⟨r15,rfl,h15'⟩
 have F18:=F17.trans h15'.pure
 have hbl:(Sp.vI who fs).length≤fs.length:=List.length_filter_le _ _
 refine ⟨_,rfl,F18,h15'.kept,(jBO r14 r15 _ _ w18 (h14.rows.pure h15'.pure).lst h15'.rows.lst (by omega)).mono ?_⟩
 rintro _ w19 ⟨_,rfl,rfl,E19⟩
 have F19:=F18.trans E19
 have hPR6:=(P3.ref.pure F5).pure h7.pure
 obtain ⟨sv,hlen,hcell⟩:=hPR6.lenCell
 refine ⟨_,rfl,F19,E19.keptP,Br.f (by simp) ⟨q,rfl,sv,fun w' E=>hcell w' E,(jJS p w19 ((hP5.pure h7.pure).pure F19)).mono ?_⟩⟩
 rintro _ w20 ⟨_,rfl,rfl,hw20⟩
 have E20:Pure w19 w20:=by subst hw20;exact Ext.refl _
 have F20:=F19.trans E20
 refine ⟨_,rfl,F20,E20.keptP,?_⟩
 unfold m_G_j2
 have l7:r7.len=fs.length:=by rw [h7.rows.len];simp
 have O20:Own H2 w20 75 4 r7 (fs.map yP):=⟨h7.rows.pure F20,fun b hb hH=>by have:=h7.own b hb;have:=hH2 b hH;omega⟩
 refine Br.f (by rw [hlen];simp) ⟨fun i H w'=>∃j:Nat,i=j∧j≤fs.length∧H=H2∧Pure w5 w'∧∃gs:List Sp.Fact,gs.length=fs.length∧Own H2 w' 75 4 r7 (gs.map yP),fun i _=>((fs.length:Int) - i).toNat,⟨0,rfl,Nat.zero_le _,rfl,h7.pure.trans F20,fs,rfl,O20⟩,?_⟩
 rintro _ _ wl hl ⟨j,rfl,hj,rfl,El,gs,hg,Og⟩
 unfold m_G_l3
 refine ⟨fun h=>?_,fun h=>?_⟩
 ·have hlt:=vV l7 h
  obtain ⟨a,hat,hcw,hset⟩:=Og.rows.set (i:=j) (r:=yP ⟨-1,0,0,⟨#[]⟩⟩) (by simp;omega) rfl rfl
  refine ⟨a,hat,hcw,?_,fun w7 hw7=>?_⟩
  ·obtain ⟨_,_,b,hb,rfl⟩:=hat
   exact Og.vis _ ⟨b,hb,by rw [zU]⟩
  obtain ⟨hR,hE⟩:=hset w7 hw7
  rw [vC hlt (by omega)]
  exact ⟨⟨j+1,rfl,hlt,rfl,El.trans' hE (fun i hi h=>by have:=h7.own i h;omega),gs.set j ⟨-1,0,0,⟨#[]⟩⟩,by simpa using hg,⟨by rw [List.map_set];exact hR,Og.vis⟩⟩,yB hlt⟩
 refine (jFG (some p) t wl (hP5.pure El) hW.ok).mono ?_
 rintro _ w8 ⟨r8,rfl,h8⟩
 rw [hfs] at h8
 have F8:=El.trans h8.pure
 refine ⟨_,rfl,h8.kept,(jBO r8 r5 fs fs w8 h8.rows.lst (e5.pure F8).lst (by omega)).mono ?_⟩
 rintro _ w9 ⟨_,rfl,rfl,E9⟩
 have F9:=F8.trans E9
 refine ⟨_,rfl,E9.keptP,Br.t (by simp) ((jFF (some p) t who c x w9 (hP5.pure F9) hW.ok).mono ?_)⟩
 rintro _ w12 ⟨_,rfl,rfl,E12⟩
 have F12:=F9.trans E12
 refine ⟨_,rfl,E12.keptP,?_⟩
 unfold m_G_j4
 refine Br.t (by simp) ((jBP p t who c x w12 (hP5.pure F12) hW.ok).mono ?_)
 rintro _ w11 ⟨_,rfl,rfl,E11⟩
 have F11:=F12.trans E11
 refine ⟨_,rfl,E11.keptP,?_⟩
 unfold m_G_j5
 refine Br.t (by simp) ((jIZ w11).mono ?_)
 rintro _ w10 ⟨_,rfl,rfl,E10⟩
 exact ⟨_,rfl,E10.keptP,rfl,((((E22.trans P3.pure).trans F5).trans F11).trans E10)⟩
end Go.Proofs
end
section
namespace Go.SE
open Go.ChangeShapes Go.WideShapes Go.ChangeAt Go.RowKit
section
variable {H:Type} {enc:TypeId×Value→H} {P:Program}
theorem jBB (hl:laidOutB P=true) {W W':World} (hb:Below W.heap.size W W'):∀(ts:List TypeId) (vs:List Value) (ds:List (DataW H)) (ps:List MemPlace),(ts.all fun t=>P.readableRec t && decide (t<P.types.size))=true →
  DataW.TrodAll enc P W 0 (fun _=>true) true ts vs ds ps→(∀x∈ps,x.block<W.heap.size)→DataW.TrodAll enc P W' 0 (fun b=>decide (b<W.heap.size)) true ts vs ds ps
 | [],_,_,_,_,h,_=>by
  obtain ⟨rfl,rfl,rfl⟩:=trodAll_nil h;exact h
 | t :: ts,_,_,_,hr,h,hlt=>by
  obtain ⟨v,vs1,d,ds1,a,b,rfl,rfl,rfl,h1,h2⟩:=trodAll_cons h;simp only [List.all_cons,Bool.and_eq_true,decide_eq_true_eq] at hr;exact ⟨a,b,Below.trod hl hr.1.1 hr.1.2 h1 hb (fun x hx=>hlt x (by simp [hx])),jBB hl hb ts vs1 ds1 b (by simpa using hr.2) h2 (fun x hx=>hlt x (by simp [hx])),rfl⟩
theorem jMS {f:Func} {s:ChangeSpec} {W W':World} {args:Array Value} {ds gs:List (DataW H)} {before:List MemPlace} {t:TypeId} (hl:laidOutB P=true)
  (hv:s.vars=[]) (hf:∀ds:List (DataW H),ds.length=f.params.size→s.fn H ds={ results:=[.lit (.bool true)],args:=ds }) (hrt:f.resultTypes=#[t]) (ht:P.underlying t=some .bool)
  (hr:(f.params.toList.all fun t=>P.readableRec t && decide (t<P.types.size))=true)
  (hW:DataW.Whole enc P f.params.toList s.vars false W args.toList ds gs before) (E:Pure W W') :
  s.post enc P f false true false false W args (.bool true) W':=by
 have hW':=hW
 obtain ⟨p,q,hA,hV,rfl,hfz,hnd⟩:=hW
 rw [hv] at hV
 obtain ⟨rfl,rfl⟩:=trodVars_none hV
 have hlen:ds.length=f.params.size:=by
  have:∀(ts:List TypeId) (vs:List Value) (ds:List (DataW H)) (ps:List MemPlace),DataW.TrodAll enc P W 0 (fun _=>true) true ts vs ds ps→ds.length=ts.length:=by
   intro ts;induction ts with
   | nil=>intro vs ds ps h;obtain ⟨_,rfl,_⟩:=trodAll_nil h;rfl
   | cons t ts ih =>
    intro vs ds ps h
    obtain ⟨v,vs1,d,ds1,a,b,_,rfl,_,_,h2⟩:=trodAll_cons h
    simp [ih _ _ _ h2]
  simpa using this _ _ _ _ hA
 have hfn:=hf ds hlen
 have hfn':s.fn H (ds++[])={ results:=[.lit (.bool true)],args:=ds }:=by rw [List.append_nil];exact hfn
 have hlt:∀x∈p,x.block<W.heap.size:=fun x hx=>by simpa using hW'.lt x (by simp [hx])
 have bel:=E.below
 refine ⟨ds,[],p++[],[],p,[],hW',?_,?_,?_,bel.frame _,fun h=>by cases h⟩
 ·rw [hfn',hrt];exact trodAll_mk1 (shut_bool ht _)
 ·rw [hfn'];exact jBB hl bel _ _ _ _ hr hA hlt
 ·rw [hfn',hv];exact hV
theorem jJO {C:Checked} {os:Os} {f:FuncId} {fn:Func} {s:ChangeSpec} {t:TypeId} (hl:laidOutB C.prog=true)
  (hv:s.vars=[]) (hf:∀ds:List (DataW H),ds.length=fn.params.size→s.fn H ds={ results:=[.lit (.bool true)],args:=ds }) (hrt:fn.resultTypes=#[t]) (ht:C.prog.underlying t=some .bool)
  (hr:(fn.params.toList.all fun t=>C.prog.readableRec t && decide (t<C.prog.types.size))=true)
  (own:ownKnob C.prog.godebug=none) (started:os.Started) (noInit:C.prog.inits.idxOf? f=none) (hfn:C.prog.funcs[f]?=some fn)
  (witness:∃(w:World) (tape:Tape) (i:Input),w.os=os∧(w.forCall tape i).Shaped C.prog∧i.vars=[]∧Input.okWide C.prog (w.forCall tape i) .any w.heap.size f i ∧
   s.pre6 enc C.prog fn [] false (w.forCall tape i).memory i.args∧({}:Assume).holds C.prog (lone (Frame.enter C.prog f i.args .normal) [] (w.forCall tape i)))
  (contract:∀(W:World) (base:Nat) (args:Array Value) (ds:List (DataW H)) (p:List MemPlace),
   (∀(j:Nat) t v,fn.params[j]?=some t→args[j]?=some v→Value.okWide C.prog W .any base t v) →
   DataW.TrodAll enc C.prog W 0 (fun _=>true) true fn.params.toList args.toList ds p→(∀x∈p,x.block<W.heap.size) →
   Calls C.prog f args W (fun e W'=>∃r:Bool,e=.returned (.bool r)∧(r=true∧Pure W W'))) :
  ReturnsInHanded {} C os f .any (s.pre6 enc C.prog fn [] false) (s.post enc C.prog fn false true false false):=by
 refine returnsInHanded_of_change own started noInit hfn witness ?_
 intro W base args ds gs before hval hW _ _
 have hW':=hW
 obtain ⟨p,q,hA,hV,rfl,hfz,hnd⟩:=hW
 refine (contract W base args ds p hval hA (fun x hx=>by simpa using hW'.lt x (by simp [hx]))).mono fun e W' ⟨r,he,h1,h2⟩=>?_
 subst h1
 exact ⟨_,he,jMS hl hv hf hrt ht hr hW' h2⟩
end
end Go.SE
namespace Go.SE
open Go.ChangeShapes Go.WideShapes Go.ChangeAt Go.RowKit
section
variable {P:Program} {W:World} {r:Reach} {b0:Nat} {t:TypeId} {v:Value}
theorem jFY {fs:Array Field} {ts:List TypeId} (ht:P.underlying t=some (.struct fs)) (hc:P.cellTypes P.depth t=some ts) (hn:P.cellsOf t=ts.length) (h:Value.okWide P W r b0 t v) :
  ∃cs:Array Value,v=.agg cs∧cs.size=ts.length∧∀(i:Nat) (u:TypeId) (c:Value),ts[i]?=some u→cs[i]?=some c→Cell.okWide P W r b0 u c:=by
 unfold Value.okWide at h
 rw [ht] at h
 obtain ⟨cs,rfl,hs,ts',hts,_,hall⟩:=h
 rw [hc] at hts
 cases hts
 refine ⟨cs,rfl,hs.trans hn,fun i u c hu hcs=>?_⟩
 obtain ⟨u',hu',hok⟩:=hall i c hcs
 have hlt:i<ts.length:=(List.getElem?_eq_some_iff.1 hu).1
 rw [Nat.mod_eq_of_lt hlt,hu] at hu'
 cases hu'
 exact hok
end
end Go.SE
end
section
open Go Go.SE
namespace Go.Proofs
open Tryz
theorem tU {α β:Type} {f:α→Option β}:∀{l:List α} {r:List β},l.mapM f=some r→r.length=l.length∧∀(i:Nat) (a:α),l[i]?=some a→∃b,f a=some b∧r[i]?=some b
 | [],r,h=>by
  have:r=[]:=by simpa using h.symm
  subst this;exact ⟨rfl,fun i a h=>by simp at h⟩
 | x :: xs,r,h=>by
  rw [List.mapM_cons] at h;cases hx:f x with
  | none=>simp [hx] at h
  | some y =>
   cases hxs:xs.mapM f with
   | none=>simp [hx,hxs] at h
   | some ys =>
    have:r=y :: ys:=by simpa [hx,hxs] using h.symm
    subst this
    obtain ⟨h1,h2⟩:=tU hxs
    refine ⟨by simp [h1],fun i a ha=>?_⟩
    cases i with
    | zero=>cases ha;exact ⟨y,hx,rfl⟩
    | succ i=>exact h2 i a (by simpa using ha)
theorem jLM {w:World} {base:Nat} {a:Addr} {n:Nat} {cs:List Value} (h:w.cells? base a n=some cs):cs.length=n∧Row w a cs:=by
 obtain ⟨_,h1,h2⟩:=World.cells?_some h;exact ⟨h1,fun j hj=>h2 j (by omega)⟩
section
variable {H:Type} {enc:TypeId×Value→H} {P:Program} {W:World} {base:Nat} {sp:Nat→Bool} {held:Bool}
theorem xM {t:TypeId} {k:IntKind} (ht:P.underlying t=some (.int k)) {n:Nat} {c:Value} {x:DataW H×List MemPlace} (h:DataW.trod enc P W base sp held n t [c]=some x):∃m,c=.int k m:=by
 cases n with
 | zero=>cases h
 | succ n =>
  rw [DataW.trod_step] at h
  unfold DataW.trodStep at h
  rw [ht] at h
  cases c <;> simp at h
  obtain ⟨⟨rfl,_⟩,_⟩:=h
  exact ⟨_,rfl⟩
theorem jMF {t:TypeId} (ht:P.underlying t=some (.int .u64)) {n:Nat} {c:Value} {x:DataW H×List MemPlace} (h:DataW.trod enc P W base sp held n t [c]=some x):∃m,c=.int .u64 m∧Sp.isNum m:=by
 cases n with
 | zero=>cases h
 | succ n =>
  rw [DataW.trod_step] at h
  unfold DataW.trodStep at h
  rw [ht] at h
  cases c with
  | int k z =>
   simp only at h
   split at h
   ·rename_i hw
    obtain ⟨rfl,hw⟩:=hw
    have h1:IntKind.u64.min=0:=by rfl
    have h2:IntKind.u64.max=18446744073709551615:=by rfl
    simp only [Lit.wf,Bool.and_eq_true,decide_eq_true_eq,h1,h2] at hw
    exact ⟨z,rfl,by omega,by omega⟩
   ·cases h
  | _=>simp at h
theorem jFM {t:TypeId} (ht:P.underlying t=some .string) {n:Nat} {c:Value} {x:DataW H×List MemPlace} (h:DataW.trod enc P W base sp held n t [c]=some x):∃m,c=.string m:=by
 cases n with
 | zero=>cases h
 | succ n =>
  rw [DataW.trod_step] at h
  unfold DataW.trodStep at h
  rw [ht] at h
  cases c <;> simp at h
  exact ⟨_,rfl⟩
theorem jHH {t e:TypeId} (ht:P.underlying t=some (.slice e)) {n:Nat} {c:Value} {x:DataW H×List MemPlace} (h:DataW.trod enc P W base sp held (n+1) t [c]=some x) :
  c=.slice none 0 0∨∃a len cap,c=.slice (some a) len cap∧len≤cap∧cap≤maxLen∧∀i,i<len→∃cs y,W.cells? base (a.add (i*P.cellsOf e)) (P.cellsOf e)=some cs∧DataW.trod enc P W base sp held n e cs=some y:=by
 rw [DataW.trod_step] at h
 unfold DataW.trodStep at h
 rw [ht] at h
 cases c with
 | slice a len cap =>
  cases a with
  | none =>
   cases len with
   | zero=>cases cap with
    | zero=>exact .inl rfl
    | succ c=>simp at h
   | succ l=>simp at h
  | some a =>
   right
   simp only at h
   split at h
   ·rename_i hc
    refine ⟨a,len,cap,rfl,hc.2.1,hc.2.2,fun i hi=>?_⟩
    cases hm:(List.range len).mapM fun i=>(W.cells? base (a.add (i*P.cellsOf e)) (P.cellsOf e)).bind (DataW.trod enc P W base sp held n e) with
    | none=>rw [hm] at h;cases h
    | some r =>
     obtain ⟨b,hb,_⟩:=(tU hm).2 i i (by simp [hi])
     obtain ⟨cs,h1,h2⟩:=Option.bind_eq_some_iff.1 hb
     exact ⟨cs,b,h1,h2⟩
   ·cases h
 | _=>simp at h
structure TreeTypes (P:Program) (tS tT:TypeId):Prop where
 ex:∃ti tu ts:TypeId,∃f0 f1 f2 f3 f4 f5:Field,P.underlying tS=some (.slice tT)∧P.underlying tT=some (.struct #[f0,f1,f2,f3,f4,f5])∧P.cellsOf tT=6 ∧
  (f0.type=ti∧f1.type=ti∧f2.type=ti∧f3.type=tu∧f4.type=ts∧f5.type=tS)∧(f0.offset=0∧f1.offset=1∧f2.offset=2∧f3.offset=3∧f4.offset=4∧f5.offset=5) ∧
  P.underlying ti=some (.int .i64)∧P.underlying tu=some (.int .u64)∧P.underlying ts=some .string∧P.cellsOf ti=1∧P.cellsOf tu=1∧P.cellsOf ts=1∧P.cellsOf tS=1
theorem jKJ {tS tT:TypeId} (hTT:TreeTypes P tS tT):∀n:Nat,
  (∀(c:Value) (x:DataW H×List MemPlace),DataW.trod enc P W base sp held n tS [c]=some x→∃s:Sl,∃ts:List Sp.Tree,c=s.v∧(∀(k f t u:Int) (tx:ByteArray),TreeAt (fun _=>True) W s (.mk k f t u tx ts))∧∀i (hi:i<ts.length),Sp.NumT ts[i]) ∧
  (∀(cs:List Value) (x:DataW H×List MemPlace),DataW.trod enc P W base sp held n tT cs=some x→∃t s,cs=yH t s∧TreeAt (fun _=>True) W s t∧Sp.NumT t):=by
 obtain ⟨ti,tu,tx,f0,f1,f2,f3,f4,f5,hS,hT,hc6,⟨e0,e1,e2,e3,e4,e5⟩,⟨o0,o1,o2,o3,o4,o5⟩,ui,uu,us,ci,cu,cs1,cS⟩:=hTT.ex
 intro n
 induction n with
 | zero=>exact ⟨fun c x h=>(by cases h),fun cs x h=>(by cases h)⟩
 | succ n ih =>
  refine ⟨fun c x h=>?_,fun cs x h=>?_⟩
  ·rcases jHH hS h with rfl | ⟨a,len,cap,rfl,hle,hcm,hel⟩
   ·exact ⟨Sl.nil,[],rfl,fun k f t u tx=>.mk k f t u tx [] Sl.nil (fun _=>Sl.nil) rfl (by simp) (fun i h=>by simp at h) (fun i h=>by simp at h),fun i hi=>absurd hi (Nat.not_lt_zero i)⟩
   ·rw [hc6] at hel
    have hex:∀i,∃q:Sp.Tree×Sl,i<len→Row W (a.add (i*6)) (yH q.1 q.2)∧TreeAt (fun _=>True) W q.2 q.1∧Sp.NumT q.1:=by
     intro i;by_cases hi:i<len
     ·obtain ⟨cs,y,h1,h2⟩:=hel i hi;obtain ⟨tr,s,e,hTr⟩:=ih.2 cs y h2;exact ⟨(tr,s),fun _=>⟨e▸(jLM h1).2,hTr⟩⟩
     ·exact ⟨(Sp.Tree.mk 0 0 0 0 ⟨#[]⟩ [],Sl.nil),fun h=>absurd h hi⟩
    obtain ⟨q,hq⟩:=Classical.axiomOfChoice hex
    refine ⟨⟨some a,len,cap⟩,(List.range len).map fun i=>(q i).1,rfl,?_,fun i hi=>by rw [List.getElem_map,List.getElem_range];exact (hq i (by simpa using hi)).2.2⟩
    refine fun k f t u tx=>.mk k f t u tx _ _ (fun i=>(q i).2) (by simp) (by simp only [maxLen] at hcm;simp;omega) (fun i h=>?_) (fun i h=>?_)
    ·have hi:i<len:=by simpa using h
     refine ⟨a.add (i*6),⟨by omega,by simpa using hi,a,rfl,by simp⟩,trivial,?_⟩
     simpa using (hq i hi).1
    ·have hi:i<len:=by simpa using h
     simpa using (hq i hi).2.1
  ·rw [DataW.trod_step] at h
   unfold DataW.trodStep at h
   rw [hT] at h
   simp only at h
   split at h
   ·rename_i hl
    rw [hc6] at hl
    match cs,hl with
    | [c0,c1,c2,c3,c4,c5],_ =>
     cases hm:([f0,f1,f2,f3,f4,f5]:List Field).mapM (fun f=>DataW.trod enc P W base sp held n f.type ((([c0,c1,c2,c3,c4,c5]:List Value).drop f.offset).take (P.cellsOf f.type))) with
     | none=>rw [hm] at h;cases h
     | some r =>
      have hf:=(tU hm).2
      obtain ⟨_,h0,_⟩:=hf 0 f0 rfl
      obtain ⟨_,h1,_⟩:=hf 1 f1 rfl
      obtain ⟨_,h2,_⟩:=hf 2 f2 rfl
      obtain ⟨_,h3,_⟩:=hf 3 f3 rfl
      obtain ⟨_,h4,_⟩:=hf 4 f4 rfl
      obtain ⟨_,h5,_⟩:=hf 5 f5 rfl
      rw [e0,o0,ci] at h0;rw [e1,o1,ci] at h1;rw [e2,o2,ci] at h2;rw [e3,o3,cu] at h3;rw [e4,o4,cs1] at h4;rw [e5,o5,cS] at h5
      obtain ⟨m0,rfl⟩:=xM ui h0
      obtain ⟨m1,rfl⟩:=xM ui h1
      obtain ⟨m2,rfl⟩:=xM ui h2
      obtain ⟨m3,rfl,hu⟩:=jMF uu h3
      obtain ⟨m4,rfl⟩:=jFM us h4
      obtain ⟨s,ts,rfl,hTr,hNr⟩:=ih.1 c5 _ h5
      exact ⟨.mk m0 m1 m2 m3 m4 ts,s,rfl,hTr m0 m1 m2 m3 m4,.mk _ _ _ _ _ _ hu hNr⟩
   ·cases h
end
theorem jKK:TreeTypes prog 66 107 :=
 ⟨3,23,9,_,_,_,_,_,_,underlying66,underlying107,by kernel_rfl,⟨rfl,rfl,rfl,rfl,rfl,rfl⟩,⟨rfl,rfl,rfl,rfl,rfl,rfl⟩,underlying3,underlying23,underlying9,by kernel_rfl,by kernel_rfl,by kernel_rfl,by kernel_rfl⟩
end Go.Proofs
end
section
open Go Go.SE
namespace Go.Sp
def Dep (L:Pool) (S:List Way) (t y:Int):Prop :=
 (∃v∈S,v.t=t∧v.rule≠0∧y=v.frm)∨(t ∉ zZ S∧0<y∧(y=(madeS L S t).1∨y=(madeS L S t).2.1))
inductive Dp (L:Pool) (S:List Way):Int→Int→Prop
 | refl (t:Int):Dp L S t t
 | step {t y z:Int}:Dep L S t y→Dp L S y z→Dp L S t z
theorem Dep.way {L:Pool} {S:List Way} {t y r f:Int} (hn:(zZ S).Nodup) (hl:SE.look (S.map fun v=>(v.t,(v.rule,v.frm))) t=some (r,f)):Dep L S t y↔r≠0∧y=f:=by
 have hm:=jEX hl;obtain ⟨v,hv,e⟩:=List.mem_map.1 hm;simp only [Prod.mk.injEq] at e;obtain ⟨rfl,rfl,rfl⟩:=e;have hk:v.t∈zZ S:=List.mem_map.2 ⟨v,hv,rfl⟩;unfold Dep;constructor
 ·rintro (⟨u,hu,e,hr,rfl⟩ | ⟨h,_⟩)
  ·have hnd:((S.map fun v=>(v.t,(v.rule,v.frm))).map Prod.fst).Nodup:=by rw [List.map_map];exact hn
   have h2:=jHT hnd (List.mem_map.2 ⟨u,hu,rfl⟩);rw [e,hl] at h2;simp only [Option.some.injEq,Prod.mk.injEq] at h2;exact ⟨by rw [h2.1];exact hr,h2.2.symm⟩
  ·exact absurd hk h
 ·rintro ⟨h1,rfl⟩;exact .inl ⟨v,hv,rfl,h1,rfl⟩
theorem Dp.all {L:Pool} {S:List Way} {M:List Step} (hc:∀s∈M,∀y,Dep L S s.t y→y∈M.map Step.t) {t x:Int} (ht:t∈M.map Step.t) (h:Dp L S t x):x∈M.map Step.t:=by
 induction h with
 | refl=>exact ht
 | step hd _ ih =>
  obtain ⟨s,hs,rfl⟩:=List.mem_map.1 ht
  exact ih (hc s hs _ hd)
end Go.Sp
namespace Go.Proofs
open Tryz
attribute [local irreducible] Calls
def strow (s:Sp.Step):List Value:=[.int .i64 s.rule,.int .i64 s.a,.int .i64 s.b,.int .i64 s.t]
def tru (_:Unit):Value:=.bool true
def bmap (B:List Int):List (Int×Unit):=B.map fun t=>(t,())
theorem jLX (B:List Int) (t:Int):bmap (B++[t])=bmap B++[(t,())]:=by simp [bmap]
def PW (ma mb:Nat) (c5:Addr) (sl:Sl) (b:Nat):Prop:=b=ma∨b=mb∨b=c5.block∨sl.blk b
def says (f:FuncId) (c1 c2 c3 c4 c5:Addr):Value:=.func (.func f) #[] #[.pointer (some c1),.pointer (some c2),.pointer (some c3),.pointer (some c4),.pointer (some c5)]
structure PrfAt (w:World) (k:Addr) (c1 c2 c3 c4 c5:Addr) (ma mb:Nat) (sl:Sl) (l:List Sp.Step) (B:List Int):Prop where
 a1:w.cell? c1=some (.map (some ma))
 a2:w.cell? c2=some (.map (some mb))
 a3:w.cell? c3=some (.pointer (some k))
 a4:w.cell? c4=some (says 188 c1 c2 c3 c4 c5)
 a5:Box w c5 [sl.v] 216
 am:IMap jIT w ma (Sp.amap l)
 bm:IMap tru w mb (bmap B)
 ls:Rws w 220 4 sl (l.map strow)
 d:∀b,PW ma mb c5 sl b→b≠c1.block∧b≠c2.block∧b≠c3.block∧b≠c4.block
 n1:ma≠mb
 n2:ma≠c5.block
 n3:mb≠c5.block
 n4:¬ sl.blk ma
 n5:¬ sl.blk mb
 n6:¬ sl.blk c5.block
structure SaysAt (w:World) (k p:Addr) (c1 c2 c3 c4 c5:Addr) (ma mb:Nat) (L:Sp.Pool) (G:List Int) (S:List Sp.Way) (F FP:NP) (sl:Sl) (l:List Sp.Step) (B:List Int):Prop where
 prf:PrfAt w k c1 c2 c3 c4 c5 ma mb sl l B
 know:qL w k p G S F
 pool:vB w p L FP
 dF:∀b,F b→¬ PW ma mb c5 sl b
 dP:∀b,FP b→¬ PW ma mb c5 sl b
section
variable {w w':World} {k p c1 c2 c3 c4 c5:Addr} {ma mb:Nat} {L:Sp.Pool} {G:List Int} {S:List Sp.Way} {F FP:NP} {sl:Sl} {l:List Sp.Step} {B:List Int}
theorem PrfAt.ext {X:NP} (h:PrfAt w k c1 c2 c3 c4 c5 ma mb sl l B) (hE:Ext X w w') (h1:∀b,PW ma mb c5 sl b→¬ X b) (x1:¬ X c1.block) (x2:¬ X c2.block) (x3:¬ X c3.block) (x4:¬ X c4.block):PrfAt w' k c1 c2 c3 c4 c5 ma mb sl l B :=
 ⟨hE.cell h.a1 x1,hE.cell h.a2 x2,hE.cell h.a3 x3,hE.cell h.a4 x4,h.a5.ext hE (h1 _ (.inr (.inr (.inl rfl)))),h.am.ext hE (h1 _ (.inl rfl)),h.bm.ext hE (h1 _ (.inr (.inl rfl))),h.ls.ext hE (fun b hb=>h1 b (.inr (.inr (.inr hb)))),h.d,h.n1,h.n2,h.n3,h.n4,h.n5,h.n6⟩
theorem PrfAt.lt (h:PrfAt w k c1 c2 c3 c4 c5 ma mb sl l B) {b:Nat} (hb:PW ma mb c5 sl b):b<w.heap.size:=by
 rcases hb with rfl | rfl | rfl | hb
 ·exact h.am.lt
 ·exact h.bm.lt
 ·exact h.a5.lt
 ·exact h.ls.lt hb
theorem SaysAt.ext {X:NP} {n:Nat} (h:SaysAt w k p c1 c2 c3 c4 c5 ma mb L G S F FP sl l B) (hE:Ext X w w') (hn:∀b,X b→n≤b) (z1:∀b,PW ma mb c5 sl b→b<n∨¬ X b) (zc:c1.block<n∧c2.block<n∧c3.block<n∧c4.block<n) (zF:∀b,F b→b<n) (zP:∀b,FP b→b<n):SaysAt w' k p c1 c2 c3 c4 c5 ma mb L G S F FP sl l B:=by
 have hx:∀b,b<n→¬ X b:=fun b hb hX=>by have:=hn b hX;omega
 exact ⟨h.prf.ext hE (fun b hb=>(z1 b hb).elim (hx b) id) (hx _ zc.1) (hx _ zc.2.1) (hx _ zc.2.2.1) (hx _ zc.2.2.2),h.know.ext hE (fun b hb=>hx b (zF b hb)),h.pool.ext hE (fun b hb=>hx b (zP b hb)),h.dF,h.dP⟩
theorem SaysAt.pure (h:SaysAt w k p c1 c2 c3 c4 c5 ma mb L G S F FP sl l B) (E:Pure w w'):SaysAt w' k p c1 c2 c3 c4 c5 ma mb L G S F FP sl l B :=
 ⟨h.prf.ext E (fun _ _ h=>h) (fun h=>h) (fun h=>h) (fun h=>h) (fun h=>h),h.know.pure E,h.pool.pure E,h.dF,h.dP⟩
theorem SaysAt.zc (h:SaysAt w k p c1 c2 c3 c4 c5 ma mb L G S F FP sl l B):c1.block<w.heap.size∧c2.block<w.heap.size∧c3.block<w.heap.size∧c4.block<w.heap.size :=
 ⟨World.block_lt_of_cell? w _ h.prf.a1,World.block_lt_of_cell? w _ h.prf.a2,World.block_lt_of_cell? w _ h.prf.a3,World.block_lt_of_cell? w _ h.prf.a4⟩
theorem PrfAt.bar (h:PrfAt w k c1 c2 c3 c4 c5 ma mb sl l B) (t:Int):∃w',(Instr.mapUpdate 278 (.map (some mb)) (.int .i64 t) (.bool true)).run prog w=.ok () w'∧(∃B',(B'=B∨B'=B++[t])∧PrfAt w' k c1 c2 c3 c4 c5 ma mb sl l B')∧Ext (·=mb) w w':=by
 have hd:=h.d mb (.inr (.inl rfl));have back:∀{w':World} {B':List Int},IMap tru w' mb (bmap B')→Ext (·=mb) w w'→PrfAt w' k c1 c2 c3 c4 c5 ma mb sl l B':=fun hI hE =>
  ⟨hE.cell h.a1 (fun e=>hd.1 e.symm),hE.cell h.a2 (fun e=>hd.2.1 e.symm),hE.cell h.a3 (fun e=>hd.2.2.1 e.symm),hE.cell h.a4 (fun e=>hd.2.2.2 e.symm),h.a5.ext hE (fun e=>h.n3 e.symm),h.am.ext hE h.n1,hI,h.ls.ext hE (fun b hb e=>h.n5 (e▸hb)),h.d,h.n1,h.n2,h.n3,h.n4,h.n5,h.n6⟩
 cases hl:SE.look (bmap B) t with
 | none =>
  obtain ⟨w',h1,h2,h3⟩:=h.bm.put (P:=prog) (T:=278) underlying278 underlying78 hl ()
  exact ⟨w',h1,⟨_,.inr rfl,back (by rw [jLX];exact h2) h3⟩,h3⟩
 | some v =>
  cases v
  obtain ⟨w',h1,h2,h3⟩:=h.bm.again (P:=prog) (T:=278) underlying278 underlying78 hl
  exact ⟨w',h1,⟨_,.inl rfl,back h2 h3⟩,h3⟩
end
structure SaysRet (w0:World) (k p:Addr) (c1 c2 c3 c4 c5:Addr) (ma mb:Nat) (L:Sp.Pool) (G:List Int) (S:List Sp.Way) (F FP:NP) (sl:Sl) (l:List Sp.Step) (t r:Int) (ok:Bool) (w':World) (sl':Sl) (M:List Sp.Step) (B':List Int):Prop where
 st:SaysAt w' k p c1 c2 c3 c4 c5 ma mb L G S F FP sl' (l++M) B'
 prf:Sp.PrfOk L G (fun x=>x∈Sp.zZ S) (l++M) B'
 new:∀s∈M,Sp.jNM S s.t≤Sp.jNM S t∧(Sp.Sub L t s.t∨s.t∈Sp.zZ S)
 idx:ok=true→∃i,r=((i:Nat):Int)∧∃hi:i<(l++M).length,(l++M)[i].t=t
 drv:ok=true↔Sp.Drv L (fun x=>x∈Sp.zZ S) t
 ext:Ext (PW ma mb c5 sl) w0 w'
 own:∀b,sl'.blk b→sl.blk b∨w0.heap.size≤b
 last:ok=true→M=[]∨Sp.tAt (l++M) (((l++M).length:Int) - 1)=t
 dp:∀s∈M,Sp.Dp L S t s.t
 cl:∀s∈M,∀y,Sp.Dep L S s.t y→y∈(l++M).map Sp.Step.t
structure SaysCur (w0:World) (H:NP) (w:World) (k p:Addr) (c1 c2 c3 c4 c5:Addr) (ma mb:Nat) (L:Sp.Pool) (G:List Int) (S:List Sp.Way) (F FP:NP) (sl:Sl) (l:List Sp.Step) (t:Int) (sl1:Sl) (M B:_):Prop where
 st:SaysAt w k p c1 c2 c3 c4 c5 ma mb L G S F FP sl1 (l++M) B
 prf:Sp.PrfOk L G (fun x=>x∈Sp.zZ S) (l++M) B
 new:∀s∈M,Sp.jNM S s.t<Sp.jNM S t∧(Sp.Sub L t s.t∨s.t∈Sp.zZ S)
 ext:Ext (PW ma mb c5 sl) w0 w
 own:∀b,sl1.blk b→sl.blk b∨w0.heap.size≤b
 vis:∀b,sl1.blk b→¬ H b
 hs:Hst w0 H w H w
 dp:∀s∈M,Sp.Dp L S t s.t
 cl:∀s∈M,∀y,Sp.Dep L S s.t y→y∈(l++M).map Sp.Step.t
section
variable {w0 w w':World} {H H':NP} {k p c1 c2 c3 c4 c5:Addr} {ma mb:Nat} {L:Sp.Pool} {G:List Int} {S:List Sp.Way} {F FP:NP} {sl sl1 sl2:Sl} {l M M2:List Sp.Step} {B0 B B2:List Int} {t:Int}
theorem PW.old (h:SaysAt w0 k p c1 c2 c3 c4 c5 ma mb L G S F FP sl l B0) (ho:∀b,sl1.blk b→sl.blk b∨w0.heap.size≤b):∀b,PW ma mb c5 sl1 b→b<w0.heap.size→PW ma mb c5 sl b:=by
 rintro b (hb | hb | hb | hb) hlt
 ·exact .inl hb
 ·exact .inr (.inl hb)
 ·exact .inr (.inr (.inl hb))
 ·exact (ho b hb).elim (fun h=>.inr (.inr (.inr h))) (fun h=>by omega)
theorem SaysCur.nh (h:SaysCur w0 H w k p c1 c2 c3 c4 c5 ma mb L G S F FP sl l t sl1 M B) (h0:SaysAt w0 k p c1 c2 c3 c4 c5 ma mb L G S F FP sl l B0):∀b,PW ma mb c5 sl1 b→¬ H b:=by
 have old:∀b,b<w0.heap.size→¬ H b:=fun b hb hh=>by have:=h.hs.old b hh;omega
 rintro b (rfl | rfl | rfl | hb)
 ·exact old _ (h0.prf.lt (.inl rfl))
 ·exact old _ (h0.prf.lt (.inr (.inl rfl)))
 ·exact old _ (h0.prf.lt (.inr (.inr (.inl rfl))))
 ·exact h.vis b hb
theorem SaysCur.hst (h:SaysCur w0 H w k p c1 c2 c3 c4 c5 ma mb L G S F FP sl l t sl1 M B) (h0:SaysAt w0 k p c1 c2 c3 c4 c5 ma mb L G S F FP sl l B0) (hs:Hst w0 H w H' w'):SaysCur w0 H' w' k p c1 c2 c3 c4 c5 ma mb L G S F FP sl l t sl1 M B:=by
 have dj:=hs.disj (G:=PW ma mb c5 sl1) (fun b hb=>⟨h.st.prf.lt hb,h.nh h0 b hb⟩);exact ⟨h.st.ext hs.ext hs.old (fun b hb=>.inr (dj b hb)) h0.zc (fun b hb=>h0.know.lt hb) (fun b hb=>h0.pool.lt hb),h.prf,h.new,h.ext.hst hs,h.own,fun b hb=>dj b (.inr (.inr (.inr hb))),hs.here,h.dp,h.cl⟩
theorem SaysCur.step {u r:Int} {ok:Bool} (h:SaysCur w0 H w k p c1 c2 c3 c4 c5 ma mb L G S F FP sl l t sl1 M B) (h0:SaysAt w0 k p c1 c2 c3 c4 c5 ma mb L G S F FP sl l B0) (hr:SaysRet w k p c1 c2 c3 c4 c5 ma mb L G S F FP sl1 (l++M) u r ok w' sl2 M2 B2) (hu:Sp.jNM S u<Sp.jNM S t) (hsub:Sp.Sub L t u∨u∈Sp.zZ S) (hcl:∀x,u∈Sp.zZ S→Sp.jNM S x≤Sp.jNM S u→x∈Sp.zZ S) (hdep:Sp.Dep L S t u) :
  Kept H w w'∧SaysCur w0 H w' k p c1 c2 c3 c4 c5 ma mb L G S F FP sl l t sl2 (M++M2) B2:=by
 have hk:Kept H w w':=hr.ext.kept (fun b hb hx=>h.nh h0 b hx hb)
 refine ⟨hk,by rw [← List.append_assoc];exact hr.st,by rw [← List.append_assoc];exact hr.prf,fun s hs=>?_,h.ext.trans' hr.ext (fun i hi hb=>PW.old h0 h.own i hb hi),fun b hb=>?_,fun b hb hh=>?_,h.hs.again hk,fun s hs=>?_,fun s hs y hy=>?_⟩
 ·rcases List.mem_append.1 hs with hs | hs
  ·exact h.new s hs
  ·obtain ⟨q1,q2⟩:=hr.new s hs
   refine ⟨by omega,?_⟩
   rcases q2 with q2 | q2
   ·rcases hsub with h1 | h1
    ·exact .inl (h1.trans q2)
    ·exact .inr (hcl _ h1 q1)
   ·exact .inr q2
 ·rcases hr.own b hb with h1 | h1
  ·exact h.own b h1
  ·right;have:=h.ext.size;omega
 ·rcases hr.own b hb with h1 | h1
  ·exact h.vis b h1 hh
  ·have:=h.hs.lt b hh;omega
 ·rcases List.mem_append.1 hs with hs | hs
  ·exact h.dp s hs
  ·exact .step hdep (hr.dp s hs)
 ·rw [← List.append_assoc]
  rcases List.mem_append.1 hs with hs | hs
  ·rw [List.map_append];exact List.mem_append_left _ (h.cl s hs y hy)
  ·exact hr.cl s hs y hy
end
end Go.Proofs
end
section
open Go Go.SE
namespace Go.Proofs
section
variable {H:Type} {enc:TypeId×Value→H} {P:Program} {W:World} {base:Nat} {sp:Nat→Bool} {held:Bool}
theorem jHI {t:TypeId} {fs:Array Field} (ht:P.underlying t=some (.struct fs)) {n:Nat} {cs:List Value} {x:DataW H×List MemPlace} (h:DataW.trod enc P W base sp held n t cs=some x) :
  ∃m,cs.length=P.cellsOf t∧∀(i:Nat) (f:Field),fs.toList[i]?=some f→∃y,DataW.trod enc P W base sp held m f.type ((cs.drop f.offset).take (P.cellsOf f.type))=some y:=by
 cases n with
 | zero=>cases h
 | succ n =>
  rw [DataW.trod_step] at h
  unfold DataW.trodStep at h
  rw [ht] at h
  simp only at h
  split at h
  ·rename_i hl
   cases hm:fs.toList.mapM (fun f=>DataW.trod enc P W base sp held n f.type ((cs.drop f.offset).take (P.cellsOf f.type))) with
   | none=>rw [hm] at h;cases h
   | some r =>
    refine ⟨n,hl,fun i f hf=>?_⟩
    obtain ⟨b,hb,_⟩:=(tU hm).2 i f hf
    exact ⟨b,hb⟩
  ·cases h
end
section
variable {H:Type} {enc:TypeId×Value→H} {W:World} {base:Nat} {sp:Nat→Bool} {held:Bool}
end
end Go.Proofs
end
