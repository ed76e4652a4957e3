import Derived.Test.YtodiipjdnnnieaaGreatProg
import Derived.KernelRfl
import Derived.Test.YtodiipjdnnnieaaGreatPa3
import Derived.Test.YtodiipjdnnnieaaGreatPa6
import Derived.Test.YtodiipjdnnnieaaGreatPa4
import Derived.Test.YtodiipjdnnnieaaGreatPa5
import Derived.ProofKit
import Derived.Carry
import Derived.OpenShut
import Derived.Stop.Joined
section
open Go Go.SE
open Go.IntKind renaming i64 → q6
namespace Go.Proofs
open Tryz
set_option maxRecDepth 100000
set_option maxHeartbeats 4000000
attribute [local irreducible] wpL wpX opE wpE Calls
def m_P1_l1 (path1:Sl) (i1 aV:Int) (aW bL bM:Int) (aX:ByteArray) (bN:Sl) (aK aL:Int) (aY aZ:Int) (aM:ByteArray) (aU:Sl) (w0:World) (Hl1:NP) (wl1:World) (Kc1:Int→Int→Int→Int→Int→ByteArray→Sl→Int→Int→Int→Int→ByteArray→Sl→NP→WP) (K:Int→Int→Int→Int→ByteArray→Sl→WP):Prop :=Br (decide (i1<(path1.len:Int))) (∃a1:Addr,At path1 i1 1 a1∧∀w3,Hst w0 Hl1 wl1 Hl1 w3→∃v1,w3.cell? a1=some (vi v1)∧Br (decide (v1≥(aU.len:Int))) (∀w4,Hst w0 Hl1 w3 Hl1 w4→K 0 0 0 0 ⟨#[]⟩ Sl.nil w4) (∃a2:Addr,At path1 i1 1 a2∧∃v2,w3.cell? a2=some (vi v2)∧¬ Hl1 a2.block∧∃a3:Addr,At aU v2 6 a3∧∃bF bG bH bI bJ bK,Row w3 a3 (Ab bF bG bH bI bJ bK)∧¬ Hl1 a3.block∧∀H3 w7,Hst w0 Hl1 w3 H3 w7→Kc1 (q6.wrap (i1+1)) aV aW bL bM aX bN bF bG bH bI bJ bK H3 w7)) (∀w9,Hst w0 Hl1 wl1 Hl1 w9→K aK aL aY aZ aM aU w9)
def m_P1 (aE aC:Int) (aF aG:Int) (aH:ByteArray) (aI path1:Sl) (w0:World) (K:Int→Int→Int→Int→ByteArray→Sl→WP):Prop :=∀H2 w2,Hst w0 None w0 H2 w2→∃(I1:Int→Int→Int→Int→Int→ByteArray→Sl→Int→Int→Int→Int→ByteArray→Sl→NP→WP) (mu1:Int→Int→Int→Int→Int→ByteArray→Sl→Int→Int→Int→Int→ByteArray→Sl→World→Nat),I1 0 0 0 0 0 ⟨#[]⟩ Sl.nil aE aC aF aG aH aI H2 w2∧∀(i1 aV:Int) (aW bL bM:Int) (aX:ByteArray) (bN:Sl) (aK aL:Int) (aY aZ:Int) (aM:ByteArray) (aU:Sl) (Hl1:NP) (wl1:World),Hst w0 Hl1 wl1 Hl1 wl1→I1 i1 aV aW bL bM aX bN aK aL aY aZ aM aU Hl1 wl1→m_P1_l1 path1 i1 aV aW bL bM aX bN aK aL aY aZ aM aU w0 Hl1 wl1 (fun y'0 y'1 y'2 y'3 y'4 y'5 y'6 y'7 y'8 y'9 y'10 y'11 y'12 H' w'=>I1 y'0 y'1 y'2 y'3 y'4 y'5 y'6 y'7 y'8 y'9 y'10 y'11 y'12 H' w'∧mu1 y'0 y'1 y'2 y'3 y'4 y'5 y'6 y'7 y'8 y'9 y'10 y'11 y'12 w'<mu1 i1 aV aW bL bM aX bN aK aL aY aZ aM aU wl1) K
theorem w_P1 (aE aC aF aG aH aI path1 w0 K) (h:m_P1 aE aC aF aG aH aI path1 w0 K):
  Calls prog 163 #[(.agg #[(vi aE),(vi aC),(vi aF),(vu aG),(vs aH),aI.v]),path1.v] w0 (fun e w'=>∃bO bP bQ bR bS bT,e=.returned (Aa bO bP bQ bR bS bT)∧K bO bP bQ bR bS bT w'):=by
 refine cw (args:=[(Aa aE aC aF aG aH aI),path1.v]) func163 ntmps163 ?_
 obtain ⟨hs,hb⟩:=st0 w0
 refine eg (nw3 (Ab aE aC aF aG aH aI) 107 hs hb xb fun p1 w1 H1 hs hb=>nw3 [(vi 0),(vi 0),(vi 0),(vu 0),ve,Sl.nil.v] 107 hs hb (zH (zeroValue107 _) rfl) fun p2 w2 H2 hs hb=>ln (zA (eg (q (ln (zK ?_))))))
 have ⟨h,hs⟩:=hs.hr (h H2 w2)
 obtain ⟨I1,mu1,h0,hr⟩:=h
 refine vQ (σ:=Int×Int×Int×Int×Int×ByteArray×Sl×Int×Int×Int×Int×ByteArray×Sl×NP×World) (fun s ρ w=>w=s.2.2.2.2.2.2.2.2.2.2.2.2.2.2∧Has ρ [(1,path1.v),(2,(vp (some p1))),(4,(vp (some p2))),(5,(vi s.1))]∧Hst w0 s.2.2.2.2.2.2.2.2.2.2.2.2.2.1 w s.2.2.2.2.2.2.2.2.2.2.2.2.2.1 w∧HB s.2.2.2.2.2.2.2.2.2.2.2.2.2.1 w [(p2,[(vi s.2.1),(vi s.2.2.1),(vi s.2.2.2.1),(vu s.2.2.2.2.1),(vs s.2.2.2.2.2.1),s.2.2.2.2.2.2.1.v],107),(p1,[(vi s.2.2.2.2.2.2.2.1),(vi s.2.2.2.2.2.2.2.2.1),(vi s.2.2.2.2.2.2.2.2.2.1),(vu s.2.2.2.2.2.2.2.2.2.2.1),(vs s.2.2.2.2.2.2.2.2.2.2.2.1),s.2.2.2.2.2.2.2.2.2.2.2.2.1.v],107)]∧I1 s.1 s.2.1 s.2.2.1 s.2.2.2.1 s.2.2.2.2.1 s.2.2.2.2.2.1 s.2.2.2.2.2.2.1 s.2.2.2.2.2.2.2.1 s.2.2.2.2.2.2.2.2.1 s.2.2.2.2.2.2.2.2.2.1 s.2.2.2.2.2.2.2.2.2.2.1 s.2.2.2.2.2.2.2.2.2.2.2.1 s.2.2.2.2.2.2.2.2.2.2.2.2.1 s.2.2.2.2.2.2.2.2.2.2.2.2.2.1 s.2.2.2.2.2.2.2.2.2.2.2.2.2.2) (fun s=>mu1 s.1 s.2.1 s.2.2.1 s.2.2.2.1 s.2.2.2.2.1 s.2.2.2.2.2.1 s.2.2.2.2.2.2.1 s.2.2.2.2.2.2.2.1 s.2.2.2.2.2.2.2.2.1 s.2.2.2.2.2.2.2.2.2.1 s.2.2.2.2.2.2.2.2.2.2.1 s.2.2.2.2.2.2.2.2.2.2.2.1 s.2.2.2.2.2.2.2.2.2.2.2.2.1 s.2.2.2.2.2.2.2.2.2.2.2.2.2.2) (0,0,0,0,0,⟨#[]⟩,Sl.nil,aE,aC,aF,aG,aH,aI,H2,w2) ⟨rfl,hm,hs,hb,h0⟩ ?_
 rintro ⟨i1,aV,aW,bL,bM,aX,bN,aK,aL,aY,aZ,aM,aU,Hl1,wl1⟩ ρ w ⟨hw,hH,hs,hb,hI⟩
 dsimp only at hw hH hs hb;subst w
 have h:=hr i1 aV aW bL bM aX bN aK aL aY aZ aM aU Hl1 wl1 hs hI
 refine zV hH (zA (eg (qd (ln (cbr h ?_ ?_)))))<;>intro h
 refine zB (zL (zA (zK (zA (zA (uU (by kernel_rfl) (by kernel_rfl) (by kernel_rfl) (by kernel_rfl) ?_))))))
 intro w3 hw3
 have hs:Hst w0 Hl1 wl1 Hl1 w3:=by rw [hw3];exact hs.drew
 have hb:HB Hl1 w3 [(p2,(Ab aV aW bL bM aX bN),107),(p1,(Ab aK aL aY aZ aM aU),107)]:=by rw [hw3];exact hb.drew
 refine qq 0 path1.v Kp0 (qq 1 (vi i1) Kp1 (qg 2 ?_))
 obtain ⟨a1,hv6,h⟩:=h
 refine sxQ Kp2 (zR rfl) rfl (xi (runUnderlying42 _) (sizeOf3 _) hv6) (qg 3 ?_)
 have ⟨h,hs⟩:=hs.hr (h w3)
 obtain ⟨v1,hv5,h⟩:=h
 refine sxQ Kp3 (zR rfl) rfl (xl (isAgg3 _) hv5) (qq 4 (vp (some (p1.add 5))) Kp4 (qr 5 aU.v Kp5 (xl (isAgg66 _) (hb.c 1 5 (gS gZ))) (qq 6 (vi (aU.len:Int)) Kp6 (qq 7 (vb (decide (v1≥(aU.len:Int)))) Kp7 (wn (zL (cbr h ?_ ?_)))))))<;>intro h
 refine eg (q (vU (zR rfl) (xo p2 [(vi 0),(vi 0),(vi 0),(vu 0),ve,Sl.nil.v] (sizeOf107 _) (hb.k0 0 6 gZ)) ?_))
 intro w4 hn3
 obtain ⟨hs,hb⟩:=hb.st1 0 hs hn3 gZ
 refine ln (er (zX (qW (zX (zX (qW (zX ?_)))))))
 have ⟨h,hs⟩:=hs.hr (h w4)
 refine tH (.inl rfl) (vs:=[(.agg #[(vi 0),(vi 0),(vi 0),(vu 0),ve,Sl.nil.v])]) (v:=(.agg #[(vi 0),(vi 0),(vi 0),(vu 0),ve,Sl.nil.v])) results163 ⟨(rva (isAgg107 _) (sizeOf107 _) (hb.r0 0 6 gZ)),trivial⟩ (by kernel_rfl) ⟨0,0,0,0,⟨#[]⟩,Sl.nil,rfl,h⟩
 refine zB (zL (jAD (fun x=>∃H',Hst w0 Hl1 w3 H' x∧HB H' x [(p2,(Ab aV aW bL bM aX bN),107),(p1,(Ab aK aL aY aZ aM aU),107)]) [8] [8] (by kernel_rfl) (by kernel_rfl) (by kernel_rfl) (by kernel_rfl) ⟨_,hs.drew,hb.drew⟩ ?_))
 intro w5 hw5
 have hs:Hst w0 Hl1 w3 Hl1 w5:=by rw [hw5];exact hs.drew
 have hb:HB Hl1 w5 [(p2,(Ab aV aW bL bM aX bN),107),(p1,(Ab aK aL aY aZ aM aU),107)]:=by rw [hw5];exact hb.drew
 refine qx 0 (vp (some (p1.add 5))) Kp0 (qz 1 aU.v Kp1 (fun w' hw'=>(by obtain ⟨H',hs',hb'⟩:=hw';exact (xl (isAgg66 _) (hb'.cell 1 5 (gS gZ) (by kernel_rfl))))) (qx 2 path1.v Kp2 (qx 3 (vi i1) Kp3 (qg 4 ?_))))
 obtain ⟨a2,hv4,h⟩:=h
 refine sy Kp4 (fun _ _=>xi (runUnderlying42 _) (sizeOf3 _) hv4) (qg 5 ?_)
 obtain ⟨v2,hv3,hnh,h⟩:=h
 refine sy (v:=(vi v2)) Kp5 (fun w' hw'=>by obtain ⟨H',hs',hb'⟩:=hw';exact (xl (isAgg3 _) (jKH hv3 hnh hs'))) (qg 6 ?_)
 obtain ⟨a3,hv2,h⟩:=h
 refine sy Kp6 (fun _ _=>xi (runUnderlying66 _) (sizeOf107 _) hv2) (qg 7 ?_)
 obtain ⟨bF,bG,bH,bI,bJ,bK,hv1,hnh,h⟩:=h
 refine sy (v:=(Aa bF bG bH bI bJ bK)) Kp7 (fun w' hw'=>by obtain ⟨H',hs',hb'⟩:=hw';exact (xa a3 (Ab bF bG bH bI bJ bK) (isAgg107 _) (sizeOf107 _) (jMB hv1 hnh hs'))) (jPO (fun ρ wJ=>∃HJ:NP,Hst w0 Hl1 w3 HJ wJ∧HB HJ wJ [(p2,(Ab aV aW bL bM aX bN),107),(p1,(Ab bF bG bH bI bJ bK),107)]∧Has ρ [(1,path1.v),(2,(vp (some p1))),(4,(vp (some p2))),(5,(vi i1))]) ?_ ?_)
 refine lg 8 (xL Kp8 (zR rfl) (by kernel_rfl) (xo p1 (Ab bF bG bH bI bJ bK) (sizeOf107 _) (hb.k0 1 6 (gS gZ))) ?_)
 intro w8 hn5
 obtain ⟨hs,hb⟩:=hb.st1 1 hs hn5 (gS gZ)
 refine ⟨.inl (by kernel_rfl),?_⟩
 refine wn ⟨_,hs,hb,hm⟩
 rintro ρ w7 ⟨H3,hs,hb,hH⟩
 refine q_has hH (uM (zL (rg (qc (zC ?_)))))
 have ⟨h,hs⟩:=hs.hr (h H3 w7)
 refine zL ⟨((q6.wrap (i1+1)),aV,aW,bL,bM,aX,bN,bF,bG,bH,bI,bJ,bK,H3,w7),⟨rfl,hm,hs,hb,h.1⟩,h.2⟩
 refine vO (uI (uI (uD (zL (eg (q2 (Aa aK aL aY aZ aM aU) (xa p1 (Ab aK aL aY aZ aM aU) (isAgg107 _) (sizeOf107 _) (hb.r0 1 6 (gS gZ))) (vU (zR rfl) (xo p2 (Ab aK aL aY aZ aM aU) (sizeOf107 _) (hb.k0 0 6 gZ)) ?_)))))))
 intro w9 hn6
 obtain ⟨hs,hb⟩:=hb.st1 0 hs hn6 gZ
 refine ln (er ?_)
 have ⟨h,hs⟩:=hs.hr (h w9)
 refine tH (.inl rfl) (vs:=[(Aa aK aL aY aZ aM aU)]) (v:=(Aa aK aL aY aZ aM aU)) results163 ⟨(rva (isAgg107 _) (sizeOf107 _) (hb.r0 0 6 gZ)),trivial⟩ (by kernel_rfl) ⟨aK,aL,aY,aZ,aM,aU,rfl,h⟩
def s_B (kind1:Int):Bool :=(((kind1 == 1) || (kind1 == 2)) || (kind1 == 4))
theorem pw_B (kind1:Int) (w0:World) :
  Calls prog 164 #[(vi kind1)] w0 (fun e w'=>(e=.returned (vb (((kind1 == 1) || (kind1 == 2)) || (kind1 == 4))))∧Pure w0 w'):=by
 refine cw (args:=[(vi kind1)]) func164 ntmps164 (eg (q0 (vb false) (ln (zA ?_))))
 refine vN (fun ρ wJ=>w0=wJ∧Has ρ [(2,(vb (((kind1 == 1) || (kind1 == 2)) || (kind1 == 4))))]) ?_ ?_
 refine rg (qc (zI 3 (fun ρ wJ=>∃b4'0:Bool,((kind1 == 1)=b4'0)∧w0=wJ∧Has ρ [(0,(vi kind1)),(8,(vb (b4'0 || (kind1 == 2))))]) ?_ ?_))
 rintro ρ w4 ⟨b4'0,he0,hw,hH⟩
 subst he0
 subst hw
 refine zM hH (q (zI 3 (fun ρ wJ=>∃b5'0:Bool,(((kind1 == 1) || (kind1 == 2))=b5'0)∧w0=wJ∧Has ρ [(12,(vb (b5'0 || (kind1 == 4))))]) ?_ ?_))
 rintro ρ w5 ⟨b5'0,he0,hw,hH⟩
 subst he0
 subst hw
 refine zM hH (q (ln ⟨rfl,hm⟩))
 rcases bte ((kind1 == 1) || (kind1 == 2)) with hg8 | hg8
 refine sj2 9 hg8 (q2 (vb true) (xT hg8) (zC ⟨true,hg8,rfl,hm⟩))
 refine qk 9 hg8 (qk 9 hg8 (q2 (vb (kind1 == 4)) (xF hg8) (zC ⟨false,hg8,rfl,hm⟩)))
 rcases bte (kind1 == 1) with hg6 | hg6
 refine sj2 5 hg6 (q2 (vb true) (xT hg6) (zC ⟨true,hg6,rfl,hm⟩))
 refine qk 5 hg6 (qk 5 hg6 (q2 (vb (kind1 == 2)) (xF hg6) (zC ⟨false,hg6,rfl,hm⟩)))
 rintro ρ w3 ⟨hw,hH⟩
 subst hw
 refine vE hH (zL (er (rs1 results164 (v:=(vb (((kind1 == 1) || (kind1 == 2)) || (kind1 == 4)))) ⟨by kernel_rfl,Ext.refl _⟩)))
theorem p_B (kind1:Int) (w0:World):Calls prog 164 #[(.int .i64 kind1)] w0 (fun e w'=>e=.returned (.bool (s_B kind1))∧Pure w0 w'):=pw_B kind1 w0
def s_K2 (kind1:Int):Bool :=((s_B kind1) || (kind1 == 6))
theorem pw_K2 (kind1:Int) (w0:World) :
  Calls prog 165 #[(vi kind1)] w0 (fun e w'=>(e=.returned (vb ((s_B kind1) || (kind1 == 6))))∧Pure w0 w'):=by
 refine cw (args:=[(vi kind1)]) func165 ntmps165 ?_
 obtain ⟨hs,hb⟩:=st0 w0
 refine eg (q (ln (zA (vN (fun ρ wJ=>∃HJ:NP,Hst w0 None w0 HJ wJ∧HB HJ wJ []∧Has ρ [(2,(vb ((s_B kind1) || (kind1 == 6))))]) ?_ ?_))))
 refine rg (q (sc call164 ((p_B kind1 w0).mono ?_)))
 rintro e w4 ⟨he,hE⟩
 refine ⟨_,he,?_⟩
 obtain ⟨hs,hb⟩:=hs.pp hb hE
 refine q (zI 3 (fun ρ wJ=>∃b3'0:Bool,∃HJ:NP,((s_B kind1)=b3'0)∧Hst w0 None w0 HJ wJ∧HB HJ wJ []∧Has ρ [(8,(vb (b3'0 || (kind1 == 6))))]) ?_ ?_)
 rintro ρ w5 ⟨b3'0,H3,he0,hs,hb,hH⟩
 subst he0
 refine zM hH (q (ln ⟨_,hs,hb,hm⟩))
 rcases bte (s_B kind1) with hg4 | hg4
 refine sj2 5 hg4 (q2 (vb true) (xT hg4) (zC ⟨true,_,hg4,hs,hb,hm⟩))
 refine qk 5 hg4 (qk 5 hg4 (q2 (vb (kind1 == 6)) (xF hg4) (zC ⟨false,_,hg4,hs,hb,hm⟩)))
 rintro ρ w3 ⟨H2,hs,hb,hH⟩
 refine vE hH (zL (er (rs1 results165 (v:=(vb ((s_B kind1) || (kind1 == 6)))) ⟨by kernel_rfl,(Ext.refl (F:=None) _).hst hs⟩)))
theorem p_K2 (kind1:Int) (w0:World):Calls prog 165 #[(.int .i64 kind1)] w0 (fun e w'=>e=.returned (.bool (s_K2 kind1))∧Pure w0 w'):=pw_K2 kind1 w0
def s_P (aA aB aN:Int) (aD:ByteArray) (aJ:Bool):Int :=(cond ((((((decide (aA<1)) || (decide (aA>7))) || ((aB != 0) && (aB != 1))) || ((!(s_B aA)) && (aB != 0))) || ((!((s_B aA) || (aA == 6))) && (!(decide (aD=⟨#[]⟩))))) || ((aJ && (aA != 1)) && (aA != 4))) 110 (cond (decide ((aD.size:Int)>64)) 1 0))
theorem pw_P (aA aB aN:Int) (aD:ByteArray) (aJ:Bool) (w0:World) :
  Calls prog 166 #[(.agg #[(vi aA),(vi aB),(vu aN),(vs aD),(vb aJ)])] w0 (fun e w'=>∃b'0 b'1:Bool,(((((((decide (aA<1)) || (decide (aA>7))) || ((aB != 0) && (aB != 1))) || ((!(s_B aA)) && (aB != 0))) || ((!((s_B aA) || (aA == 6))) && (!(decide (aD=⟨#[]⟩))))) || ((aJ && (aA != 1)) && (aA != 4)))=b'0∧(decide ((aD.size:Int)>64))=b'1)∧(e=.returned (vi (cond b'0 110 (cond b'1 1 0))))∧Pure w0 w'):=by
 refine cw (args:=[(Af aA aB aN aD aJ)]) func166 ntmps166 ?_
 obtain ⟨hs,hb⟩:=st0 w0
 refine eg (nw3 (Ac aA aB aN aD aJ) 35 hs hb xb fun p1 w1 H1 hs hb=>q (ln (zA (zA (vN (fun ρ wJ=>∃b13'0:Bool,∃HJ:NP,((((((decide (aA<1)) || (decide (aA>7))) || ((aB != 0) && (aB != 1))) || ((!(s_B aA)) && (aB != 0))) || ((!((s_B aA) || (aA == 6))) && (!(decide (aD=⟨#[]⟩)))))=b13'0)∧Hst w0 None w0 HJ wJ∧HB HJ wJ [(p1,(Ac aA aB aN aD aJ),35)]∧Has ρ [(1,(vp (some p1))),(56,(vb (b13'0 || ((aJ && (aA != 1)) && (aA != 4)))))]) ?_ ?_)))))
 refine rg (q (q3 (xl (isAgg3 _) (hb.d0 0 gZ)) (qb (zI 4 (fun ρ wJ=>∃b14'0:Bool,∃HJ:NP,((decide (aA<1))=b14'0)∧Hst w0 None w0 HJ wJ∧HB HJ wJ [(p1,(Ac aA aB aN aD aJ),35)]∧Has ρ [(1,(vp (some p1))),(10,(vb (b14'0 || (decide (aA>7)))))]) ?_ ?_))))
 rintro ρ w19 ⟨b14'0,H15,he0,hs,hb,hH⟩
 subst he0
 refine zM hH (q (zI 9 (fun ρ wJ=>∃b16'0:Bool,∃HJ:NP,(((decide (aA<1)) || (decide (aA>7)))=b16'0)∧Hst w0 None w0 HJ wJ∧HB HJ wJ [(p1,(Ac aA aB aN aD aJ),35)]∧Has ρ [(1,(vp (some p1))),(20,(vb (b16'0 || ((aB != 0) && (aB != 1)))))]) ?_ ?_))
 rintro ρ w21 ⟨b16'0,H17,he0,hs,hb,hH⟩
 subst he0
 refine zM hH (q (zI 10 (fun ρ wJ=>∃b19'0:Bool,∃HJ:NP,((((decide (aA<1)) || (decide (aA>7))) || ((aB != 0) && (aB != 1)))=b19'0)∧Hst w0 None w0 HJ wJ∧HB HJ wJ [(p1,(Ac aA aB aN aD aJ),35)]∧Has ρ [(1,(vp (some p1))),(31,(vb (b19'0 || ((!(s_B aA)) && (aB != 0)))))]) ?_ ?_))
 rintro ρ w25 ⟨b19'0,H20,he0,hs,hb,hH⟩
 subst he0
 refine zM hH (q (zI 10 (fun ρ wJ=>∃b22'0:Bool,∃HJ:NP,(((((decide (aA<1)) || (decide (aA>7))) || ((aB != 0) && (aB != 1))) || ((!(s_B aA)) && (aB != 0)))=b22'0)∧Hst w0 None w0 HJ wJ∧HB HJ wJ [(p1,(Ac aA aB aN aD aJ),35)]∧Has ρ [(1,(vp (some p1))),(42,(vb (b22'0 || ((!((s_B aA) || (aA == 6))) && (!(decide (aD=⟨#[]⟩)))))))]) ?_ ?_))
 rintro ρ w30 ⟨b22'0,H23,he0,hs,hb,hH⟩
 subst he0
 refine zM hH (q ?_)
 rcases bte (((((decide (aA<1)) || (decide (aA>7))) || ((aB != 0) && (aB != 1))) || ((!(s_B aA)) && (aB != 0))) || ((!((s_B aA) || (aA == 6))) && (!(decide (aD=⟨#[]⟩))))) with hg46 | hg46
 refine sj3 43 hg46 (sm (sm (sm (sj2 43 hg46 (sm (sm (sm (sj 43 hg46 (q2 (vb true) (xT hg46) (ln ⟨true,_,hg46,hs,hb,hm⟩))))))))))
 refine qk 43 hg46 (q4 43 hg46 (xl (isAgg4 _) (hb.d 0 4 gZ)) (qk 43 hg46 (zI 4 (fun ρ wJ=>∃b24'0:Bool,∃HJ:NP,(aJ=b24'0)∧Hst w0 None w0 HJ wJ∧HB HJ wJ [(p1,(Ac aA aB aN aD aJ),35)]∧Has ρ [(1,(vp (some p1))),(43,(vb (((((decide (aA<1)) || (decide (aA>7))) || ((aB != 0) && (aB != 1))) || ((!(s_B aA)) && (aB != 0))) || ((!((s_B aA) || (aA == 6))) && (!(decide (aD=⟨#[]⟩))))))),(50,(vb (b24'0 && (aA != 1))))]) ?_ ?_)))
 rintro ρ w33 ⟨b24'0,H25,he0,hs,hb,hH⟩
 subst he0
 refine zM hH (qk 43 hg46 (zI 4 (fun ρ wJ=>∃b25'0:Bool,∃HJ:NP,((aJ && (aA != 1))=b25'0)∧Hst w0 None w0 HJ wJ∧HB HJ wJ [(p1,(Ac aA aB aN aD aJ),35)]∧Has ρ [(1,(vp (some p1))),(43,(vb (((((decide (aA<1)) || (decide (aA>7))) || ((aB != 0) && (aB != 1))) || ((!(s_B aA)) && (aB != 0))) || ((!((s_B aA) || (aA == 6))) && (!(decide (aD=⟨#[]⟩))))))),(55,(vb (b25'0 && (aA != 4))))]) ?_ ?_))
 rintro ρ w34 ⟨b25'0,H26,he0,hs,hb,hH⟩
 subst he0
 refine zM hH (q2 (vb ((aJ && (aA != 1)) && (aA != 4))) (xF hg46) (ln ⟨false,_,hg46,hs,hb,hm⟩))
 rcases bte (aJ && (aA != 1)) with hg50 | hg50
 refine qk 51 hg50 (q4 51 hg50 (xl (isAgg3 _) (hb.d0 0 gZ)) (qk 51 hg50 (stq (v:=(vb (aA != 4))) (wy 43 hg46) (xT hg50) (zC ⟨true,_,hg50,hs,hb,hm⟩))))
 refine sj3 51 hg50 (stq (v:=(vb false)) (wy 43 hg46) (xF hg50) (zC ⟨false,_,hg50,hs,hb,hm⟩))
 rcases bte aJ with hg48 | hg48
 refine qk 46 hg48 (q4 46 hg48 (xl (isAgg3 _) (hb.d0 0 gZ)) (qk 46 hg48 (stq (v:=(vb (aA != 1))) (wy 43 hg46) (xT hg48) (zC ⟨true,_,hg48,hs,hb,hm⟩))))
 refine sj3 46 hg48 (stq (v:=(vb false)) (wy 43 hg46) (xF hg48) (zC ⟨false,_,hg48,hs,hb,hm⟩))
 rcases bte ((((decide (aA<1)) || (decide (aA>7))) || ((aB != 0) && (aB != 1))) || ((!(s_B aA)) && (aB != 0))) with hg43 | hg43
 refine sj5 32 hg43 (sm (sm (sm (sj 32 hg43 (q2 (vb true) (xT hg43) (zC ⟨true,_,hg43,hs,hb,hm⟩))))))
 refine qk 32 hg43 (q4 32 hg43 (xl (isAgg3 _) (hb.d0 0 gZ)) (vA (wy 32 hg43) (xc call165) ((p_K2 aA w25).mono ?_)))
 rintro e w31 ⟨he,hE⟩
 refine ⟨_,he,?_⟩
 obtain ⟨hs,hb⟩:=hs.pp hb hE
 refine qk 32 hg43 (qk 32 hg43 (zI 4 (fun ρ wJ=>∃b23'0:Bool,∃HJ:NP,((!((s_B aA) || (aA == 6)))=b23'0)∧Hst w0 None w0 HJ wJ∧HB HJ wJ [(p1,(Ac aA aB aN aD aJ),35)]∧Has ρ [(1,(vp (some p1))),(32,(vb ((((decide (aA<1)) || (decide (aA>7))) || ((aB != 0) && (aB != 1))) || ((!(s_B aA)) && (aB != 0))))),(41,(vb (b23'0 && (!(decide (aD=⟨#[]⟩))))))]) ?_ ?_))
 rintro ρ w32 ⟨b23'0,H24,he0,hs,hb,hH⟩
 subst he0
 refine zM hH (q2 (vb ((!((s_B aA) || (aA == 6))) && (!(decide (aD=⟨#[]⟩))))) (xF hg43) (zC ⟨false,_,hg43,hs,hb,hm⟩))
 rcases bte (!((s_B aA) || (aA == 6))) with hg45 | hg45
 refine qk 37 hg45 (q4 37 hg45 (xl (isAgg9 _) (hb.d 0 3 gZ)) (stq (v:=(vb (!(decide (aD=⟨#[]⟩))))) (wy 37 hg45) (uE (by kernel_rfl) (by kernel_rfl)) (stq (v:=(vb (!(decide (aD=⟨#[]⟩))))) (wy 32 hg43) (xT hg45) (zC ⟨true,_,hg45,hs,hb,hm⟩))))
 refine sj3 37 hg45 (stq (v:=(vb false)) (wy 32 hg43) (xF hg45) (zC ⟨false,_,hg45,hs,hb,hm⟩))
 rcases bte (((decide (aA<1)) || (decide (aA>7))) || ((aB != 0) && (aB != 1))) with hg37 | hg37
 refine sj5 21 hg37 (sm (sm (sm (sj 21 hg37 (q2 (vb true) (xT hg37) (zC ⟨true,_,hg37,hs,hb,hm⟩))))))
 refine qk 21 hg37 (q4 21 hg37 (xl (isAgg3 _) (hb.d0 0 gZ)) (vA (wy 21 hg37) (xc call164) ((p_B aA w21).mono ?_)))
 rintro e w26 ⟨he,hE⟩
 refine ⟨_,he,?_⟩
 obtain ⟨hs,hb⟩:=hs.pp hb hE
 refine qk 21 hg37 (qk 21 hg37 (zI 4 (fun ρ wJ=>∃b20'0:Bool,∃HJ:NP,((!(s_B aA))=b20'0)∧Hst w0 None w0 HJ wJ∧HB HJ wJ [(p1,(Ac aA aB aN aD aJ),35)]∧Has ρ [(1,(vp (some p1))),(21,(vb (((decide (aA<1)) || (decide (aA>7))) || ((aB != 0) && (aB != 1))))),(30,(vb (b20'0 && (aB != 0))))]) ?_ ?_))
 rintro ρ w27 ⟨b20'0,H21,he0,hs,hb,hH⟩
 subst he0
 refine zM hH (q2 (vb ((!(s_B aA)) && (aB != 0))) (xF hg37) (zC ⟨false,_,hg37,hs,hb,hm⟩))
 rcases bte (!(s_B aA)) with hg39 | hg39
 refine qk 26 hg39 (q4 26 hg39 (xl (isAgg3 _) (hb.d 0 1 gZ)) (qk 26 hg39 (stq (v:=(vb (aB != 0))) (wy 21 hg37) (xT hg39) (zC ⟨true,_,hg39,hs,hb,hm⟩))))
 refine sj3 26 hg39 (stq (v:=(vb false)) (wy 21 hg37) (xF hg39) (zC ⟨false,_,hg39,hs,hb,hm⟩))
 rcases bte ((decide (aA<1)) || (decide (aA>7))) with hg31 | hg31
 refine sj4 11 hg31 (sm (sm (sm (sj 11 hg31 (q2 (vb true) (xT hg31) (zC ⟨true,_,hg31,hs,hb,hm⟩))))))
 refine qk 11 hg31 (q4 11 hg31 (xl (isAgg3 _) (hb.d 0 1 gZ)) (qk 11 hg31 (qk 11 hg31 (zI 4 (fun ρ wJ=>∃b17'0:Bool,∃HJ:NP,((aB != 0)=b17'0)∧Hst w0 None w0 HJ wJ∧HB HJ wJ [(p1,(Ac aA aB aN aD aJ),35)]∧Has ρ [(1,(vp (some p1))),(11,(vb ((decide (aA<1)) || (decide (aA>7))))),(19,(vb (b17'0 && (aB != 1))))]) ?_ ?_))))
 rintro ρ w22 ⟨b17'0,H18,he0,hs,hb,hH⟩
 subst he0
 refine zM hH (q2 (vb ((aB != 0) && (aB != 1))) (xF hg31) (zC ⟨false,_,hg31,hs,hb,hm⟩))
 rcases bte (aB != 0) with hg33 | hg33
 refine qk 15 hg33 (q4 15 hg33 (xl (isAgg3 _) (hb.d 0 1 gZ)) (qk 15 hg33 (stq (v:=(vb (aB != 1))) (wy 11 hg31) (xT hg33) (zC ⟨true,_,hg33,hs,hb,hm⟩))))
 refine sj3 15 hg33 (stq (v:=(vb false)) (wy 11 hg31) (xF hg33) (zC ⟨false,_,hg33,hs,hb,hm⟩))
 rcases bte (decide (aA<1)) with hg27 | hg27
 refine sj3 6 hg27 (q2 (vb true) (xT hg27) (zC ⟨true,_,hg27,hs,hb,hm⟩))
 refine qk 6 hg27 (q4 6 hg27 (xl (isAgg3 _) (hb.d0 0 gZ)) (qk 6 hg27 (q2 (vb (decide (aA>7))) (xF hg27) (zC ⟨false,_,hg27,hs,hb,hm⟩))))
 rintro ρ w18 ⟨b13'0,H14,he0,hs,hb,hH⟩
 subst he0
 refine vE hH (zL (vI (t:=((((((decide (aA<1)) || (decide (aA>7))) || ((aB != 0) && (aB != 1))) || ((!(s_B aA)) && (aB != 0))) || ((!((s_B aA) || (aA == 6))) && (!(decide (aD=⟨#[]⟩))))) || ((aJ && (aA != 1)) && (aA != 4)))) (by kernel_rfl) (fun hc1=>?_) (fun hc1=>?_)))
 refine eg (q (ln (er (zX (rs1 results166 (v:=(vi 110)) ⟨true,_,⟨hc1,rfl⟩,by kernel_rfl,(Ext.refl (F:=None) _).hst hs⟩)))))
 refine zB (zL (zA (eg (q (q3 (xl (isAgg9 _) (hb.d 0 3 gZ)) (qb (ln (vI (t:=(decide ((aD.size:Int)>64))) (by kernel_rfl) (fun hc2=>?_) (fun hc2=>?_)))))))))
 refine eg (q (ln (er (zX (rs1 results166 (v:=(vi 1)) ⟨false,true,⟨hc1,hc2⟩,by kernel_rfl,(Ext.refl (F:=None) _).hst hs⟩)))))
 refine zB (zL (eg (q (ln (er (rs1 results166 (v:=(vi 0)) ⟨false,false,⟨hc1,hc2⟩,by kernel_rfl,(Ext.refl (F:=None) _).hst hs⟩))))))
theorem p_P (aA aB aN:Int) (aD:ByteArray) (aJ:Bool) (w0:World):Calls prog 166 #[(.agg #[(.int .i64 aA),(.int .i64 aB),(.int .u64 aN),(.string aD),(.bool aJ)])] w0 (fun e w'=>e=.returned (.int .i64 (s_P aA aB aN aD aJ))∧Pure w0 w'):=by
 refine (pw_P aA aB aN aD aJ w0).mono ?_;rintro e w' ⟨b'0,b'1,⟨e0,e1⟩,h,E⟩;subst e0;subst e1;exact ⟨h,E⟩
def m_G_l5 (aE aC:Int) (aF aG:Int) (aH:ByteArray) (aI:Sl) (kind1 i1:Int) (fakes1 aO:Int) (aP aQ:Int) (aR:ByteArray) (cF:Bool) (bA bB bC:Int) (bD:ByteArray) (bE:Bool) (w0:World) (Hl3:NP) (wl3:World) (Kc2:Int→Int→Int→Int→ByteArray→Bool→NP→WP) (Kc5:Int→Int→Int→Int→ByteArray→Bool→Int→Int→Int→ByteArray→Bool→NP→WP) (K:Int→Int→Int→ByteArray→Bool→Bool→WP):Prop :=Br (decide (fakes1<4)) (∀w14,Hst w0 Hl3 wl3 Hl3 w14→∃C1:WP,C1 w14.drew∧∀w15,w15=w14.drew→Calls prog 166 #[(.agg #[(vi aO),(vi aP),(vu aQ),(vs aR),(vb (decide (fakes1>0)))])] w15 (fun e w16=>∃r1,e=.returned (vi r1)∧C1 w16∧Kept Hl3 w15 w16∧Br (r1 == 0) (Br (kind1 == 4) (∃z1,(∀w',C1 w'→(Go.binOp .rem 3 (vi fakes1) (vi 2)).run prog w'=.ok (vi z1) w')∧∃z2,(∀w',C1 w'→(Go.binOp .quo 3 (vi fakes1) (vi 2)).run prog w'=.ok (vi z2) w')∧Calls prog 58 #[(.agg #[(vi aO),(vi aP),(vu aQ),(vs aR),(vb (decide (fakes1>0)))]),(vb (z1 == 1)),(vb (z2 == 1))] w16 (fun e w17=>∃bO bP bQ bR bS bT,e=.returned (Aa bO bP bQ bR bS bT)∧C1 w17∧Kept Hl3 w16 w17∧Calls prog 47 #[(.agg #[(vi bO),(vi bP),(vi bQ),(vu bR),(vs bS),bT.v]),(.agg #[(vi aE),(vi aC),(vi aF),(vu aG),(vs aH),aI.v])] w17 (fun e w18=>∃r2,e=.returned (vb r2)∧C1 w18∧Kept Hl3 w17 w18∧Br r2 (∀w19,Hst w0 Hl3 w18 Hl3 w19→K aO aP aQ aR (decide (fakes1>0)) true w19) (Kc5 (q6.wrap (fakes1+1)) aO aP aQ aR (decide (fakes1>0)) bA bB bC bD bE Hl3 w18)))) (Br (fakes1 != 2) (∃z3,(∀w',C1 w'→(Go.binOp .rem 3 (vi fakes1) (vi 2)).run prog w'=.ok (vi z3) w')∧∃z4,(∀w',C1 w'→(Go.binOp .quo 3 (vi fakes1) (vi 2)).run prog w'=.ok (vi z4) w')∧Calls prog 58 #[(.agg #[(vi aO),(vi aP),(vu aQ),(vs aR),(vb (decide (fakes1>0)))]),(vb (z3 == 1)),(vb (z4 == 1))] w16 (fun e w20=>∃bU bV dB dC bW dD,e=.returned (Aa bU bV dB dC bW dD)∧C1 w20∧Kept Hl3 w16 w20∧Calls prog 47 #[(.agg #[(vi bU),(vi bV),(vi dB),(vu dC),(vs bW),dD.v]),(.agg #[(vi aE),(vi aC),(vi aF),(vu aG),(vs aH),aI.v])] w20 (fun e w21=>∃r3,e=.returned (vb r3)∧C1 w21∧Kept Hl3 w20 w21∧Br r3 (∀w22,Hst w0 Hl3 w21 Hl3 w22→K aO aP aQ aR (decide (fakes1>0)) true w22) (Kc5 (q6.wrap (fakes1+1)) aO aP aQ aR (decide (fakes1>0)) bA bB bC bD bE Hl3 w21)))) (Kc5 (q6.wrap (fakes1+1)) aO aP aQ aR (decide (fakes1>0)) bA bB bC bD bE Hl3 w16))) (Kc5 (q6.wrap (fakes1+1)) aO aP aQ aR (decide (fakes1>0)) bA bB bC bD bE Hl3 w16))) (Kc2 (q6.wrap (i1+1)) bA bB bC bD bE Hl3 wl3)
def m_G_j4 (aE aC:Int) (aF aG:Int) (aH:ByteArray) (aI:Sl) (kind1 i1:Int) (aK aL aS:Int) (aM:ByteArray) (aT:Bool) (aA aB aN:Int) (aD:ByteArray) (aJ:Bool) (w0:World) (H:NP) (w:World) (Kc2:Int→Int→Int→Int→ByteArray→Bool→NP→WP) (K:Int→Int→Int→ByteArray→Bool→Bool→WP):Prop :=∃(I3:Int→Int→Int→Int→ByteArray→Bool→Int→Int→Int→ByteArray→Bool→NP→WP) (mu3:Int→Int→Int→Int→ByteArray→Bool→Int→Int→Int→ByteArray→Bool→World→Nat),I3 0 aA aB aN aD aJ aK aL aS aM aT H w∧∀(fakes1 aO:Int) (aP aQ:Int) (aR:ByteArray) (cF:Bool) (bA bB bC:Int) (bD:ByteArray) (bE:Bool) (Hl3:NP) (wl3:World),Hst w0 Hl3 wl3 Hl3 wl3→I3 fakes1 aO aP aQ aR cF bA bB bC bD bE Hl3 wl3→m_G_l5 aE aC aF aG aH aI kind1 i1 fakes1 aO aP aQ aR cF bA bB bC bD bE w0 Hl3 wl3 Kc2 (fun y'0 y'1 y'2 y'3 y'4 y'5 y'6 y'7 y'8 y'9 y'10 H' w'=>I3 y'0 y'1 y'2 y'3 y'4 y'5 y'6 y'7 y'8 y'9 y'10 H' w'∧mu3 y'0 y'1 y'2 y'3 y'4 y'5 y'6 y'7 y'8 y'9 y'10 w'<mu3 fakes1 aO aP aQ aR cF bA bB bC bD bE wl3) K
def m_G_j3 (aE aC:Int) (aF aG:Int) (aH:ByteArray) (aI:Sl) (kind1 i1:Int) (aK aL aS:Int) (aM:ByteArray) (aT:Bool) (a1:Addr) (w0:World) (H:NP) (w:World) (Kc2:Int→Int→Int→Int→ByteArray→Bool→NP→WP) (K:Int→Int→Int→ByteArray→Bool→Bool→WP):Prop :=Br ((s_B kind1) || (kind1 == 6)) (∀H4 w13,Hst w0 H w H4 w13→∃bF bG bH bI bJ bK,Row w13 a1 (Ab bF bG bH bI bJ bK)∧∀p8 w23,New w13 (.cells #[(vi 1),(vi 0)] 3) p8 w23→Calls prog 163 #[(.agg #[(vi bF),(vi bG),(vi bH),(vu bI),(vs bJ),bK.v]),(Sl.mk (some p8) 2 2).v] w23 (fun e w24=>∃cG cH dE bZ cI dF,e=.returned (Aa cG cH dE bZ cI dF)∧Kept H4 w23 w24∧∀w25,Hst w0 H4 w24 H4 w25→∃cJ cK cL cM cN cO,Row w25 a1 (Ab cJ cK cL cM cN cO)∧∀p9 w26,New w25 (.cells #[(vi 1),(vi 1)] 3) p9 w26→Calls prog 163 #[(.agg #[(vi cJ),(vi cK),(vi cL),(vu cM),(vs cN),cO.v]),(Sl.mk (some p9) 2 2).v] w26 (fun e w27=>∃dG dH dI dJ cC dK,e=.returned (Aa dG dH dI dJ cC dK)∧Kept H4 w26 w27∧∀w28,Hst w0 H4 w27 H4 w28→m_G_j4 aE aC aF aG aH aI kind1 i1 aK aL aS aM aT kind1 (cond (s_B kind1) aC 0) bZ cC false w0 H4 w28 Kc2 K))) (Br (kind1 == 7) (∀H4 w13,Hst w0 H w H4 w13→∀p10 w29,New w13 (.cells #[(vi 1)] 3) p10 w29→Calls prog 163 #[(.agg #[(vi aE),(vi aC),(vi aF),(vu aG),(vs aH),aI.v]),(Sl.mk (some p10) 1 1).v] w29 (fun e w30=>∃dL dM dN cD dO dP,e=.returned (Aa dL dM dN cD dO dP)∧Kept H4 w29 w30∧∀w31,Hst w0 H4 w30 H4 w31→m_G_j4 aE aC aF aG aH aI kind1 i1 aK aL aS aM aT kind1 (cond (s_B kind1) aC 0) cD ⟨#[]⟩ false w0 H4 w31 Kc2 K)) (∀H4 w13,Hst w0 H w H4 w13→∀p11 w32,New w13 (.cells #[(vi 0),(vi 1)] 3) p11 w32→Calls prog 163 #[(.agg #[(vi aE),(vi aC),(vi aF),(vu aG),(vs aH),aI.v]),(Sl.mk (some p11) 2 2).v] w32 (fun e w33=>∃dQ dR dS cE dT dU,e=.returned (Aa dQ dR dS cE dT dU)∧Kept H4 w32 w33∧∀w34,Hst w0 H4 w33 H4 w34→m_G_j4 aE aC aF aG aH aI kind1 i1 aK aL aS aM aT kind1 (cond (s_B kind1) aC 0) cE ⟨#[]⟩ false w0 H4 w34 Kc2 K)))
def m_G_l2 (aE aC:Int) (aF aG:Int) (aH:ByteArray) (aI:Sl) (p6:Addr) (kind1 i1:Int) (aK aL aS:Int) (aM:ByteArray) (aT:Bool) (w0:World) (Hl2:NP) (wl2:World) (Kc1:Int→Int→Int→Int→ByteArray→Bool→NP→WP) (Kc2:Int→Int→Int→Int→ByteArray→Bool→NP→WP) (K:Int→Int→Int→ByteArray→Bool→Bool→WP):Prop :=Br (decide (i1<((Sl.mk (some p6) 3 3).len:Int))) (∃C2:WP,C2 wl2.drew∧∀w35,w35=wl2.drew→∃a2:Addr,At (Sl.mk (some p6) 3 3) i1 1 a2∧∃v1:Sl,(∀w',C2 w'→w'.cell? a2=some v1.v)∧(Calls prog 163 #[(.agg #[(vi aE),(vi aC),(vi aF),(vu aG),(vs aH),aI.v]),v1.v] w35 (fun e w36=>∃cP cQ cR cS cT cU,e=.returned (Aa cP cQ cR cS cT cU)∧Kept Hl2 w35 w36∧∀p12 w37,New w36 (.cells #[(vi 0),(vi 0),(vi 0),(vu 0),ve,Sl.nil.v] 107) p12 w37→C2 w37∧(∀j,j<6→vF w37 (p12.add j))∧¬ Hl2 p12.block∧∀w38,w38=storeRow w37 p12 (Ab cP cQ cR cS cT cU)→m_G_j3 aE aC aF aG aH aI kind1 i1 aK aL aS aM aT p12 w0 Hl2 w38 Kc2 K))∧(∀p13 w39,New w35 (.cells #[(vi 0),(vi 0),(vi 0),(vu 0),ve,Sl.nil.v] 107) p13 w39→C2 w39∧Calls prog 163 #[(.agg #[(vi aE),(vi aC),(vi aF),(vu aG),(vs aH),aI.v]),v1.v] w39 (fun e w40=>∃cV cW cX cY cZ dA,e=.returned (Aa cV cW cX cY cZ dA)∧Kept Hl2 w39 w40∧(∀j,j<6→vF w40 (p13.add j))∧¬ Hl2 p13.block∧∀w41,w41=storeRow w40 p13 (Ab cV cW cX cY cZ dA)→m_G_j3 aE aC aF aG aH aI kind1 i1 aK aL aS aM aT p13 w0 Hl2 w41 Kc2 K))) (Kc1 (q6.wrap (kind1+1)) aK aL aS aM aT Hl2 wl2)
def m_G_l1 (aE aC:Int) (aF aG:Int) (aH:ByteArray) (aI:Sl) (p6:Addr) (kind1 aV:Int) (aW cA:Int) (aX:ByteArray) (cB:Bool) (w0:World) (Hl1:NP) (wl1:World) (Kc1:Int→Int→Int→Int→ByteArray→Bool→NP→WP) (K:Int→Int→Int→ByteArray→Bool→Bool→WP):Prop :=Br (decide (kind1≤7)) (∃(I2:Int→Int→Int→Int→ByteArray→Bool→NP→WP) (mu2:Int→Int→Int→Int→ByteArray→Bool→World→Nat),I2 0 aV aW cA aX cB Hl1 wl1∧∀(i1 aK:Int) (aL aS:Int) (aM:ByteArray) (aT:Bool) (Hl2:NP) (wl2:World),Hst w0 Hl2 wl2 Hl2 wl2→I2 i1 aK aL aS aM aT Hl2 wl2→m_G_l2 aE aC aF aG aH aI p6 kind1 i1 aK aL aS aM aT w0 Hl2 wl2 Kc1 (fun y'0 y'1 y'2 y'3 y'4 y'5 H' w'=>I2 y'0 y'1 y'2 y'3 y'4 y'5 H' w'∧mu2 y'0 y'1 y'2 y'3 y'4 y'5 w'<mu2 i1 aK aL aS aM aT wl2) K) (∀w42,Hst w0 Hl1 wl1 Hl1 w42→K 0 0 0 ⟨#[]⟩ false false w42)
def m_G (aE aC:Int) (aF aG:Int) (aH:ByteArray) (aI:Sl) (w0:World) (K:Int→Int→Int→ByteArray→Bool→Bool→WP):Prop :=∀H2 w2,Hst w0 None w0 H2 w2→∀p3 w3,New w2 (.cells #[(vi 0)] 3) p3 w3→∀p4 w4,New w3 (.cells #[(vi 0),(vi 1),(vi 0),(vi 0)] 3) p4 w4→∀p5 w5,New w4 (.cells #[(vi 0),(vi 1)] 3) p5 w5→∀p6 w6,New w5 (.cells #[(Sl.mk (some p3) 1 1).v,(Sl.mk (some p4) 4 4).v,(Sl.mk (some p5) 2 2).v] 42) p6 w6→∃(I1:Int→Int→Int→Int→ByteArray→Bool→NP→WP) (mu1:Int→Int→Int→Int→ByteArray→Bool→World→Nat),I1 1 0 0 0 ⟨#[]⟩ false H2 w6∧∀(kind1 aV:Int) (aW cA:Int) (aX:ByteArray) (cB:Bool) (Hl1:NP) (wl1:World),Hst w0 Hl1 wl1 Hl1 wl1→I1 kind1 aV aW cA aX cB Hl1 wl1→m_G_l1 aE aC aF aG aH aI p6 kind1 aV aW cA aX cB w0 Hl1 wl1 (fun y'0 y'1 y'2 y'3 y'4 y'5 H' w'=>I1 y'0 y'1 y'2 y'3 y'4 y'5 H' w'∧mu1 y'0 y'1 y'2 y'3 y'4 y'5 w'<mu1 kind1 aV aW cA aX cB wl1) K
theorem w_G (aE aC aF aG aH aI w0 K) (h:m_G aE aC aF aG aH aI w0 K):
  Calls prog 98 #[(.agg #[(vi aE),(vi aC),(vi aF),(vu aG),(vs aH),aI.v])] w0 (fun e w'=>∃dV dW bX dX bY r4,e=.returned (.tuple #[(Af dV dW bX dX bY),(vb r4)])∧K dV dW bX dX bY r4 w'):=by
 refine cw (args:=[(Aa aE aC aF aG aH aI)]) func98 ntmps98 ?_
 obtain ⟨hs,hb⟩:=st0 w0
 refine eg (nw3 (Ab aE aC aF aG aH aI) 107 hs hb xb fun p1 w1 H1 hs hb=>nw3 (Ag 0 0 0 false) 35 hs hb (zH (zeroValue35 _) rfl) fun p2 w2 H2 hs hb=>q (ln (eg ?_)))
 have ⟨h,hs⟩:=hs.hr (h H2 w2)
 refine nw5 (fun p=>(Sl.mk (some p) 1 1).v) hs hb h fun p3 w3 hs hb h=>nw5 (fun p=>(Sl.mk (some p) 4 4).v) hs hb h fun p4 w4 hs hb h=>nw5 (fun p=>(Sl.mk (some p) 2 2).v) hs hb h fun p5 w5 hs hb h=>nw5 (fun p=>(Sl.mk (some p) 3 3).v) hs hb h fun p6 w6 hs hb h=>q (ln (zA (eg (q (ln (zK ?_))))))
 obtain ⟨I1,mu1,h0,hr⟩:=h
 refine vQ (σ:=Int×Int×Int×Int×ByteArray×Bool×NP×World) (fun s ρ w=>w=s.2.2.2.2.2.2.2∧Has ρ [(1,(vp (some p1))),(2,(vp (some p2))),(4,(Sl.mk (some p6) 3 3).v),(5,(vi s.1))]∧Hst w0 s.2.2.2.2.2.2.1 w s.2.2.2.2.2.2.1 w∧HB s.2.2.2.2.2.2.1 w [(p2,(Ac (s.2.1) (s.2.2.1) (s.2.2.2.1) (s.2.2.2.2.1) (s.2.2.2.2.2.1)),35),(p1,(Ab aE aC aF aG aH aI),107)]∧I1 s.1 s.2.1 s.2.2.1 s.2.2.2.1 s.2.2.2.2.1 s.2.2.2.2.2.1 s.2.2.2.2.2.2.1 s.2.2.2.2.2.2.2) (fun s=>mu1 s.1 s.2.1 s.2.2.1 s.2.2.2.1 s.2.2.2.2.1 s.2.2.2.2.2.1 s.2.2.2.2.2.2.2) (1,0,0,0,⟨#[]⟩,false,H2,w6) ⟨rfl,hm,hs,hb,h0⟩ ?_
 rintro ⟨kind1,aV,aW,cA,aX,cB,Hl1,wl1⟩ ρ w ⟨hw,hH,hs,hb,hI⟩
 dsimp only at hw hH hs hb;subst w
 have h:=hr kind1 aV aW cA aX cB Hl1 wl1 hs hI
 refine zV hH (zA (eg (qb (ln (cbr h ?_ ?_)))))<;>intro h
 refine zB (zL (zA (zK (eg (q (ln (zK ?_)))))))
 obtain ⟨I2,mu2,h0,hr⟩:=h
 refine vQ (σ:=Int×Int×Int×Int×ByteArray×Bool×NP×World) (fun s ρ w=>w=s.2.2.2.2.2.2.2∧Has ρ [(1,(vp (some p1))),(2,(vp (some p2))),(4,(Sl.mk (some p6) 3 3).v),(5,(vi kind1)),(6,(vi s.1))]∧Hst w0 s.2.2.2.2.2.2.1 w s.2.2.2.2.2.2.1 w∧HB s.2.2.2.2.2.2.1 w [(p2,(Ac (s.2.1) (s.2.2.1) (s.2.2.2.1) (s.2.2.2.2.1) (s.2.2.2.2.2.1)),35),(p1,(Ab aE aC aF aG aH aI),107)]∧I2 s.1 s.2.1 s.2.2.1 s.2.2.2.1 s.2.2.2.2.1 s.2.2.2.2.2.1 s.2.2.2.2.2.2.1 s.2.2.2.2.2.2.2) (fun s=>mu2 s.1 s.2.1 s.2.2.1 s.2.2.2.1 s.2.2.2.2.1 s.2.2.2.2.2.1 s.2.2.2.2.2.2.2) (0,aV,aW,cA,aX,cB,Hl1,wl1) ⟨rfl,hm,hs,hb,h0⟩ ?_
 rintro ⟨i1,aK,aL,aS,aM,aT,Hl2,wl2⟩ ρ w ⟨hw,hH,hs,hb,hI⟩
 dsimp only at hw hH hs hb;subst w
 have h:=hr i1 aK aL aS aM aT Hl2 wl2 hs hI
 refine zV hH (zA (eg (qd (ln (cbr h ?_ ?_)))))<;>intro h
 refine zB (zL (zA (zK (zA (qT (fun ρ w=>∃a1:Addr,∃H:NP,Has ρ [(1,(vp (some p1))),(2,(vp (some p2))),(4,(Sl.mk (some p6) 3 3).v),(5,(vi kind1)),(6,(vi i1)),(7,(vp (some a1)))]∧Hst w0 H w H w∧HB H w [(p2,(Ac aK aL aS aM aT),35),(p1,(Ab aE aC aF aG aH aI),107)]∧m_G_j3 aE aC aF aG aH aI kind1 i1 aK aL aS aM aT a1 w0 H w (fun y'0 y'1 y'2 y'3 y'4 y'5 H' w'=>I2 y'0 y'1 y'2 y'3 y'4 y'5 H' w'∧mu2 y'0 y'1 y'2 y'3 y'4 y'5 w'<mu2 i1 aK aL aS aM aT wl2) K) ?_ ?_)))))
 rintro ρ w ⟨a1,H,hH,hs,hb,h⟩
 refine zV hH (eg (qb (nw3 (Ag 0 0 0 false) 35 hs hb (zH (zeroValue35 _) rfl) fun p7 w7 H3 hs hb=>sbx 0 (Ag kind1 0 0 false) (sizeOf35 _) hs hb gZ fun w8 hs hb=>ln (zA (eg (q (sc call164 ((p_B kind1 w8).mono ?_))))))))
 rintro e w9 ⟨he,hE⟩
 refine ⟨_,he,?_⟩
 obtain ⟨hs,hb⟩:=hs.pp hb hE
 refine ln (vN (fun ρ wJ=>∃b1'0:Bool,∃HJ:NP,((s_B kind1)=b1'0)∧Hst w0 H w HJ wJ∧HB HJ wJ [(p7,(Ag kind1 (cond b1'0 aC 0) 0 false),35),(p2,(Ac aK aL aS aM aT),35),(p1,(Ab aE aC aF aG aH aI),107)]∧Has ρ [(1,(vp (some p1))),(2,(vp (some p2))),(4,(Sl.mk (some p6) 3 3).v),(5,(vi kind1)),(6,(vi i1)),(7,(vp (some a1))),(8,(vp (some p7)))]) ?_ ?_)
 refine vI (t:=(s_B kind1)) (by kernel_rfl) (fun hc4=>?_) (fun hc4=>?_)
 refine rg (q (q3 (xl (isAgg3 _) (hb.d 2 1 (gS (gS gZ)))) (q (vU (zR rfl) (uZ (a:=(p7.add 1)) (v:=(vi aC)) (by kernel_rfl) (by kernel_rfl) rfl (sizeOf3 _) (hb.canW 0 1 gZ (by kernel_rfl))) ?_))))
 intro w12 hn6
 have hsb:Hst w0 H w H3 w12∧HB H3 w12 [(p7,(Ag kind1 aC 0 false),35),(p2,(Ac aK aL aS aM aT),35),(p1,(Ab aE aC aF aG aH aI),107)]:=by
  rw [hn6];exact hb.set (i:=0) 1 (v:=(vi aC)) hs gZ (by kernel_rfl)
 obtain ⟨hs,hb⟩:=hsb
 refine ln ⟨true,_,hc4,hs,hb,hm⟩
 refine zB (zL ⟨false,_,hc4,hs,hb,hm⟩)
 rintro ρ w11 ⟨b1'0,H4,he0,hs,hb,hH⟩
 subst he0
 refine vE hH (zL (zA (eg (q (sc call165 ((p_K2 kind1 w11).mono ?_))))))
 rintro e w13 ⟨he,hE⟩
 refine ⟨_,he,?_⟩
 obtain ⟨hs,hb⟩:=hs.pp hb hE
 refine ln (qT (fun ρ w=>∃aA aB aN aD aJ,∃H:NP,Has ρ [(1,(vp (some p1))),(2,(vp (some p2))),(4,(Sl.mk (some p6) 3 3).v),(5,(vi kind1)),(6,(vi i1)),(8,(vp (some p7)))]∧Hst w0 H w H w∧HB H w [(p7,(Ac aA aB aN aD aJ),35),(p2,(Ac aK aL aS aM aT),35),(p1,(Ab aE aC aF aG aH aI),107)]∧m_G_j4 aE aC aF aG aH aI kind1 i1 aK aL aS aM aT aA aB aN aD aJ w0 H w (fun y'0 y'1 y'2 y'3 y'4 y'5 H' w'=>I2 y'0 y'1 y'2 y'3 y'4 y'5 H' w'∧mu2 y'0 y'1 y'2 y'3 y'4 y'5 w'<mu2 i1 aK aL aS aM aT wl2) K) ?_ ?_)
 rintro ρ w ⟨aA,aB,aN,aD,aJ,H,hH,hs,hb,h⟩
 refine zV hH (eg (q (ln (zK ?_))))
 obtain ⟨I3,mu3,h0,hr⟩:=h
 refine vQ (σ:=Int×Int×Int×Int×ByteArray×Bool×Int×Int×Int×ByteArray×Bool×NP×World) (fun s ρ w=>w=s.2.2.2.2.2.2.2.2.2.2.2.2∧Has ρ [(1,(vp (some p1))),(2,(vp (some p2))),(4,(Sl.mk (some p6) 3 3).v),(5,(vi kind1)),(6,(vi i1)),(8,(vp (some p7))),(9,(vi s.1))]∧Hst w0 s.2.2.2.2.2.2.2.2.2.2.2.1 w s.2.2.2.2.2.2.2.2.2.2.2.1 w∧HB s.2.2.2.2.2.2.2.2.2.2.2.1 w [(p7,(Ac (s.2.1) (s.2.2.1) (s.2.2.2.1) (s.2.2.2.2.1) (s.2.2.2.2.2.1)),35),(p2,(Ac (s.2.2.2.2.2.2.1) (s.2.2.2.2.2.2.2.1) (s.2.2.2.2.2.2.2.2.1) (s.2.2.2.2.2.2.2.2.2.1) (s.2.2.2.2.2.2.2.2.2.2.1)),35),(p1,(Ab aE aC aF aG aH aI),107)]∧I3 s.1 s.2.1 s.2.2.1 s.2.2.2.1 s.2.2.2.2.1 s.2.2.2.2.2.1 s.2.2.2.2.2.2.1 s.2.2.2.2.2.2.2.1 s.2.2.2.2.2.2.2.2.1 s.2.2.2.2.2.2.2.2.2.1 s.2.2.2.2.2.2.2.2.2.2.1 s.2.2.2.2.2.2.2.2.2.2.2.1 s.2.2.2.2.2.2.2.2.2.2.2.2) (fun s=>mu3 s.1 s.2.1 s.2.2.1 s.2.2.2.1 s.2.2.2.2.1 s.2.2.2.2.2.1 s.2.2.2.2.2.2.1 s.2.2.2.2.2.2.2.1 s.2.2.2.2.2.2.2.2.1 s.2.2.2.2.2.2.2.2.2.1 s.2.2.2.2.2.2.2.2.2.2.1 s.2.2.2.2.2.2.2.2.2.2.2.2) (0,aA,aB,aN,aD,aJ,aK,aL,aS,aM,aT,H,w) ⟨rfl,hm,hs,hb,h0⟩ ?_
 rintro ⟨fakes1,aO,aP,aQ,aR,cF,bA,bB,bC,bD,bE,Hl3,wl3⟩ ρ w ⟨hw,hH,hs,hb,hI⟩
 dsimp only at hw hH hs hb;subst w
 have h:=hr fakes1 aO aP aQ aR cF bA bB bC bD bE Hl3 wl3 hs hI
 refine zV hH (zA (eg (qb (ln (cbr h ?_ ?_)))))<;>intro h
 refine zB (zL (zA (zK (eg (qc (vU (zR rfl) (uZ (a:=(p7.add 4)) (v:=(vb (decide (fakes1>0)))) (by kernel_rfl) (by kernel_rfl) rfl (sizeOf4 _) (hb.canW 0 4 gZ (by kernel_rfl))) ?_))))))
 intro w14 hn7
 have hsb:Hst w0 Hl3 wl3 Hl3 w14∧HB Hl3 w14 [(p7,(Ac aO aP aQ aR (decide (fakes1>0))),35),(p2,(Ac bA bB bC bD bE),35),(p1,(Ab aE aC aF aG aH aI),107)]:=by
  rw [hn7];exact hb.set (i:=0) 4 (v:=(vb (decide (fakes1>0)))) hs gZ (by kernel_rfl)
 obtain ⟨hs,hb⟩:=hsb
 refine ln (zA ?_)
 have ⟨h,hs⟩:=hs.hr (h w14)
 obtain ⟨C1,hC,h⟩:=h
 refine dr2 (fun x=>C1 x∧HB Hl3 x _) [1,19,21] [] ⟨hC,hb.drew⟩ h hs hb fun w15 hs hb h=>?_
 have hs:=hs.here
 refine qz 0 (Af aO aP aQ aR (decide (fakes1>0))) Kp0 (fun w' hw'=>(xa p7 (Ac aO aP aQ aR (decide (fakes1>0))) (isAgg35 _) (sizeOf35 _) (hw'.2.r0 0 5 gZ))) (lg 1 (slc Kp1 call166 (h.mono ?_)))
 rintro e w16 ⟨r1,rfl,hC,hk,h⟩
 refine ⟨_,rfl,.inr ⟨hC,hb.kept hk⟩,?_⟩
 obtain ⟨hs,hb⟩:=hk.hh hs hb
 refine qx 2 (vb (r1 == 0)) Kp2 (qx 3 (vb (r1 == 0)) Kp3 (qg 4 ?_))
 obtain ⟨hg1,h⟩|⟨hg1,h⟩:=h.br
 refine sz (v:=(vi kind1)) Kp4 (wy 71 hg1) (fun _ _=>(by kernel_rfl)) (qw 5 (vb (kind1 == 4)) Kp5 (wy 71 hg1) (qw 6 (vb (kind1 == 4)) Kp6 (wy 71 hg1) (qg 7 ?_)))
 obtain ⟨hg2,h⟩|⟨hg2,h⟩:=h.br
 refine xZ Kp7 (qA rfl (yD 74 hg2) rfl) (qn 8 Kp8 (qA rfl (yD 74 hg2) rfl) (qg 9 (sz (v:=(vb true)) Kp9 (wy 71 hg1) (fun _ _=>(xT hg2)) (qz 10 (vb true) (zO (S8 (zG (zG zN)))) (fun _ _=>(xT hg1)) (qx 11 (vb true) (zO (S8 (zG (zG (zG zN))))) (qg 12 (sz (v:=(Af aO aP aQ aR (decide (fakes1>0)))) (zO (S8 (S4 zN))) (jBV rfl (yD (c:=true) 79 rfl)) (fun w' hw'=>(xa p7 (Ac aO aP aQ aR (decide (fakes1>0))) (isAgg35 _) (sizeOf35 _) (hw'.2.r0 0 5 gZ))) (qw 13 (vi fakes1) (zO (S8 (S4 (zG zN)))) (jBV rfl (yD (c:=true) 79 rfl)) (qg 14 ?_)))))))))
 obtain ⟨z1,hv2,h⟩:=h
 refine sz (v:=(vi z1)) (zO (S8 (S4 (zG (zG zN))))) (jBV rfl (yD (c:=true) 79 rfl)) (fun w' hw'=>(jIL (by kernel_rfl) (by kernel_rfl) (by kernel_rfl) (hv2 w' hw'.1))) (qw 15 (vb (z1 == 1)) (zO (S8 (S4 (zG (zG (zG zN)))))) (jBV rfl (yD (c:=true) 79 rfl)) (qw 16 (vi fakes1) (zO (S8 (S8 zN))) (jBV rfl (yD (c:=true) 79 rfl)) (qg 17 ?_)))
 obtain ⟨z2,hv1,h⟩:=h
 refine sz (v:=(vi z2)) (zO (S8 (S8 (zG zN)))) (jBV rfl (yD (c:=true) 79 rfl)) (fun w' hw'=>(jIL (by kernel_rfl) (by kernel_rfl) (by kernel_rfl) (hv1 w' hw'.1))) (qw 18 (vb (z2 == 1)) (zO (S8 (S8 (zG (zG zN))))) (jBV rfl (yD (c:=true) 79 rfl)) (qg 20 (sz (v:=(Aa aE aC aF aG aH aI)) (zO (S8 (S8 (S4 zN)))) (jBV rfl (yD (c:=true) 79 rfl)) (fun w' hw'=>(xa p1 (Ab aE aC aF aG aH aI) (isAgg107 _) (sizeOf107 _) (hw'.2.r0 2 6 (gS (gS gZ))))) (lg 19 (jBX (zO (S8 (S8 (zG (zG (zG zN)))))) (jBV rfl (yD (c:=true) 79 rfl)) (by kernel_rfl) (xc call58) (h.mono ?_))))))
 rintro e w17 ⟨bO,bP,bQ,bR,bS,bT,rfl,hC,hk,h⟩
 refine ⟨_,rfl,.inr ⟨hC,hb.kept hk⟩,?_⟩
 obtain ⟨hs,hb⟩:=hk.hh hs hb
 refine lg 21 (jBX (zO (S8 (S8 (S4 (zG zN))))) (jBV rfl (yD (c:=true) 79 rfl)) (by kernel_rfl) (xc call47) (h.mono ?_))
 rintro e w18 ⟨r2,rfl,hC,hk,h⟩
 refine ⟨_,rfl,.inr ⟨hC,hb.kept hk⟩,?_⟩
 obtain ⟨hs,hb⟩:=hk.hh hs hb
 refine qx 22 (vb r2) (zO (S8 (S8 (S4 (zG (zG zN)))))) (wn (zL (cbr h ?_ ?_)))<;>intro h
 refine eg (q2 (Af aO aP aQ aR (decide (fakes1>0))) (xa p7 (Ac aO aP aQ aR (decide (fakes1>0))) (isAgg35 _) (sizeOf35 _) (hb.r0 0 5 gZ)) (vU (zR rfl) (xo p2 (Ac aO aP aQ aR (decide (fakes1>0))) (sizeOf35 _) (hb.k0 1 5 (gS gZ))) ?_))
 intro w19 hn8
 obtain ⟨hs,hb⟩:=hb.st1 1 hs hn8 (gS gZ)
 refine q (ln (er (qW (zX (zX (qW (qW (zX (zX (qW (qW (zX (zX (qW (zX ?_)))))))))))))))
 have ⟨h,hs⟩:=hs.hr (h w19)
 refine tH (.inl rfl) (vs:=[(Af aO aP aQ aR (decide (fakes1>0))),(vb true)]) (v:=(.tuple #[(Af aO aP aQ aR (decide (fakes1>0))),(vb true)])) results98 ⟨(rva (isAgg35 _) (sizeOf35 _) (hb.r0 1 5 (gS gZ))),(rvT (by kernel_rfl)),trivial⟩ (by kernel_rfl) ⟨aO,aP,aQ,aR,(decide (fakes1>0)),true,rfl,h⟩
 refine zB (uM (zL (rg (qc (ln ⟨((q6.wrap (fakes1+1)),aO,aP,aQ,aR,(decide (fakes1>0)),bA,bB,bC,bD,bE,Hl3,w18),⟨rfl,hm,hs,hb,h.1⟩,h.2⟩)))))
 refine sz (v:=(vi fakes1)) Kp7 (wy 74 hg2) (fun _ _=>(by kernel_rfl)) (qw 8 (vb (fakes1 != 2)) Kp8 (wy 74 hg2) (qg 9 (sz (v:=(vb (fakes1 != 2))) Kp9 (wy 71 hg1) (fun _ _=>(xF hg2)) (qz 10 (vb (fakes1 != 2)) (zO (S8 (zG (zG zN)))) (fun _ _=>(xT hg1)) (qx 11 (vb (fakes1 != 2)) (zO (S8 (zG (zG (zG zN))))) (qg 12 ?_))))))
 obtain ⟨hg3,h⟩|⟨hg3,h⟩:=h.br
 refine sz (v:=(Af aO aP aQ aR (decide (fakes1>0)))) (zO (S8 (S4 zN))) (wy 79 hg3) (fun w' hw'=>(xa p7 (Ac aO aP aQ aR (decide (fakes1>0))) (isAgg35 _) (sizeOf35 _) (hw'.2.r0 0 5 gZ))) (qw 13 (vi fakes1) (zO (S8 (S4 (zG zN)))) (wy 79 hg3) (qg 14 ?_))
 obtain ⟨z3,hv4,h⟩:=h
 refine sz (v:=(vi z3)) (zO (S8 (S4 (zG (zG zN))))) (wy 79 hg3) (fun w' hw'=>(jIL (by kernel_rfl) (by kernel_rfl) (by kernel_rfl) (hv4 w' hw'.1))) (qw 15 (vb (z3 == 1)) (zO (S8 (S4 (zG (zG (zG zN)))))) (wy 79 hg3) (qw 16 (vi fakes1) (zO (S8 (S8 zN))) (wy 79 hg3) (qg 17 ?_)))
 obtain ⟨z4,hv3,h⟩:=h
 refine sz (v:=(vi z4)) (zO (S8 (S8 (zG zN)))) (wy 79 hg3) (fun w' hw'=>(jIL (by kernel_rfl) (by kernel_rfl) (by kernel_rfl) (hv3 w' hw'.1))) (qw 18 (vb (z4 == 1)) (zO (S8 (S8 (zG (zG zN))))) (wy 79 hg3) (qg 20 (sz (v:=(Aa aE aC aF aG aH aI)) (zO (S8 (S8 (S4 zN)))) (wy 79 hg3) (fun w' hw'=>(xa p1 (Ab aE aC aF aG aH aI) (isAgg107 _) (sizeOf107 _) (hw'.2.r0 2 6 (gS (gS gZ))))) (lg 19 (jBX (zO (S8 (S8 (zG (zG (zG zN)))))) (wy 79 hg3) (by kernel_rfl) (xc call58) (h.mono ?_))))))
 rintro e w20 ⟨bU,bV,dB,dC,bW,dD,rfl,hC,hk,h⟩
 refine ⟨_,rfl,.inr ⟨hC,hb.kept hk⟩,?_⟩
 obtain ⟨hs,hb⟩:=hk.hh hs hb
 refine lg 21 (jBX (zO (S8 (S8 (S4 (zG zN))))) (wy 79 hg3) (by kernel_rfl) (xc call47) (h.mono ?_))
 rintro e w21 ⟨r3,rfl,hC,hk,h⟩
 refine ⟨_,rfl,.inr ⟨hC,hb.kept hk⟩,?_⟩
 obtain ⟨hs,hb⟩:=hk.hh hs hb
 refine qz 22 (vb r3) (zO (S8 (S8 (S4 (zG (zG zN)))))) (fun _ _=>(xT hg3)) (wn (zL (cbr h ?_ ?_)))<;>intro h
 refine eg (q2 (Af aO aP aQ aR (decide (fakes1>0))) (xa p7 (Ac aO aP aQ aR (decide (fakes1>0))) (isAgg35 _) (sizeOf35 _) (hb.r0 0 5 gZ)) (vU (zR rfl) (xo p2 (Ac aO aP aQ aR (decide (fakes1>0))) (sizeOf35 _) (hb.k0 1 5 (gS gZ))) ?_))
 intro w22 hn9
 obtain ⟨hs,hb⟩:=hb.st1 1 hs hn9 (gS gZ)
 refine q (ln (er (qW (zX (zX (qW (qW (zX (zX (qW (qW (zX (zX (qW (zX ?_)))))))))))))))
 have ⟨h,hs⟩:=hs.hr (h w22)
 refine tH (.inl rfl) (vs:=[(Af aO aP aQ aR (decide (fakes1>0))),(vb true)]) (v:=(.tuple #[(Af aO aP aQ aR (decide (fakes1>0))),(vb true)])) results98 ⟨(rva (isAgg35 _) (sizeOf35 _) (hb.r0 1 5 (gS gZ))),(rvT (by kernel_rfl)),trivial⟩ (by kernel_rfl) ⟨aO,aP,aQ,aR,(decide (fakes1>0)),true,rfl,h⟩
 refine zB (uM (zL (rg (qc (ln ⟨((q6.wrap (fakes1+1)),aO,aP,aQ,aR,(decide (fakes1>0)),bA,bB,bC,bD,bE,Hl3,w21),⟨rfl,hm,hs,hb,h.1⟩,h.2⟩)))))
 refine xZ (zO (S8 (S4 zN))) (qA rfl (yD 79 hg3) rfl) (qn 13 (zO (S8 (S4 (zG zN)))) (qA rfl (yD 79 hg3) rfl) (qn 14 (zO (S8 (S4 (zG (zG zN))))) (qA rfl (yD 79 hg3) rfl) (qn 15 (zO (S8 (S4 (zG (zG (zG zN)))))) (qA rfl (yD 79 hg3) rfl) (qn 16 (zO (S8 (S8 zN))) (qA rfl (yD 79 hg3) rfl) (qn 17 (zO (S8 (S8 (zG zN)))) (qA rfl (yD 79 hg3) rfl) (qn 18 (zO (S8 (S8 (zG (zG zN))))) (qA rfl (yD 79 hg3) rfl) (qn 20 (zO (S8 (S8 (S4 zN)))) (qA rfl (yD 79 hg3) rfl) (lg 19 (xZ (zO (S8 (S8 (zG (zG (zG zN)))))) (qA rfl (yD 79 hg3) rfl) (lg 21 (xZ (zO (S8 (S8 (S4 (zG zN))))) (qA rfl (yD 79 hg3) rfl) (qz 22 (vb false) (zO (S8 (S8 (S4 (zG (zG zN)))))) (fun _ _=>(xF hg3)) (wn (zL (yU (by kernel_rfl) (zB (uM (zL (rg (q0 (vi fakes1) (q0 (vi (q6.wrap (fakes1+1))) (q0 (vi (q6.wrap (fakes1+1))) (zC (zL ⟨((q6.wrap (fakes1+1)),aO,aP,aQ,aR,(decide (fakes1>0)),bA,bB,bC,bD,bE,Hl3,w16),⟨rfl,hm,hs,hb,h.1⟩,h.2⟩))))))))))))))))))))))))
 refine xZ Kp4 (qA rfl (yD 71 hg1) rfl) (qn 5 Kp5 (qA rfl (yD 71 hg1) rfl) (qn 6 Kp6 (qA rfl (yD 71 hg1) rfl) (qn 7 Kp7 (by kernel_rfl) (qn 8 Kp8 (by kernel_rfl) (qn 9 Kp9 (qA rfl (yD 71 hg1) rfl) (qz 10 (vb false) (zO (S8 (zG (zG zN)))) (fun _ _=>(xF hg1)) (qx 11 (vb false) (zO (S8 (zG (zG (zG zN))))) (qn 12 (zO (S8 (S4 zN))) (qA rfl (yD (c:=false) 79 rfl) rfl) (qn 13 (zO (S8 (S4 (zG zN)))) (qA rfl (yD (c:=false) 79 rfl) rfl) (qn 14 (zO (S8 (S4 (zG (zG zN))))) (qA rfl (yD (c:=false) 79 rfl) rfl) (qn 15 (zO (S8 (S4 (zG (zG (zG zN)))))) (qA rfl (yD (c:=false) 79 rfl) rfl) (qn 16 (zO (S8 (S8 zN))) (qA rfl (yD (c:=false) 79 rfl) rfl) (qn 17 (zO (S8 (S8 (zG zN)))) (qA rfl (yD (c:=false) 79 rfl) rfl) (qn 18 (zO (S8 (S8 (zG (zG zN))))) (qA rfl (yD (c:=false) 79 rfl) rfl) (qn 20 (zO (S8 (S8 (S4 zN)))) (qA rfl (yD (c:=false) 79 rfl) rfl) (lg 19 (xZ (zO (S8 (S8 (zG (zG (zG zN)))))) (qA rfl (yD (c:=false) 79 rfl) rfl) (lg 21 (xZ (zO (S8 (S8 (S4 (zG zN))))) (qA rfl (yD (c:=false) 79 rfl) rfl) (qx 22 (vb false) (zO (S8 (S8 (S4 (zG (zG zN)))))) (wn (zL (yU (by kernel_rfl) ?_)))))))))))))))))))))))
 refine zB (uM (zL (rg (qc (ln ⟨((q6.wrap (fakes1+1)),aO,aP,aQ,aR,(decide (fakes1>0)),bA,bB,bC,bD,bE,Hl3,w16),⟨rfl,hm,hs,hb,h.1⟩,h.2⟩)))))
 refine vO (uI (uI (uD (uM (zL (rg (q0 (vi i1) (q0 (vi (q6.wrap (i1+1))) (q0 (vi (q6.wrap (i1+1))) (ln ⟨((q6.wrap (i1+1)),bA,bB,bC,bD,bE,Hl3,wl3),⟨rfl,hm,hs,hb.drop 1,h.1⟩,h.2⟩))))))))))
 refine cbr h ?_ ?_<;>intro h
 refine eg ?_
 have ⟨h,hs⟩:=hs.hr (h H4 w13)
 obtain ⟨bF,bG,bH,bI,bJ,bK,hv6,h⟩:=h
 refine qa (isAgg107 _) (sizeOf107 _) hv6 (nw5 (fun p=>(Sl.mk (some p) 2 2).v) hs hb h fun p8 w23 hs hb h=>sc call163 (h.mono fun e w24 ⟨cG,cH,dE,bZ,cI,dF,k,hk,h⟩=>have ⟨hs,hb⟩:=hk.hh hs hb;⟨_,k,?_⟩))
 refine qb (vU (zR rfl) (uZ (a:=(p7.add 2)) (v:=(vu bZ)) (by kernel_rfl) (by kernel_rfl) rfl (sizeOf23 _) (hb.canW 0 2 gZ (by kernel_rfl))) ?_)
 intro w25 hn10
 have hsb:Hst w0 H4 w24 H4 w25∧HB H4 w25 [(p7,(Ag kind1 (cond (s_B kind1) aC 0) bZ false),35),(p2,(Ac aK aL aS aM aT),35),(p1,(Ab aE aC aF aG aH aI),107)]:=by
  rw [hn10];exact hb.set (i:=0) 2 (v:=(vu bZ)) hs gZ (by kernel_rfl)
 obtain ⟨hs,hb⟩:=hsb
 refine ln (rg ?_)
 have ⟨h,hs⟩:=hs.hr (h w25)
 obtain ⟨cJ,cK,cL,cM,cN,cO,hv5,h⟩:=h
 refine qa (isAgg107 _) (sizeOf107 _) hv5 (nw5 (fun p=>(Sl.mk (some p) 2 2).v) hs hb h fun p9 w26 hs hb h=>sc call163 (h.mono fun e w27 ⟨dG,dH,dI,dJ,cC,dK,k,hk,h⟩=>have ⟨hs,hb⟩:=hk.hh hs hb;⟨_,k,?_⟩))
 refine qb (vU (zR rfl) (uZ (a:=(p7.add 3)) (v:=(vs cC)) (by kernel_rfl) (by kernel_rfl) rfl (sizeOf9 _) (hb.canW 0 3 gZ (by kernel_rfl))) ?_)
 intro w28 hn11
 have hsb:Hst w0 H4 w27 H4 w28∧HB H4 w28 [(p7,(Ac kind1 (cond (s_B kind1) aC 0) bZ cC false),35),(p2,(Ac aK aL aS aM aT),35),(p1,(Ab aE aC aF aG aH aI),107)]:=by
  rw [hn11];exact hb.set (i:=0) 3 (v:=(vs cC)) hs gZ (by kernel_rfl)
 obtain ⟨hs,hb⟩:=hsb
 refine zC ?_
 have ⟨h,hs⟩:=hs.hr (h w28)
 refine zL ⟨kind1,(cond (s_B kind1) aC 0),bZ,cC,false,H4,hm,hs,hb,h⟩
 refine eg (qb (ln (cbr h ?_ ?_)))<;>intro h
 refine rg (q2 (Aa aE aC aF aG aH aI) (xa p1 (Ab aE aC aF aG aH aI) (isAgg107 _) (sizeOf107 _) (hb.r0 2 6 (gS (gS gZ)))) ?_)
 have ⟨h,hs⟩:=hs.hr (h H4 w13)
 refine nw5 (fun p=>(Sl.mk (some p) 1 1).v) hs hb h fun p10 w29 hs hb h=>sc call163 (h.mono fun e w30 ⟨dL,dM,dN,cD,dO,dP,k,hk,h⟩=>have ⟨hs,hb⟩:=hk.hh hs hb;⟨_,k,?_⟩)
 refine qb (vU (zR rfl) (uZ (a:=(p7.add 2)) (v:=(vu cD)) (by kernel_rfl) (by kernel_rfl) rfl (sizeOf23 _) (hb.canW 0 2 gZ (by kernel_rfl))) ?_)
 intro w31 hn14
 have hsb:Hst w0 H4 w30 H4 w31∧HB H4 w31 [(p7,(Ag kind1 (cond (s_B kind1) aC 0) cD false),35),(p2,(Ac aK aL aS aM aT),35),(p1,(Ab aE aC aF aG aH aI),107)]:=by
  rw [hn14];exact hb.set (i:=0) 2 (v:=(vu cD)) hs gZ (by kernel_rfl)
 obtain ⟨hs,hb⟩:=hsb
 refine zC ?_
 have ⟨h,hs⟩:=hs.hr (h w31)
 refine zL ⟨kind1,(cond (s_B kind1) aC 0),cD,⟨#[]⟩,false,H4,hm,hs,hb,h⟩
 refine rg (q2 (Aa aE aC aF aG aH aI) (xa p1 (Ab aE aC aF aG aH aI) (isAgg107 _) (sizeOf107 _) (hb.r0 2 6 (gS (gS gZ)))) ?_)
 have ⟨h,hs⟩:=hs.hr (h H4 w13)
 refine nw5 (fun p=>(Sl.mk (some p) 2 2).v) hs hb h fun p11 w32 hs hb h=>sc call163 (h.mono fun e w33 ⟨dQ,dR,dS,cE,dT,dU,k,hk,h⟩=>have ⟨hs,hb⟩:=hk.hh hs hb;⟨_,k,?_⟩)
 refine qb (vU (zR rfl) (uZ (a:=(p7.add 2)) (v:=(vu cE)) (by kernel_rfl) (by kernel_rfl) rfl (sizeOf23 _) (hb.canW 0 2 gZ (by kernel_rfl))) ?_)
 intro w34 hn16
 have hsb:Hst w0 H4 w33 H4 w34∧HB H4 w34 [(p7,(Ag kind1 (cond (s_B kind1) aC 0) cE false),35),(p2,(Ac aK aL aS aM aT),35),(p1,(Ab aE aC aF aG aH aI),107)]:=by
  rw [hn16];exact hb.set (i:=0) 2 (v:=(vu cE)) hs gZ (by kernel_rfl)
 obtain ⟨hs,hb⟩:=hsb
 refine zC ?_
 have ⟨h,hs⟩:=hs.hr (h w34)
 refine zL ⟨kind1,(cond (s_B kind1) aC 0),cE,⟨#[]⟩,false,H4,hm,hs,hb,h⟩
 obtain ⟨C2,hC,h⟩:=h
 refine dr2 (fun x=>C2 x∧HB Hl2 x _) [5,6,7] [5,7] ⟨hC,hb.drew⟩ h hs hb fun w35 hs hb h=>?_
 have hs:=hs.here
 refine qz 0 (Aa aE aC aF aG aH aI) Kp0 (fun w' hw'=>(xa p1 (Ab aE aC aF aG aH aI) (isAgg107 _) (sizeOf107 _) (hw'.2.r0 1 6 (gS gZ)))) (qx 1 ((Sl.mk (some p6) 3 3).v) Kp1 (qx 2 (vi i1) Kp2 (qg 3 ?_)))
 obtain ⟨a2,hv8,h⟩:=h
 refine sy Kp3 (fun _ _=>xi (runUnderlying246 _) (sizeOf42 _) hv8) (qg 4 ?_)
 obtain ⟨v1,hv7,h⟩:=h
 refine sy Kp4 (fun _ k=>xl (isAgg42 _) (hv7 _ k.1)) (jNQ (k:=5) (k':=6) (by kernel_rfl) ?_ ?_)
 have h:=h.1
 refine slc Kp5 call163 (h.mono ?_)
 rintro e w36 ⟨cP,cQ,cR,cS,cT,cU,rfl,hk,h⟩
 refine ⟨_,rfl,.inl (by kernel_rfl),?_⟩
 obtain ⟨hs,hb⟩:=hk.hh hs hb
 refine lg 6 (qL (O:=(.cells #[(vi 0),(vi 0),(vi 0),(vu 0),ve,Sl.nil.v] 107)) (fun p=>.pointer (some p)) Kp6 (zR rfl) (by kernel_rfl) (zH (zeroValue107 _) rfl) ?_)
 intro p12 w37 hn19
 have h:=h p12 w37 hn19
 refine ⟨.inr ⟨h.1,hb.kept (Ext.new (F:=None) hn19).keptP⟩,?_⟩
 have h:=h.2
 obtain ⟨hs,hb⟩:=hs.nw hb hn19
 refine lg 7 ?_
 obtain ⟨hp1,hnh,h⟩:=h
 refine xL Kp7 (zR rfl) (by kernel_rfl) (xo p12 (Ab cP cQ cR cS cT cU) (sizeOf107 _) hp1) ?_
 intro w38 hn18
 have h:=h w38 hn18
 refine ⟨.inl (by kernel_rfl),?_⟩
 have hk:Kept Hl2 w37 w38:=by rw [hn18];exact Kept.storeRow hnh
 obtain ⟨hs,hb⟩:=hk.hh hs hb
 refine wn (zL ⟨p12,Hl2,hm,hs,hb,h⟩)
 have h:=h.2
 refine qL (O:=(.cells #[(vi 0),(vi 0),(vi 0),(vu 0),ve,Sl.nil.v] 107)) (fun p=>.pointer (some p)) Kp6 (zR rfl) (by kernel_rfl) (zH (zeroValue107 _) rfl) ?_
 intro p13 w39 hn21
 have h:=h p13 w39 hn21
 refine ⟨.inr ⟨h.1,hb.kept (Ext.new (F:=None) hn21).keptP⟩,?_⟩
 have h:=h.2
 obtain ⟨hs,hb⟩:=hs.nw hb hn21
 refine lg 5 (slc Kp5 call163 (h.mono ?_))
 rintro e w40 ⟨cV,cW,cX,cY,cZ,dA,rfl,hk,h⟩
 refine ⟨_,rfl,.inl (by kernel_rfl),?_⟩
 obtain ⟨hs,hb⟩:=hk.hh hs hb
 refine lg 7 ?_
 obtain ⟨hp2,hnh,h⟩:=h
 refine xL Kp7 (zR rfl) (by kernel_rfl) (xo p13 (Ab cV cW cX cY cZ dA) (sizeOf107 _) hp2) ?_
 intro w41 hn20
 have h:=h w41 hn20
 refine ⟨.inl (by kernel_rfl),?_⟩
 have hk:Kept Hl2 w40 w41:=by rw [hn20];exact Kept.storeRow hnh
 obtain ⟨hs,hb⟩:=hk.hh hs hb
 refine wn (zL ⟨p13,Hl2,hm,hs,hb,h⟩)
 refine vO (uI (uI (uD (uM (zL (rg (q0 (vi kind1) (q0 (vi (q6.wrap (kind1+1))) (q0 (vi (q6.wrap (kind1+1))) (ln ⟨((q6.wrap (kind1+1)),aK,aL,aS,aM,aT,Hl2,wl2),⟨rfl,hm,hs,hb,h.1⟩,h.2⟩))))))))))
 refine vO (uI (uI (uD (zL (eg (q0 (Ah 0 0 0 false) (vU (zR rfl) (xo p2 (Ag 0 0 0 false) (sizeOf35 _) (hb.k0 0 5 gZ)) ?_)))))))
 intro w42 hn22
 obtain ⟨hs,hb⟩:=hb.st1 0 hs hn22 gZ
 refine q (ln (er ?_))
 have ⟨h,hs⟩:=hs.hr (h w42)
 refine tH (.inl rfl) (vs:=[(Ah 0 0 0 false),(vb false)]) (v:=(.tuple #[(Ah 0 0 0 false),(vb false)])) results98 ⟨(rva (isAgg35 _) (sizeOf35 _) (hb.r0 0 5 gZ)),(rvT (by kernel_rfl)),trivial⟩ (by kernel_rfl) ⟨0,0,0,⟨#[]⟩,false,false,rfl,h⟩
def m_L2 (p1:Option Addr) (t1:Int) (w0:World) (K:Int→Int→Int→ByteArray→Bool→Bool→WP):Prop :=∀H1 w1,Hst w0 None w0 H1 w1→Calls prog 87 #[(vp p1),(vi t1)] w1 (fun e w2=>∃r1,e=.returned (vb r1)∧Kept H1 w1 w2∧Br (!r1) (∀w3,Hst w0 H1 w2 H1 w3→K 0 0 0 ⟨#[]⟩ false false w3) (Calls prog 97 #[(vp p1),(vi t1)] w2 (fun e w4=>∃r2,e=.returned (vi r2)∧Kept H1 w2 w4∧Br (decide (r2>40)) (∀w5,Hst w0 H1 w4 H1 w5→K 0 0 0 ⟨#[]⟩ false false w5) (Calls prog 49 #[(vp p1),(vi t1)] w4 (fun e w6=>∃bO bP bQ bR bS bT,e=.returned (Aa bO bP bQ bR bS bT)∧Kept H1 w4 w6∧Calls prog 98 #[(.agg #[(vi bO),(vi bP),(vi bQ),(vu bR),(vs bS),bT.v])] w6 (fun e w7=>∃bU bV bX bW bY r3,e=.returned (.tuple #[(Af bU bV bX bW bY),(vb r3)])∧Kept H1 w6 w7∧∀w8,Hst w0 H1 w7 H1 w8→K bU bV bX bW bY r3 w8))))))
theorem w_L2 (p1 t1 w0 K) (h:m_L2 p1 t1 w0 K):
  Calls prog 42 #[(vp p1),(vi t1)] w0 (fun e w'=>∃cG cH dY cI dZ r4,e=.returned (.tuple #[(Af cG cH dY cI dZ),(vb r4)])∧K cG cH dY cI dZ r4 w'):=by
 refine cw (args:=[(vp p1),(vi t1)]) func42 ntmps42 ?_
 obtain ⟨hs,hb⟩:=st0 w0
 refine eg (nw3 (Ag 0 0 0 false) 35 hs hb (zH (zeroValue35 _) rfl) fun p2 w1 H1 hs hb=>q (ln (zA (eg (qb ?_)))))
 have ⟨h,hs⟩:=hs.hr (h H1 w1)
 refine sc call87 (h.mono fun e w2 ⟨r1,k,hk,h⟩=>have ⟨hs,hb⟩:=hk.hh hs hb;⟨_,k,?_⟩)
 refine qb ?_
 obtain ⟨hg1,h⟩|⟨hg1,h⟩:=h.br
 refine sj4 10 hg1 (q2 (vb true) (xT hg1) (ln (yH (by kernel_rfl) (eg (q0 (Ah 0 0 0 false) (vU (zR rfl) (xo p2 (Ag 0 0 0 false) (sizeOf35 _) (hb.k0 0 5 gZ)) ?_))))))
 intro w3 hn2
 obtain ⟨hs,hb⟩:=hb.st1 0 hs hn2 gZ
 refine q (ln (er (zX ?_)))
 have ⟨h,hs⟩:=hs.hr (h w3)
 refine tH (.inl rfl) (vs:=[(Ah 0 0 0 false),(vb false)]) (v:=(.tuple #[(Ah 0 0 0 false),(vb false)])) results42 ⟨(rva (isAgg35 _) (sizeOf35 _) (hb.r0 0 5 gZ)),(rvT (by kernel_rfl)),trivial⟩ (by kernel_rfl) ⟨0,0,0,⟨#[]⟩,false,false,rfl,h⟩
 refine qk 10 hg1 (qk 10 hg1 (vA (wy 10 hg1) (xc call97) (h.mono ?_)))
 rintro e w4 ⟨r2,rfl,hk,h⟩
 refine ⟨_,rfl,?_⟩
 obtain ⟨hs,hb⟩:=hk.hh hs hb
 refine qk 10 hg1 (q2 (vb (decide (r2>40))) (xF hg1) (ln (cbr h ?_ ?_)))<;>intro h
 refine eg (q (vU (zR rfl) (xo p2 (Ag 0 0 0 false) (sizeOf35 _) (hb.k0 0 5 gZ)) ?_))
 intro w5 hn3
 obtain ⟨hs,hb⟩:=hb.st1 0 hs hn3 gZ
 refine q (ln (er (zX ?_)))
 have ⟨h,hs⟩:=hs.hr (h w5)
 refine tH (.inl rfl) (vs:=[(Ah 0 0 0 false),(vb false)]) (v:=(.tuple #[(Ah 0 0 0 false),(vb false)])) results42 ⟨(rva (isAgg35 _) (sizeOf35 _) (hb.r0 0 5 gZ)),(rvT (by kernel_rfl)),trivial⟩ (by kernel_rfl) ⟨0,0,0,⟨#[]⟩,false,false,rfl,h⟩
 refine zB (zL (eg (qb (sc call49 (h.mono fun e w6 ⟨bO,bP,bQ,bR,bS,bT,k,hk,h⟩=>have ⟨hs,hb⟩:=hk.hh hs hb;⟨_,k,?_⟩)))))
 refine sc call98 (h.mono fun e w7 ⟨bU,bV,bX,bW,bY,r3,k,hk,h⟩=>have ⟨hs,hb⟩:=hk.hh hs hb;⟨_,k,?_⟩)
 refine qb (vU (zR rfl) (xo p2 (Ac bU bV bX bW bY) (sizeOf35 _) (hb.k0 0 5 gZ)) ?_)
 intro w8 hn4
 obtain ⟨hs,hb⟩:=hb.st1 0 hs hn4 gZ
 refine q (ln (er ?_))
 have ⟨h,hs⟩:=hs.hr (h w8)
 refine tH (.inl rfl) (vs:=[(Af bU bV bX bW bY),(vb r3)]) (v:=(.tuple #[(Af bU bV bX bW bY),(vb r3)])) results42 ⟨(rva (isAgg35 _) (sizeOf35 _) (hb.r0 0 5 gZ)),(rvT (by kernel_rfl)),trivial⟩ (by kernel_rfl) ⟨bU,bV,bX,bW,bY,r3,rfl,h⟩
def m_H4 (p1:Option Addr) (aA aB aN:Int) (aD:ByteArray) (aJ:Bool) (w0:World) (K:Int→Int→WP):Prop :=Br (((s_P aA aB aN aD aJ):Int) != 0) (∀H1 w2,Hst w0 None w0 H1 w2→K 0 (s_P aA aB aN aD aJ) w2) (∀H1 w2,Hst w0 None w0 H1 w2→Calls prog 58 #[(.agg #[(vi aA),(vi aB),(vu aN),(vs aD),(vb aJ)]),(vb true),(vb true)] w2 (fun e w3=>∃bO bP bQ bR bS bT,e=.returned (Aa bO bP bQ bR bS bT)∧Kept H1 w2 w3∧Calls prog 78 #[(vp p1),(.agg #[(vi bO),(vi bP),(vi bQ),(vu bR),(vs bS),bT.v])] w3 (fun e w4=>∃r1 r2,e=.returned (.tuple #[(vi r1),(vi r2)])∧Kept H1 w3 w4∧K r1 r2 w4)))
theorem w_H4 (p1 aA aB aN aD aJ w0 K) (h:m_H4 p1 aA aB aN aD aJ w0 K):
  Calls prog 101 #[(vp p1),(.agg #[(vi aA),(vi aB),(vu aN),(vs aD),(vb aJ)])] w0 (fun e w'=>∃r3 r4,e=.returned (.tuple #[(vi r3),(vi r4)])∧K r3 r4 w'):=by
 refine cw (args:=[(vp p1),(Af aA aB aN aD aJ)]) func101 ntmps101 ?_
 obtain ⟨hs,hb⟩:=st0 w0
 refine eg (nw3 (Ac aA aB aN aD aJ) 35 hs hb xb fun p2 w1 H1 hs hb=>qb (ln (eg (q2 (Af aA aB aN aD aJ) (xa p2 (Ac aA aB aN aD aJ) (isAgg35 _) (sizeOf35 _) (hb.r0 0 5 gZ)) (sc call166 ((p_P aA aB aN aD aJ w1).mono ?_))))))
 rintro e w2 ⟨he,hE⟩
 refine ⟨_,he,?_⟩
 obtain ⟨hs,hb⟩:=hs.pp hb hE
 refine q (ln (zA (eg (qb (ln (cbr h ?_ ?_))))))<;>intro h
 refine eg (qc (ln (er (zX ?_))))
 have ⟨h,hs⟩:=hs.hr (h H1 w2)
 refine xA (.inl rfl) results101 (v:=(vi 0)) (by kernel_rfl) (v':=(vi (s_P aA aB aN aD aJ))) (by kernel_rfl) ⟨0,(s_P aA aB aN aD aJ),rfl,h⟩
 refine zB (zL (eg (q (q2 (Af aA aB aN aD aJ) (xa p2 (Ac aA aB aN aD aJ) (isAgg35 _) (sizeOf35 _) (hb.r0 0 5 gZ)) ?_))))
 have ⟨h,hs⟩:=hs.hr (h H1 w2)
 refine sc call58 (h.mono fun e w3 ⟨bO,bP,bQ,bR,bS,bT,k,hk,h⟩=>have ⟨hs,hb⟩:=hk.hh hs hb;⟨_,k,?_⟩)
 refine sc call78 (h.mono fun e w4 ⟨r1,r2,k,hk,h⟩=>have ⟨hs,hb⟩:=hk.hh hs hb;⟨_,k,?_⟩)
 refine qd (ln (er (xA (.inl rfl) results101 (v:=(vi r1)) (by kernel_rfl) (v':=(vi r2)) (by kernel_rfl) ⟨r1,r2,rfl,h⟩)))
end Go.Proofs
end
section
open Go Go.SE
namespace Go.Proofs
open Tryz
attribute [local irreducible] Calls
theorem jDP (l:Sp.Letter):s_P l.kind l.frm l.c l.text l.fake=Sp.qO l:=by
 obtain ⟨k,f,c,x,g⟩:=l;unfold s_P Sp.qO;have e1:s_B k=Sp.vR k:=rfl;rw [e1];have e2:(Sp.vR k || k == 6)=Sp.vZ k:=rfl;rw [e2];have e3:decide (((x.size:Int))>64)=decide (x.size>64):=decide_eq_decide.2 (by omega);rw [e3];generalize Sp.vR k=a;generalize Sp.vZ k=b;have hc:((((((decide (k<1)) || (decide (k>7))) || (((f:Int) != 0) && ((f:Int) != 1))) || ((!a) && ((f:Int) != 0))) || ((!b) && (!(decide (x=(⟨#[]⟩:ByteArray)))))) || ((g && ((k:Int) != 1)) && ((k:Int) != 4)))=decide (k<1∨k>7∨(f≠0∧f≠1)∨(a=false∧f≠0)∨(b=false∧x≠⟨#[]⟩)∨(g=true∧k≠1∧k≠4)):=by
  rw [Bool.eq_iff_iff];simp only [Bool.or_eq_true,Bool.and_eq_true,decide_eq_true_eq,bne_iff_ne,Bool.not_eq_true',decide_eq_false_iff_not];simp only [or_assoc,and_assoc]
 rw [hc];by_cases h:(k<1∨k>7∨(f≠0∧f≠1)∨(a=false∧f≠0)∨(b=false∧x≠⟨#[]⟩)∨(g=true∧k≠1∧k≠4))
 ·rw [decide_eq_true h,if_pos h];rfl
 ·rw [decide_eq_false h,if_neg h];by_cases h2:x.size>64
  ·rw [decide_eq_true h2,if_pos h2];rfl
  ·rw [decide_eq_false h2,if_neg h2];rfl
def jNO (p:List Nat):List (List Value):=p.map fun i:Nat=>[Value.int .i64 (i:Int)]
theorem jAU {S S2:NP} (x:Sp.Tree) (s sp:Sl) (p:List Nat) (w0:World) (hT:TreeAt S w0 s x) (hSw:∀b,S b→b<w0.heap.size) (hp:Lst S2 w0 1 sp (jNO p)) (hS2:∀b,S2 b→b<w0.heap.size) (hpl:p.length≤100) :
  Calls prog 163 #[.agg (qU x s).toArray,sp.v] w0 (fun e w'=>∃s',e=.returned (.agg (qU (Sp.jCP x p) s').toArray)∧TreeAt S w0 s' (Sp.jCP x p)∧Pure w0 w'):=by
 obtain ⟨k,f,t,u,tx,ks⟩:=x
 suffices key:∀K:Int→Int→Int→Int→ByteArray→Sl→WP,(∀k' f' t' u' x' s' w' ks',Sp.jCP (.mk k f t u tx ks) p=.mk k' f' t' u' x' ks'→TreeAt S w0 s' (.mk k' f' t' u' x' ks')→Pure w0 w'→K k' f' t' u' x' s' w')→m_P1 k f t u tx s sp w0 K by
  refine (w_P1 _ _ _ _ _ _ _ w0 (fun k' f' t' u' x' s' w'=>∃ks',Sp.jCP (.mk k f t u tx ks) p=.mk k' f' t' u' x' ks'∧TreeAt S w0 s' (.mk k' f' t' u' x' ks')∧Pure w0 w') (key _ (fun k' f' t' u' x' s' w' ks' h1 h2 h3=>⟨ks',h1,h2,h3⟩))).mono ?_;rintro _ w' ⟨k',f',t',u',x',s',rfl,ks',h1,h2,h3⟩;rw [h1];exact ⟨s',rfl,h2,h3⟩
 intro K hK
 have hlen:sp.len=p.length:=by rw [hp.len];simp [jNO]
 unfold m_P1
 intro H2 w2 hs2
 refine ⟨fun i _ _ _ _ _ _ k' f' t' u' x' s' H w'=>∃j:Nat,i=j∧j≤p.length∧Pure w0 w'∧∃ks',TreeAt S w0 s' (.mk k' f' t' u' x' ks')∧Sp.jCP (.mk k f t u tx ks) p=Sp.jCP (.mk k' f' t' u' x' ks') (p.drop j),fun i _ _ _ _ _ _ _ _ _ _ _ _ _=>((p.length:Int) - i).toNat,
  ⟨0,rfl,Nat.zero_le _,hs2.first,ks,hT,rfl⟩,?_⟩
 rintro _ _ _ _ _ _ _ k' f' t' u' x' s' Hl wl hl ⟨j,rfl,hj,El,ks',hT',heq⟩
 unfold m_P1_l1
 refine ⟨fun hc=>?_,fun hc=>?_⟩
 ·have hlt:=qI hlen hc
  rw [List.drop_eq_getElem_cons hlt,Sp.jCP] at heq
  have hpp:∀w',Pure w0 w'→∃a,At sp j 1 a∧S2 a.block∧w'.cell? a=some (.int .i64 (p[j]:Int)):=by
   intro w' E;obtain ⟨a,h1,h2,h3⟩:=(hp.pure E).nth (f:=fun i:Nat=>[Value.int .i64 (i:Int)]) (xs:=p) hlt;exact ⟨a,h1,h2,jCT h3⟩
  obtain ⟨a,hat,_,_⟩:=hpp wl El
  refine ⟨a,hat,?_⟩
  intro w3 hs3
  have E3:=El.hst hs3
  have hs3':=hs3.here
  obtain ⟨a1,hat1,hS1,hc1⟩:=hpp w3 E3
  have haa:a1=a:=by
   obtain ⟨_,_,x,hx,rfl⟩:=hat;obtain ⟨_,_,y,hy,rfl⟩:=hat1;rw [hx] at hy;cases hy;rfl
  subst haa
  have hl':s'.len=ks'.length:=by cases hT';assumption
  refine ⟨_,hc1,fun h=>?_,fun h=>?_⟩
  ·have : ks'[p[j]]? = none := by
    have h:=of_decide_eq_true h;exact List.getElem?_eq_none (by omega)
   rw [show (Sp.Tree.mk k' f' t' u' x' ks').kids=ks' from rfl,this] at heq
   intro w4 hs4
   exact hK _ _ _ _ _ _ _ _ heq TreeAt.leaf (E3.hst hs4)
  ·have hlt2:p[j]<ks'.length:=by have h:=of_decide_eq_false h;omega
   rw [show (Sp.Tree.mk k' f' t' u' x' ks').kids=ks' from rfl,List.getElem?_eq_getElem hlt2] at heq
   have hd:∀b,S b→¬ Hl b:=fun b hb hh=>by have:=hl.old b hh;have:=hSw b hb;omega
   have hd2:∀b,S2 b→¬ Hl b:=fun b hb hh=>by have:=hl.old b hh;have:=hS2 b hb;omega
   cases hT' with
   | mk _ _ _ _ _ _ _ rs len fit row kid =>
   obtain ⟨a3,hat3,hS3,hr3⟩:=row _ hlt2
   refine ⟨a1,hat1,_,hc1,hd2 _ hS1,a3,hat3,_,_,_,_,_,rs p[j],E3.row hr3 id,hd _ hS3,?_⟩
   intro H3 w7 hs7
   rw [vM hlt (by omega)]
   refine ⟨⟨j+1,rfl,hlt,E3.hst hs7,ks'[p[j]].kids,?_,?_⟩,uA hlt⟩
   ·have:=kid _ hlt2
    generalize ks'[p[j]]=y at *
    obtain ⟨_,_,_,_,_,_⟩:=y
    exact this
   ·rw [heq]
    generalize ks'[p[j]]=y
    obtain ⟨_,_,_,_,_,_⟩:=y
    rfl
 ·have hge:=qK hlen hj hc
  subst hge
  rw [List.drop_length] at heq
  intro w9 hs9
  exact hK _ _ _ _ _ _ _ _ heq hT' (El.hst hs9)
theorem jJV:∀j:Nat,j<4→∀w,(Go.binOp .rem 3 (.int .i64 (j:Int)) (.int .i64 2)).run prog w=.ok (.int .i64 ((j % 2:Nat):Int)) w
 | 0,_,w=>by kernel_rfl
 | 1,_,w=>by kernel_rfl
 | 2,_,w=>by kernel_rfl
 | 3,_,w=>by kernel_rfl
 | n+4,h,_=>by omega
theorem jJW:∀j:Nat,j<4→∀w,(Go.binOp .quo 3 (.int .i64 (j:Int)) (.int .i64 2)).run prog w=.ok (.int .i64 ((j / 2:Nat):Int)) w
 | 0,_,w=>by kernel_rfl
 | 1,_,w=>by kernel_rfl
 | 2,_,w=>by kernel_rfl
 | 3,_,w=>by kernel_rfl
 | n+4,h,_=>by omega
theorem Lst.of_path {w:World} {p:Addr} {T:TypeId} (ts:List Nat) (h:Box w p (ts.map fun t:Nat=>Value.int .i64 (t:Int)) T):Lst (·=p.block) w 1 ⟨some p,ts.length,ts.length⟩ (jNO ts):=by
 refine ⟨by simp [jNO],fun i hi=>?_⟩;have hi':i<ts.length:=by simpa [jNO] using hi
 refine ⟨p.add (i*1),⟨by omega,by simpa using hi',p,rfl,by simp⟩,by rw [zW],fun j hj=>?_⟩;have hj0:j=0:=by simpa [jNO] using hj
 subst hj0;have:=h.cell (i:=i) (v:=.int .i64 (ts[i]:Int)) (by simp [hi']);rw [uP,Nat.mul_one,Nat.add_zero,this];simp [jNO]
theorem TreeAt.back {S:NP} {w w':World} {s:Sl} {t:Sp.Tree} (h:TreeAt S w' s t) (hE:Pure w w') (hd:∀b,S b→b<w.heap.size):TreeAt S w s t:=by
 induction h with
 | mk k f t u x ks s rs len fit row kid ih =>
  refine .mk k f t u x ks s rs len fit (fun i h=>let ⟨a,h1,h2,h3⟩:=row i h;⟨a,h1,h2,fun j hj=>?_⟩) ih
  rw [← h3 j hj]
  unfold World.cell?
  rw [zW,hE.keep _ (hd _ h2) (fun h=>h)]
theorem jCQ {S:NP} (x:Sp.Tree) (s:Sl) (w0:World) (hT:TreeAt S w0 s x) (hSw:∀b,S b→b<w0.heap.size) :
  Calls prog 98 #[.agg (qU x s).toArray] w0 (fun e w'=>∃k f c:Int,∃t:ByteArray,∃g r:Bool,e=.returned (.tuple #[.agg #[.int .i64 k,.int .i64 f,.int .u64 c,.string t,.bool g],.bool r])∧(((⟨k,f,c,t,g⟩:Sp.Letter),r)=Sp.qQ x∧Pure w0 w')):=by
 obtain ⟨xk,xf,xt,xu,xx,ks⟩:=x
 generalize hx:Sp.Tree.mk xk xf xt xu xx ks=x at *
 have hxr:qU x s=[.int .i64 xk,.int .i64 xf,.int .i64 xt,.int .u64 xu,.string xx,s.v]:=by rw [← hx];rfl
 have hxn:x.node.frm=xf:=by rw [← hx];rfl
 rw [hxr]
 suffices key:∀K:Int→Int→Int→ByteArray→Bool→Bool→WP,(∀k f c t g r w',(((⟨k,f,c,t,g⟩:Sp.Letter),r)=Sp.qQ x∧Pure w0 w')→K k f c t g r w')→m_G xk xf xt xu xx s w0 K from
  w_G _ _ _ _ _ _ w0 _ (key _ (fun _ _ _ _ _ _ _ h=>h))
 intro K hK
 have hxv:(Value.agg #[.int .i64 xk,.int .i64 xf,.int .i64 xt,.int .u64 xu,.string xx,s.v])=.agg (qU x s).toArray:=by rw [hxr]
 have tS:∀{w},Pure w0 w→TreeAt S w s x∧∀b,S b→b<w.heap.size:=fun E=>⟨hT.pure E,fun b hb=>by have:=hSw b hb;have:=E.size;omega⟩
 unfold m_G
 intro H2 w2 hs2 p3 w3 h3 p4 w4 h4 p5 w5 h5 p6 w6 h6
 have E2:=hs2.first
 have b3:=(((Box.of_new h3).pure (Ext.new h4)).pure (Ext.new h5)).pure (Ext.new h6)
 have b4:=((Box.of_new h4).pure (Ext.new h5)).pure (Ext.new h6)
 have b5:=(Box.of_new h5).pure (Ext.new h6)
 have b6:=Box.of_new h6
 have E6:Pure w2 w6:=(((Ext.new h3:Pure w2 w3).trans (Ext.new h4)).trans (Ext.new h5)).trans (Ext.new h6)
 have hs6:=hs2.again E6.keptP
 have v3:w2.heap.size≤p3.block:=by have:=h3.at_size;omega
 have v4:w2.heap.size≤p4.block:=by have:=h4.at_size;have:=(Ext.new (F:=None) h3).size;omega
 have v5:w2.heap.size≤p5.block:=by have:=h5.at_size;have:=(Ext.new (F:=None) h3).size;have:=(Ext.new (F:=None) h4).size;omega
 have v6:w2.heap.size≤p6.block:=by have:=h6.at_size;have:=(Ext.new (F:=None) h3).size;have:=(Ext.new (F:=None) h4).size;have:=(Ext.new (F:=None) h5).size;omega
 let B:WP:=fun w=>Box w p3 [.int .i64 0] 3∧Box w p4 [.int .i64 0,.int .i64 1,.int .i64 0,.int .i64 0] 3∧Box w p5 [.int .i64 0,.int .i64 1] 3∧Box w p6 [(Sl.mk (some p3) 1 1).v,(Sl.mk (some p4) 4 4).v,(Sl.mk (some p5) 2 2).v] 42
 let V:NP→Prop:=fun H=>¬ H p3.block∧¬ H p4.block∧¬ H p5.block∧¬ H p6.block
 have B6:B w6:=⟨b3,b4,b5,b6⟩
 have V6:V H2:=⟨fun h=>by have:=hs2.lt _ h;omega,fun h=>by have:=hs2.lt _ h;omega,fun h=>by have:=hs2.lt _ h;omega,fun h=>by have:=hs2.lt _ h;omega⟩
 have Bp:∀{w w'},B w→Pure w w'→B w':=fun h E=>⟨h.1.pure E,h.2.1.pure E,h.2.2.1.pure E,h.2.2.2.pure E⟩
 have BV:∀{H w H' w'},B w∧V H→Hst w0 H w H' w'→B w'∧V H':=by
  rintro H w H' w' ⟨⟨q3,q4,q5,q6⟩,⟨n3,n4,n5,n6⟩⟩ hs;have d:∀(p:Addr),p.block<w.heap.size→¬ H p.block→¬ H' p.block:=fun p h1 h2=>hs.disj (G:=(·=p.block)) (fun b e=>by subst e;exact ⟨h1,h2⟩) _ rfl;have m3:=d p3 q3.lt n3;have m4:=d p4 q4.lt n4;have m5:=d p5 q5.lt n5;have m6:=d p6 q6.lt n6;exact ⟨⟨q3.ext hs.ext m3,q4.ext hs.ext m4,q5.ext hs.ext m5,q6.ext hs.ext m6⟩,⟨m3,m4,m5,m6⟩⟩
 refine ⟨fun kd _ _ _ _ _ H w'=>∃q:Nat,kd=(q:Int)+1∧q≤7∧Pure w0 w'∧(B w'∧V H)∧Sp.yO x 7 1=Sp.yO x (7 - q) ((q:Int)+1),fun kd _ _ _ _ _ _=>(8 - kd).toNat,⟨0,rfl,by omega,E2.trans E6,⟨B6,V6⟩,rfl⟩,?_⟩
 rintro _ d1 d2 d3 d4 d5 Hl wl hl ⟨q,rfl,hq,El,BVl,heq⟩
 unfold m_G_l1
 refine ⟨fun hc=>?_,fun hc=>?_⟩
 ·have hq7:q<7:=by have:=of_decide_eq_true hc;omega
  obtain ⟨n,hn⟩:∃n,7 - q=n+1:=⟨7 - q - 1,by omega⟩
  have hstep:Sp.yO x (n+1) ((q:Int)+1)=(match Sp.qS x ((q:Int)+1) Sp.deals with | some l=>some l | none=>Sp.yO x n ((q:Int)+1+1)):=rfl
  rw [hn,hstep] at heq
  clear hstep
  generalize hkd:((q:Int)+1)=kd at *
  refine ⟨fun i _ _ _ _ _ H w'=>∃j:Nat,i=j∧j≤3∧Pure w0 w'∧(B w'∧V H)∧Sp.qS x kd Sp.deals=Sp.qS x kd (Sp.deals.drop j),fun i _ _ _ _ _ _=>(3 - i).toNat,⟨0,rfl,by omega,El,BVl,rfl⟩,?_⟩
  rintro _ d1 d2 d3 d4 d5 Hm wm hm ⟨j,rfl,hj,Em,BVm,heqd⟩
  unfold m_G_l2
  refine ⟨fun hc2=>?_,fun hc2=>?_⟩
  ·have hj3:j<3:=by have:=of_decide_eq_true hc2;simp only at this;omega
   have hjd:j<Sp.deals.length:=hj3
   have hstep:Sp.qS x kd (Sp.deals[j] :: Sp.deals.drop (j+1))=(match Sp.yC x (Sp.jII x kd Sp.deals[j]) 4 0 with | some l=>some l | none=>Sp.qS x kd (Sp.deals.drop (j+1))):=rfl
   rw [List.drop_eq_getElem_cons hjd,hstep] at heqd
   clear hstep
   generalize hpp:Sp.deals[j]=pp at *
   have hpath:∃a:Addr,∃sl:Sl,At (Sl.mk (some p6) 3 3) (j:Int) 1 a∧(∀w,B w→w.cell? a=some sl.v∧∃S2:NP,Lst S2 w 1 sl (jNO pp)∧∀b,S2 b→b<w.heap.size):=by
    have hj':j=0∨j=1∨j=2:=by omega
    rcases hj' with rfl | rfl | rfl
    ·have:pp=[0]:=hpp.symm;subst this;refine ⟨p6,⟨some p3,1,1⟩,⟨by omega,by simp,p6,rfl,by simp [Addr.add]⟩,fun w h=>⟨h.2.2.2.cell0,_,Lst.of_path [0] h.1,fun b e=>by subst e;exact h.1.lt⟩⟩
    ·have:pp=[0,1,0,0]:=hpp.symm;subst this;refine ⟨p6.add 1,⟨some p4,4,4⟩,⟨by omega,by simp,p6,rfl,rfl⟩,fun w h=>⟨h.2.2.2.cell rfl,_,Lst.of_path [0,1,0,0] h.2.1,fun b e=>by subst e;exact h.2.1.lt⟩⟩
    ·have:pp=[0,1]:=hpp.symm;subst this;refine ⟨p6.add 2,⟨some p5,2,2⟩,⟨by omega,by simp,p6,rfl,rfl⟩,fun w h=>⟨h.2.2.2.cell rfl,_,Lst.of_path [0,1] h.2.2.1,fun b e=>by subst e;exact h.2.2.1.lt⟩⟩
   obtain ⟨a,sl,hat,hcell⟩:=hpath
   have hppl:pp.length≤100:=by
    have hj':j=0∨j=1∨j=2:=by omega
    rcases hj' with rfl | rfl | rfl <;> (rw [← hpp];simp [Sp.deals])
   have J3 : ∀ (a1 : Addr) (w : World) (sd : Sl) (Td : TypeId), Hst w0 Hm w Hm w → Pure w0 w → (B w ∧ V Hm) → Box w a1 (qU (Sp.jCP x pp) sd) Td → ¬ Hm a1.block → TreeAt S w0 sd (Sp.jCP x pp) →
     m_G_j3 xk xf xt xu xx s kd j d1 d2 d3 d4 d5 a1 w0 Hm w (fun y'0 y'1 y'2 y'3 y'4 y'5 H' w'=>(∃j:Nat,y'0=j∧j≤3∧Pure w0 w'∧(B w'∧V H')∧Sp.qS x kd Sp.deals=Sp.qS x kd (Sp.deals.drop j))∧(3 - y'0).toNat<(3 - (j:Int)).toNat) K:=by
    intro a1 w sd Td hs E hBV hB1 hv1 hTd
    unfold m_G_j3
    have J4 : ∀ (c : Int) (t : ByteArray) (H : NP) (w : World), Hst w0 H w H w → Pure w0 w → (B w ∧ V H) → (⟨kd, cond (s_B kd) xf 0, c, t, false⟩ : Sp.Letter) = Sp.jII x kd pp →
      m_G_j4 xk xf xt xu xx s kd j d1 d2 d3 d4 d5 kd (cond (s_B kd) xf 0) c t false w0 H w (fun y'0 y'1 y'2 y'3 y'4 y'5 H' w'=>(∃j:Nat,y'0=j∧j≤3∧Pure w0 w'∧(B w'∧V H')∧Sp.qS x kd Sp.deals=Sp.qS x kd (Sp.deals.drop j))∧(3 - y'0).toNat<(3 - (j:Int)).toNat) K:=by
     intro c t H w hs E hBV hcand
     generalize hlf:cond (s_B kd) xf 0=lf at *
     rw [← hcand] at heqd
     unfold m_G_j4
     refine ⟨fun fk lk lf' lc lt lg _ _ _ _ _ H w'=>(kd=lk∧lf=lf'∧c=lc∧t=lt)∧∃f:Nat,fk=f∧f≤4∧Pure w0 w'∧(B w'∧V H)∧Sp.yC x ⟨kd,lf,c,t,false⟩ 4 0=Sp.yC x ⟨kd,lf,c,t,false⟩ (4 - f) f,fun fk _ _ _ _ _ _ _ _ _ _ _=>(4 - fk).toNat,⟨⟨rfl,rfl,rfl,rfl⟩,0,rfl,by omega,E,hBV,rfl⟩,?_⟩
     rintro _ _ _ _ _ lg e1 e2 e3 e4 e5 Hf wf hsf ⟨⟨rfl,rfl,rfl,rfl⟩,f,rfl,hf4,Ef,BVf,heqf⟩
     unfold m_G_l5
     refine ⟨fun hc3=>?_,fun hc3=>?_⟩
     ·have hf:f<4:=by have:=of_decide_eq_true hc3;omega
      obtain ⟨m,hm'⟩:∃m,4 - f=m+1:=⟨4 - f - 1,by omega⟩
      have hstep:Sp.yC x ⟨kd,lf,c,t,false⟩ (m+1) f=(if Sp.jGM x ⟨kd,lf,c,t,false⟩ f then some (Sp.yV ⟨kd,lf,c,t,false⟩ f) else Sp.yC x ⟨kd,lf,c,t,false⟩ m (f+1)):=rfl
      rw [hm',hstep] at heqf
      clear hstep
      intro w14 hs14
      have E14:=Ef.hst hs14
      have BV14:=BV BVf hs14
      have hd14:Pure w14 w14.drew:=Ext.drew w14
      refine ⟨fun w'=>Pure w14 w',hd14,?_⟩
      rintro _ rfl
      have hfd:decide ((f:Int)>0)=decide (f>0):=decide_eq_decide.2 (by omega)
      rw [hfd]
      refine (p_P kd lf c t (decide (f>0)) w14.drew).mono ?_
      rintro _ w16 ⟨rfl,E16⟩
      rw [jDP ⟨kd,lf,c,t,decide (f>0)⟩]
      have Ed:=hd14.trans E16
      refine ⟨_,rfl,Ed,E16.keptP,?_⟩
      have hwf:Sp.yV ⟨kd,lf,c,t,false⟩ f=⟨kd,lf,c,t,decide (f>0)⟩:=rfl
      have next:∀w',Pure w14 w'→Sp.jGM x ⟨kd,lf,c,t,false⟩ f=false→((((kd=kd∧lf=lf∧c=c∧t=t)∧∃f':Nat,IntKind.i64.wrap ((f:Int)+1)=f'∧f'≤4∧Pure w0 w'∧(B w'∧V Hf)∧Sp.yC x ⟨kd,lf,c,t,false⟩ 4 0=Sp.yC x ⟨kd,lf,c,t,false⟩ (4 - f') f'))∧(4 - IntKind.i64.wrap ((f:Int)+1)).toNat<(4 - (f:Int)).toNat):=by
       intro w' E' hno;rw [hno,if_neg (by simp)] at heqf;rw [vM hf (by omega)];exact ⟨⟨⟨rfl,rfl,rfl,rfl⟩,f+1,rfl,hf,E14.trans E',⟨Bp BV14.1 E',BV14.2⟩,by rw [heqf,show m=4 - (f+1) from by omega]⟩,by omega⟩
      have found:∀w',Pure w0 w'→Sp.jGM x ⟨kd,lf,c,t,false⟩ f=true→K kd lf c t (decide (f>0)) true w':=by
       intro w' E' hyes;rw [hyes,if_pos rfl,hwf] at heqf;rw [heqf] at heqd;rw [heqd] at heq;exact hK _ _ _ _ _ _ _ ⟨by unfold Sp.qQ;rw [heq],E'⟩
      have cmp : ∀ w, Pure w14 w → Sp.qO ⟨kd, lf, c, t, decide (f > 0)⟩ = 0 → (kd == 4 || decide (f ≠ 2)) = true →
        Calls prog 58 #[.agg #[.int .i64 kd,.int .i64 lf,.int .u64 c,.string t,.bool (decide (f>0))],.bool (((f % 2:Nat):Int) == 1),.bool (((f / 2:Nat):Int) == 1)] w (fun e w17=>∃rKind1:Int,∃rFrom1:Int,∃rTo1:Int,∃rNum1:Int,∃rText1:ByteArray,∃rKids1:Sl,e=.returned (.agg #[(.int .i64 rKind1),(.int .i64 rFrom1),(.int .i64 rTo1),(.int .u64 rNum1),(.string rText1),rKids1.v])∧Pure w14 w17∧Kept Hf w w17 ∧
         Calls prog 47 #[.agg #[(.int .i64 rKind1),(.int .i64 rFrom1),(.int .i64 rTo1),(.int .u64 rNum1),(.string rText1),rKids1.v],.agg #[.int .i64 xk,.int .i64 xf,.int .i64 xt,.int .u64 xu,.string xx,s.v]] w17 (fun e w18=>∃r2:Bool,e=.returned (.bool r2)∧Pure w14 w18∧Kept Hf w17 w18∧r2=Sp.jGM x ⟨kd,lf,c,t,false⟩ f)):=by
       intro w Ew herr hk4
       have hfr:lf=0∨lf=1:=by
        unfold Sp.qO at herr;simp only at herr;split at herr
        ·cases herr
        ·rename_i h;simp only [not_or,not_and] at h;have:=h.2.2.1;by_cases h0:lf=0
         ·exact .inl h0
         ·exact .inr (Classical.not_not.1 (this h0))
       have hb1:(((f % 2:Nat):Int) == 1)=(f % 2 == 1):=by rw [Bool.eq_iff_iff];simp;omega
       have hb2:(((f / 2:Nat):Int) == 1)=(f / 2 == 1):=by rw [Bool.eq_iff_iff];simp;omega
       rw [hb1,hb2]
       refine (jCM w.heap.size kd lf c t (decide (f>0)) (f % 2 == 1) (f / 2 == 1) w (Nat.le_refl _) hfr).mono ?_
       rintro _ w17 ⟨s',rfl,hT',E17⟩
       generalize hLT:Sp.vK ⟨kd,lf,c,t,decide (f>0)⟩ (f % 2 == 1) (f / 2 == 1)=LT at *
       obtain ⟨lk,lff,lt,lu,lx,lks⟩:=LT
       refine ⟨_,_,_,_,_,s',rfl,Ew.trans E17,E17.keptP,?_⟩
       rw [hxv]
       have E017:=(E14.trans Ew).trans E17
       refine (jAB (S:=fun b=>b<w17.heap.size) (.mk lk lff lt lu lx lks) x s' s w17 (hT'.lt.mono (fun b hb=>hb.2)) ((tS E017).1.mono (tS E017).2) (fun b hb=>hb)).mono ?_
       rintro _ w18 ⟨r,rfl,hr,E18⟩
       refine ⟨_,rfl,(Ew.trans E17).trans E18,E18.keptP,?_⟩
       unfold Sp.jGM
       rw [hwf,hLT,hr]
       simp [herr]
       intro _
       simpa using hk4
      refine ⟨fun h1=>⟨fun h2=>?_,fun h2=>⟨fun h3=>?_,fun h3=>?_⟩⟩,fun h1=>?_⟩
      ·refine ⟨_,fun w' _=>jJV f hf w',_,fun w' _=>jJW f hf w',?_⟩
       refine (cmp w16 Ed (by simpa using h1) (by rw [h2];rfl)).mono ?_
       rintro _ w17 ⟨_,_,_,_,_,s',rfl,E17,K17,h17⟩
       refine ⟨_,_,_,_,_,s',rfl,E17,K17,?_⟩
       refine h17.mono ?_
       rintro _ w18 ⟨r,rfl,E18,K18,hr⟩
       refine ⟨_,rfl,E18,K18,fun h=>?_,fun h=>next _ E18 (by rw [← hr];exact h)⟩
       intro w19 hs19
       exact found _ ((E14.trans E18).hst hs19) (by rw [← hr];exact h)
      ·refine ⟨_,fun w' _=>jJV f hf w',_,fun w' _=>jJW f hf w',?_⟩
       have hf2:decide (f≠2)=true:=decide_eq_true (fun e=>by subst e;simp at h3)
       refine (cmp w16 Ed (by simpa using h1) (by rw [hf2];simp)).mono ?_
       rintro _ w17 ⟨_,_,_,_,_,s',rfl,E17,K17,h17⟩
       refine ⟨_,_,_,_,_,s',rfl,E17,K17,?_⟩
       refine h17.mono ?_
       rintro _ w18 ⟨r,rfl,E18,K18,hr⟩
       refine ⟨_,rfl,E18,K18,fun h=>?_,fun h=>next _ E18 (by rw [← hr];exact h)⟩
       intro w19 hs19
       exact found _ ((E14.trans E18).hst hs19) (by rw [← hr];exact h)
      ·refine next _ Ed ?_
       have hf2 : f = 2 := by have : (f : Int) = 2 := by simpa using h3
                              omega
       unfold Sp.jGM
       simp only
       rw [h2,hf2];simp
      ·refine next _ Ed ?_
       unfold Sp.jGM
       rw [hwf]
       have:decide (Sp.qO ⟨kd,lf,c,t,decide (f>0)⟩=0)=false:=decide_eq_false (by simpa using h1)
       rw [this];rfl
     ·have hf:f=4:=by have:=of_decide_eq_false hc3;omega
      subst hf
      rw [Nat.sub_self,Sp.yC] at heqf
      rw [heqf] at heqd
      simp only at heqd
      rw [vM hj3 (by omega)]
      exact ⟨⟨j+1,rfl,hj3,Ef,BVf,heqd⟩,by omega⟩
    have hsg:s_B kd=Sp.vR kd:=rfl
    have hcf:cond (s_B kd) xf 0=(Sp.jII x kd pp).frm:=by
     rw [hsg];unfold Sp.jII;simp only;rw [hxn];cases Sp.vR kd <;> rfl
    have place : ∀ (y : Sp.Tree) (sy : Sl) (pth : List Nat) (w : World) (p8 : Addr) (w23 : World), Pure w0 w → TreeAt S w0 sy y → New w (.cells (pth.map fun t : Nat => Value.int .i64 (t : Int)).toArray 3) p8 w23 → pth.length ≤ 100 →
      Calls prog 163 #[.agg (qU y sy).toArray,(Sl.mk (some p8) pth.length pth.length).v] w23 (fun e w'=>∃s',e=.returned (.agg (qU (Sp.jCP y pth) s').toArray)∧TreeAt S w23 s' (Sp.jCP y pth)∧Pure w23 w'):=by
     intro y sy pth w p8 w23 E hTy h8 hpl
     have E23:Pure w0 w23:=E.trans (Ext.new h8)
     exact jAU (S2:=(·=p8.block)) y sy _ pth w23 (hTy.pure E23) (tS E23).2 (Lst.of_path pth (Box.of_new h8)) (fun b e=>by subst e;exact (Box.of_new h8).lt) hpl
    refine ⟨fun htx=>?_,fun htx=>⟨fun h7=>?_,fun h7=>?_⟩⟩
    ·have htx':Sp.vZ kd=true:=htx
     intro H4 w13 hs13
     have E13:=E.hst hs13
     have BV13:=BV hBV hs13
     have hv13:¬ H4 a1.block:=hs13.disj (G:=(·=a1.block)) (fun b e=>by subst e;exact ⟨hB1.lt,hv1⟩) _ rfl
     have B13:=hB1.ext hs13.ext hv13
     generalize hD:Sp.jCP x pp=D at *
     obtain ⟨dk,df,dt,du,dx,dks⟩:=D
     refine ⟨_,_,_,_,_,sd,B13.row,?_⟩
     intro p8 w23 h8
     have E23:Pure w13 w23:=Ext.new h8
     refine (place (.mk dk df dt du dx dks) sd [1,0] w13 p8 w23 E13 hTd h8 (by simp)).mono ?_
     rintro _ w24 ⟨s1,rfl,_,E24⟩
     generalize hk1:Sp.jCP (.mk dk df dt du dx dks) [1,0]=y1 at *
     obtain ⟨y1k,y1f,y1t,y1u,y1x,y1s⟩:=y1
     refine ⟨_,_,_,_,_,s1,rfl,E24.keptP,?_⟩
     intro w25 hs25
     have E1324:=E23.trans E24
     have B24:=B13.pure E1324
     have hv25:¬ H4 a1.block:=hv13
     have B25:=B24.ext hs25.ext hv25
     refine ⟨_,_,_,_,_,sd,B25.row,?_⟩
     have E25:=(E13.trans E1324).hst hs25
     have BV25:=BV ⟨Bp BV13.1 E1324,BV13.2⟩ hs25
     intro p9 w26 h9
     have E26:Pure w25 w26:=Ext.new h9
     refine (place (.mk dk df dt du dx dks) sd [1,1] w25 p9 w26 E25 hTd h9 (by simp)).mono ?_
     rintro _ w27 ⟨s2,rfl,_,E27⟩
     generalize hk2:Sp.jCP (.mk dk df dt du dx dks) [1,1]=y2 at *
     obtain ⟨y2k,y2f,y2t,y2u,y2x,y2s⟩:=y2
     refine ⟨_,_,_,_,_,s2,rfl,E27.keptP,?_⟩
     intro w28 hs28
     have E2527:=E26.trans E27
     refine J4 y1u y2x H4 w28 hs28.here ((E25.trans E2527).hst hs28) (BV ⟨Bp BV25.1 E2527,BV25.2⟩ hs28) ?_
     rw [hcf]
     unfold Sp.jII
     simp only [htx',if_true,hD,hk1,hk2]
     rfl
    ·have h7:kd=7:=by simpa using h7
     intro H4 w13 hs13
     have E13:=E.hst hs13
     have BV13:=BV hBV hs13
     intro p10 w29 h10
     have E29:Pure w13 w29:=Ext.new h10
     rw [hxv]
     refine (place x s [1] w13 p10 w29 E13 hT h10 (by simp)).mono ?_
     rintro _ w30 ⟨s1,rfl,_,E30⟩
     generalize hk1:Sp.jCP x [1]=y1 at *
     obtain ⟨y1k,y1f,y1t,y1u,y1x,y1s⟩:=y1
     refine ⟨_,_,_,_,_,s1,rfl,E30.keptP,?_⟩
     intro w31 hs31
     have E1330:=E29.trans E30
     refine J4 y1u ⟨#[]⟩ H4 w31 hs31.here ((E13.trans E1330).hst hs31) (BV ⟨Bp BV13.1 E1330,BV13.2⟩ hs31) ?_
     rw [hcf]
     unfold Sp.jII
     subst h7
     simp only [hk1]
     rfl
    ·have h7:kd≠7:=by simpa using h7
     have htx':Sp.vZ kd=false:=htx
     intro H4 w13 hs13
     have E13:=E.hst hs13
     have BV13:=BV hBV hs13
     intro p11 w32 h11
     have E32:Pure w13 w32:=Ext.new h11
     rw [hxv]
     refine (place x s [0,1] w13 p11 w32 E13 hT h11 (by simp)).mono ?_
     rintro _ w33 ⟨s1,rfl,_,E33⟩
     generalize hk1:Sp.jCP x [0,1]=y1 at *
     obtain ⟨y1k,y1f,y1t,y1u,y1x,y1s⟩:=y1
     refine ⟨_,_,_,_,_,s1,rfl,E33.keptP,?_⟩
     intro w34 hs34
     have E1333:=E32.trans E33
     refine J4 y1u ⟨#[]⟩ H4 w34 hs34.here ((E13.trans E1333).hst hs34) (BV ⟨Bp BV13.1 E1333,BV13.2⟩ hs34) ?_
     rw [hcf]
     unfold Sp.jII
     have h7b:(kd == 7)=false:=by simpa using h7
     simp only [htx',h7b,hk1,Bool.false_eq_true,if_false]
     rfl
   have Edr:Pure wm wm.drew:=Ext.drew wm
   have Emd:=Em.trans Edr
   have Bmd:=Bp BVm.1 Edr
   refine ⟨fun w'=>B w',Bmd,?_⟩
   rintro _ rfl
   refine ⟨a,hat,sl,fun w' h=>(hcell w' h).1,?_,?_⟩
   ·rw [hxv]
    obtain ⟨_,S2,hL,hS2⟩:=hcell _ Bmd
    refine (jAU x s sl pp wm.drew (tS Emd).1 (tS Emd).2 hL hS2 hppl).mono ?_
    rintro _ w36 ⟨sd,rfl,hTd,E36⟩
    generalize hD:Sp.jCP x pp=D at *
    obtain ⟨dk,df,dt,du,dx,dks⟩:=D
    refine ⟨_,_,_,_,_,sd,rfl,E36.keptP,?_⟩
    intro p12 w37 h12
    have E37:=E36.trans (Ext.new h12)
    have b12:=Box.of_new h12
    have hnh:¬ Hm p12.block:=by intro hh;have:=hm.lt _ hh;have:=h12.at_size;have:=(Edr.trans E36).size;omega
    have B36:=Bp Bmd E36
    have B37:=Bp Bmd E37
    have hTd0:TreeAt S w0 sd (Sp.Tree.mk dk df dt du dx dks):=hTd.back Emd hSw
    refine ⟨B37,b12.canWs (n:=6) (by simp),hnh,?_⟩
    rintro _ rfl
    have E38:=Ext.storeRow w37 p12 [(.int .i64 dk),(.int .i64 df),(.int .i64 dt),(.int .u64 du),(.string dx),sd.v]
    have b38:=b12.store (vs:=[(.int .i64 dk),(.int .i64 df),(.int .i64 dt),(.int .u64 du),(.string dx),sd.v]) rfl
    exact J3 p12 _ sd _ ((hm.again (Edr.trans E37).keptP).again (E38.kept (fun b hb e=>hnh (e▸hb)))) ((Emd.trans E37).own (by have:=h12.at_size;have:=(Emd.trans E36).size;omega) E38) ⟨⟨B37.1.ext E38 (New.ne h12 B36.1.blk),B37.2.1.ext E38 (New.ne h12 B36.2.1.blk),B37.2.2.1.ext E38 (New.ne h12 B36.2.2.1.blk),B37.2.2.2.ext E38 (New.ne h12 B36.2.2.2.blk)⟩,BVm.2⟩ b38 hnh hTd0
   ·rw [hxv]
    intro p13 w39 h13
    have E39:Pure wm.drew w39:=Ext.new h13
    have B39:=Bp Bmd E39
    have Em39:=Emd.trans E39
    have b13:=Box.of_new h13
    have hnh:¬ Hm p13.block:=by intro hh;have:=hm.lt _ hh;have:=h13.at_size;have:=Edr.size;omega
    obtain ⟨_,S2,hL,hS2⟩:=hcell _ B39
    refine ⟨B39,(jAU x s sl pp w39 (tS Em39).1 (tS Em39).2 hL hS2 hppl).mono ?_⟩
    rintro _ w40 ⟨sd,rfl,hTd,E40⟩
    generalize hD:Sp.jCP x pp=D at *
    obtain ⟨dk,df,dt,du,dx,dks⟩:=D
    have hTd0:TreeAt S w0 sd (Sp.Tree.mk dk df dt du dx dks):=hTd.back Em39 hSw
    have B40:=Bp B39 E40
    have b40:=b13.pure E40
    refine ⟨_,_,_,_,_,sd,rfl,E40.keptP,b40.canWs (n:=6) (by simp),hnh,?_⟩
    rintro _ rfl
    have E41:=Ext.storeRow w40 p13 [(.int .i64 dk),(.int .i64 df),(.int .i64 dt),(.int .u64 du),(.string dx),sd.v]
    have b41:=b40.store (vs:=[(.int .i64 dk),(.int .i64 df),(.int .i64 dt),(.int .u64 du),(.string dx),sd.v]) rfl
    exact J3 p13 _ sd _ ((hm.again ((Edr.trans E39).trans E40).keptP).again (E41.kept (fun b hb e=>hnh (e▸hb)))) ((Em39.trans E40).own (by have:=h13.at_size;have:=Emd.size;omega) E41) ⟨⟨B40.1.ext E41 (New.ne h13 Bmd.1.blk),B40.2.1.ext E41 (New.ne h13 Bmd.2.1.blk),B40.2.2.1.ext E41 (New.ne h13 Bmd.2.2.1.blk),B40.2.2.2.ext E41 (New.ne h13 Bmd.2.2.2.blk)⟩,BVm.2⟩ b41 hnh hTd0
  ·have hj3:j=3:=by have:=of_decide_eq_false hc2;simp only at this;omega
   subst hj3
   have:Sp.deals.drop 3=[]:=rfl
   rw [this,Sp.qS] at heqd
   rw [heqd] at heq
   simp only at heq
   have hkw:IntKind.i64.wrap (kd+1)=((q+1:Nat):Int)+1:=by rw [IntWalk.i64_in _ (by omega)];omega
   rw [hkw]
   exact ⟨⟨q+1,rfl,hq7,Em,BVm,by rw [heq];congr 1 <;> omega⟩,by show (8 - _:Int).toNat<(8 - _:Int).toNat;omega⟩
 ·have hq7:q=7:=by have:=of_decide_eq_false hc;omega
  subst hq7
  rw [Nat.sub_self,Sp.yO] at heq
  intro w42 hs42
  exact hK _ _ _ _ _ _ _ ⟨by unfold Sp.qQ;rw [heq];rfl,El.hst hs42⟩
theorem tZ (p:Addr) {L:Sp.Pool} (hW:Sp.Wf L) (t:Int) (w0:World) (F:NP) (hP:yA w0 p L F) :
  Calls prog 42 #[.pointer (some p),.int .i64 t] w0 (fun e w'=>∃k f c:Int,∃t':ByteArray,∃g r:Bool,e=.returned (.tuple #[.agg #[.int .i64 k,.int .i64 f,.int .u64 c,.string t',.bool g],.bool r])∧(((⟨k,f,c,t',g⟩:Sp.Letter),r)=Sp.xS L t∧Pure w0 w')):=by
 suffices key:∀K:Int→Int→Int→ByteArray→Bool→Bool→WP,(∀k f c t' g r w',(((⟨k,f,c,t',g⟩:Sp.Letter),r)=Sp.xS L t∧Pure w0 w')→K k f c t' g r w')→m_L2 (some p) t w0 K from
  w_L2 _ _ w0 _ (key _ (fun _ _ _ _ _ _ _ h=>h))
 intro K hK
 have hok:=hW.ok
 unfold m_L2
 intro H1 w1 hs1
 have E1:=hs1.first
 refine (yT p t w1 (hP.pure E1)).mono ?_
 rintro _ w2 ⟨r,rfl,hr,rfl⟩
 refine ⟨_,rfl,(Ext.refl _:Pure w2 w2).keptP,fun h=>?_,fun h=>?_⟩
 ·intro w3 hs3
  refine hK _ _ _ _ _ _ _ ⟨?_,E1.hst hs3⟩
  unfold Sp.xS
  rw [if_neg (fun hh=>by rw [hr,hh.1] at h;cases h)]
  rfl
 ·have hin:Sp.inP L t=true:=by rw [← hr];simpa using h
  refine (jAA p t w2 (hP.pure E1) hok).mono ?_
  rintro _ w4 ⟨z,rfl,hz,rfl⟩
  refine ⟨_,rfl,(Ext.refl _:Pure w4 w4).keptP,fun h2=>?_,fun h2=>?_⟩
  ·intro w5 hs5
   refine hK _ _ _ _ _ _ _ ⟨?_,E1.hst hs5⟩
   have h2:=of_decide_eq_true h2
   unfold Sp.xS
   rw [if_neg (fun hh=>hh.2 (hz▸h2))]
   rfl
  ·have h2:=of_decide_eq_false h2
   refine (uK p hW _ t w4 F rfl (hP.pure E1)).mono ?_
   rintro _ w6 ⟨s',rfl,hT,E6⟩
   generalize hD:Sp.zJ L t=D at *
   obtain ⟨dk,df,dt,du,dx,dks⟩:=D
   refine ⟨_,_,_,_,_,s',rfl,E6.keptP,?_⟩
   refine (jCQ _ s' w6 hT.lt (fun b hb=>hb.2)).mono ?_
   rintro _ w7 ⟨k,f,c,t',g,r,rfl,hrd,E7⟩
   refine ⟨_,_,_,_,_,_,rfl,E7.keptP,?_⟩
   intro w8 hs8
   refine hK _ _ _ _ _ _ _ ⟨?_,((E1.trans E6).trans E7).hst hs8⟩
   unfold Sp.xS
   rw [if_pos ⟨hin,hz▸h2⟩,hD,hrd]
abbrev MkR (S:Int×Int×Sp.Pool) (p:Addr) (F:NP) (w0 w':World):Prop:=∃F',yA w' p S.2.2 F'∧Ext F w0 w'∧∀b,F' b→F b∨w0.heap.size≤b
theorem jJK (p:Addr) (l:Sp.Letter) (w0:World) {L:Sp.Pool} {F:NP} (hP:yA w0 p L F) (hok:Sp.Ok L) :
  Calls prog 101 #[.pointer (some p),.agg #[.int .i64 l.kind,.int .i64 l.frm,.int .u64 l.c,.string l.text,.bool l.fake]] w0 (fun e w'=>∃r1 r2:Int,e=.returned (.tuple #[.int .i64 r1,.int .i64 r2])∧(r1=(qF L l).1∧r2=(qF L l).2.1∧MkR (qF L l) p F w0 w')):=by
 refine w_H4 (some p) l.kind l.frm l.c l.text l.fake w0 (fun r1 r2 w'=>r1=(qF L l).1∧r2=(qF L l).2.1∧MkR (qF L l) p F w0 w') ?_
 unfold m_H4
 rw [jDP l]
 have hF:∀b,F b→b<w0.heap.size:=fun b hb=>hP.lt hb
 refine ⟨fun hc H w2 hs=>?_,fun hc H w2 hs=>?_⟩
 ·have e:qF L l=(0,Sp.qO l,L):=by unfold qF;rw [if_pos (bne_iff_ne.1 hc)]
  rw [e];exact ⟨rfl,rfl,F,hP.pure hs.first,Ext.pure hs.first,fun b hb=>.inl hb⟩
 have hc:Sp.qO l=0:=by simpa using hc
 have e:qF L l=Sp.of L (Sp.vK l true true):=by unfold qF;rw [if_neg (by simpa using hc)]
 rw [e]
 have E2:=hs.first
 refine (jCM w2.heap.size l.kind l.frm l.c l.text l.fake true true w2 (Nat.le_refl _) (jEX hc)).mono ?_
 rintro _ w3 ⟨s3,he,hT3,E3⟩
 have hT3:TreeAt (w2.heap.size≤·) w3 s3 (Sp.vK l true true):=hT3
 have he:_=Ending.returned (.agg (qU (Sp.vK l true true) s3).toArray):=he
 generalize Sp.vK l true true=T at *
 obtain ⟨tk,tf,tt,tu,tx,tks⟩:=T
 have he:_=Ending.returned (.agg #[.int .i64 tk,.int .i64 tf,.int .i64 tt,.int .u64 tu,.string tx,s3.v]):=he
 refine ⟨tk,tf,tt,tu,tx,s3,he,E3.keptP,?_⟩
 have E03:=E2.trans E3
 refine (jCB (S:=fun b=>w2.heap.size≤b∧b<w3.heap.size) p (.mk tk tf tt tu tx tks) s3 w3 hT3.lt (hP.pure E03) hok (fun b hb hh=>by have:=hF b hb;have:=E2.size;omega) (fun b hb=>hb.2)).mono ?_
 rintro _ w4 ⟨r1,r2,rfl,h12,F',hP4,X4,hF4⟩
 obtain ⟨e1,e2⟩:=Prod.mk.inj h12
 refine ⟨r1,r2,rfl,X4.kept (fun b hb hh=>by have:=hs.old b hb;have:=hF b hh;omega),e1,e2,F',hP4,(Ext.pure E03).trans X4,fun b hb=>(hF4 b hb).imp id (fun h=>by have:=E03.size;omega)⟩
end Go.Proofs
end
section
open Go Go.SE
namespace Go.Sp
theorem jME {L:Pool} {t:Int} (h:(qD L t).2=false):(qD L t).1=yG:=by
 unfold qD at h ⊢;split
 ·rfl
 ·rename_i h';rw [if_neg h'] at h;cases h
end Go.Sp
namespace Go.Proofs
open Tryz
attribute [local irreducible] Calls
theorem jIA (q:Addr) (a b:Int) (fk:Bool) (w0:World) {L:Sp.Pool} {F:NP} (hW:Sp.Wf L) (hP:yA w0 q L F) :
  Calls prog 100 #[.pointer (some q),.int .i64 a,.int .i64 b,.bool fk] w0 (fun e w'=>∃k f c:Int,∃x:ByteArray,∃g:Bool,∃r2:Int,e=.returned (.tuple #[.agg #[.int .i64 k,.int .i64 f,.int .u64 c,.string x,.bool g],.int .i64 r2])∧((r2=Sp.xK L a b fk∧(r2=0→(⟨k,f,c,x,g⟩:Sp.Letter)=(Sp.qD L a).1))∧Pure w0 w')):=by
 suffices key:∀K:Int→Int→Int→ByteArray→Bool→Int→WP,(∀k f c x g w',(Sp.xK L a b fk=0→(⟨k,f,c,x,g⟩:Sp.Letter)=(Sp.qD L a).1)→Pure w0 w'→K k f c x g (Sp.xK L a b fk) w')→m_Z (some q) a b fk w0 K from
  w_Z _ _ _ _ w0 _ (key _ (fun _ _ _ _ _ _ h E=>⟨⟨rfl,h⟩,E⟩))
 intro K hK
 unfold m_Z
 intro H1 w1 hs1
 have E1:Pure w0 w1:=hs1.first
 have J:∀(z:Bool) (w:World),(z=true↔Sp.inP L a=false∨Sp.inP L b=false)→Pure w0 w→m_Z_j1 (some q) a b fk z w0 H1 w K:=by
  intro z w hz E;unfold m_Z_j1;refine ⟨fun h w3 hs3=>?_,fun h=>?_⟩
  ·have e:Sp.xK L a b fk=51:=by unfold Sp.xK;rw [if_pos (hz.1 h)]
   rw [e] at hK;exact hK _ _ _ _ _ _ (fun h=>by cases h) (E.hst hs3)
  have hn:¬ (Sp.inP L a=false∨Sp.inP L b=false):=fun h'=>by rw [hz.2 h'] at h;cases h
  have e0:Sp.xK L a b fk=Sp.xK L a b fk:=rfl
  conv at e0=>rhs;unfold Sp.xK;rw [if_neg hn]
  refine (tZ q hW a w F (hP.pure E)).mono ?_;rintro _ w4 ⟨k,f,c,x,g,ok,rfl,hrd,E4⟩;rw [← Sp.jBH hW] at hrd;refine ⟨k,f,c,x,g,ok,rfl,E4.keptP,fun H2 w6 hs6=>?_⟩;have E6:=(E.trans E4).hst hs6;refine (tZ q hW b w6 F (hP.pure E6)).mono ?_;rintro _ w7 ⟨k2,f2,c2,x2,g2,ok2,rfl,hrd2,E7⟩;rw [← Sp.jBH hW] at hrd2;have E67:=E6.trans E7;have n1:ok=false→k=0:=fun h=>by have:=Sp.jME (L:=L) (t:=a) (by rw [← hrd];exact h);rw [← hrd] at this;exact congrArg Sp.Letter.kind this
  have n2:ok2=false→k2=0:=fun h=>by have:=Sp.jME (L:=L) (t:=b) (by rw [← hrd2];exact h);rw [← hrd2] at this;exact congrArg Sp.Letter.kind this
  rw [← hrd,← hrd2] at e0;rw [← hrd] at hK;simp only at e0 hK;refine ⟨k2,f2,c2,x2,g2,ok2,rfl,E7.keptP,fun h2 H4 w11 hs11=>?_,fun h2=>?_⟩
  ·have hk : k ≠ 1 ∨ k2 ≠ 1 := by
    simp only [Bool.or_eq_true,Bool.not_eq_true',bne_iff_ne] at h2;rcases h2 with ((h | h) | h) | h
    ·left;rw [n1 h];omega
    ·right;rw [n2 h];omega
    ·exact .inl h
    ·exact .inr h
   rw [if_pos hk] at e0;rw [e0] at hK;exact hK _ _ _ _ _ _ (fun h=>by cases h) (E67.hst hs11)
  have hk:¬ (k≠1∨k2≠1):=by
   simp only [Bool.or_eq_false_iff,bne_eq_false_iff_eq] at h2;rintro (h | h)
   ·exact h h2.1.2
   ·exact h h2.2
  rw [if_neg hk] at e0;refine ⟨fun h3 H4 w18 hs18=>?_,fun h3 y hy=>?_⟩
  ·rw [Bool.and_eq_true,Bool.not_eq_true'] at h3;rw [if_pos h3] at e0;rw [e0] at hK;exact hK _ _ _ _ _ _ (fun h=>by cases h) (E67.hst hs18)
  have h3':¬ (fk=false∧(g || g2)=true):=fun h'=>by rw [h'.1,h'.2] at h3;cases h3
  rw [if_neg h3'] at e0;refine ⟨fun h4 H10 w20 hs20=>?_,fun h4 H10 w21 hs21=>?_⟩
  ·rw [if_pos] at e0
   ·rw [e0] at hK;exact hK _ _ _ _ _ _ (fun h=>by cases h) (E67.hst hs20)
   rw [h4] at hy;simp at hy;rcases hy with (((h | h) | h) | h)
   ·exact .inl h
   ·exact .inr (.inl h)
   ·exact .inr (.inr (.inl h))
   ·exact .inr (.inr (.inr h))
  ·rw [if_neg] at e0
   ·rw [e0] at hK;exact hK _ _ _ _ _ _ (fun _=>rfl) (E67.hst hs21)
   rw [h4] at hy;simp at hy;rintro (h | h | h | h)
   ·exact h hy.1.1.1
   ·exact h hy.1.1.2
   ·exact h hy.1.2
   ·exact h hy.2
 refine (yT q a w1 (hP.pure E1)).mono ?_
 rintro _ w2 ⟨_,rfl,rfl,hw2⟩
 subst hw2
 refine ⟨_,rfl,Kept.refl _,fun h=>?_,fun h=>?_⟩
 ·exact J true _ ⟨fun _=>.inl (by simpa using h),fun _=>rfl⟩ E1
 refine (yT q b _ (hP.pure E1)).mono ?_
 rintro _ w3 ⟨_,rfl,rfl,hw3⟩
 subst hw3
 refine ⟨_,rfl,Kept.refl _,J _ _ ?_ E1⟩
 have h:Sp.inP L a=true:=by simpa using h
 simp [h]
theorem jGK (q:Addr) (a b:Int) (w0:World) {L:Sp.Pool} {F:NP} (hW:Sp.Wf L) (hP:yA w0 q L F) :
  Calls prog 46 #[.pointer (some q),.int .i64 a,.int .i64 b] w0 (fun e w'=>∃r1 r2:Int,e=.returned (.tuple #[.int .i64 r1,.int .i64 r2])∧(r1=(Sp.qP L a b).1∧r2=(Sp.qP L a b).2.1∧MkR (Sp.qP L a b) q F w0 w')):=by
 refine w_Q3 (some q) a b w0 (fun r1 r2 w'=>r1=(Sp.qP L a b).1∧r2=(Sp.qP L a b).2.1∧MkR (Sp.qP L a b) q F w0 w') ?_
 unfold m_Q3
 have hF:∀b,F b→b<w0.heap.size:=fun b hb=>hP.lt hb
 refine (jIA q a b false w0 hW hP).mono ?_
 rintro _ w1 ⟨k,f,c,x,g,_,rfl,⟨rfl,hl⟩,E1⟩
 refine ⟨k,f,c,x,g,_,rfl,E1.keptP,fun h H w4 hs4=>?_,fun h H w4 hs4=>?_⟩
 ·have e:Sp.qP L a b=(0,Sp.xK L a b false,L):=Sp.jJE hW (bne_iff_ne.1 h)
  rw [e]
  exact ⟨rfl,rfl,F,hP.pure (E1.hst hs4),Ext.pure (E1.hst hs4),fun b hb=>.inl hb⟩
 ·have h:Sp.xK L a b false=0:=by simpa using h
  have e:Sp.qP L a b=qF L ⟨6,0,c,x,false⟩:=by
   rw [(Sp.jCY hW.ok a b),if_neg (by omega),Sp.xV,← hl h]
  rw [e]
  have E4:=E1.hst hs4
  refine (jJK q ⟨6,0,c,x,false⟩ w4 (hP.pure E4) hW.ok).mono ?_
  rintro _ w5 ⟨r3,r4,rfl,e3,e4,F',hP5,X5,hF5⟩
  refine ⟨r3,r4,rfl,X5.kept (fun b hb hh=>by have:=hs4.old b hb;have:=hF b hh;omega),e3,e4,F',hP5,(Ext.pure E4).trans X5,fun b hb=>(hF5 b hb).imp id (fun h=>by have:=E4.size;omega)⟩
theorem jGJ (q:Addr) (who a b:Int) (w0:World) {L:Sp.Pool} {F:NP} (hW:Sp.Wf L) (hP:yA w0 q L F) :
  Calls prog 50 #[.pointer (some q),.int .i64 who,.int .i64 a,.int .i64 b] w0 (fun e w'=>∃r1 r2:Int,e=.returned (.tuple #[.int .i64 r1,.int .i64 r2])∧(r1=(Sp.jCU L who a b).1∧r2=(Sp.jCU L who a b).2.1∧MkR (Sp.jCU L who a b) q F w0 w')):=by
 refine w_R3 (some q) who a b w0 (fun r1 r2 w'=>r1=(Sp.jCU L who a b).1∧r2=(Sp.jCU L who a b).2.1∧MkR (Sp.jCU L who a b) q F w0 w') ?_
 unfold m_R3
 have hF:∀b,F b→b<w0.heap.size:=fun b hb=>hP.lt hb
 refine ⟨fun h H1 w1 hs1=>?_,fun h H1 w1 hs1=>?_⟩
 ·have e:Sp.jCU L who a b=(0,2,L):=by unfold Sp.jCU;rw [if_pos (by simpa using h)]
  rw [e]
  exact ⟨rfl,rfl,F,hP.pure hs1.first,Ext.pure hs1.first,fun b hb=>.inl hb⟩
 have e0:Sp.jCU L who a b=if Sp.xK L a b true≠0 then (0,Sp.xK L a b true,L) else Sp.of L (Sp.jKT L who a b):=by unfold Sp.jCU;rw [if_neg (by simpa using h)]
 refine (jIA q a b true w1 hW (hP.pure hs1.first)).mono ?_
 rintro _ w2 ⟨k,f,c,x,g,_,rfl,⟨rfl,_⟩,E2⟩
 have E02:=hs1.first.trans E2
 refine ⟨k,f,c,x,g,_,rfl,E2.keptP,fun h2 H2 w4 hs4=>?_,fun h2 H3 w6 hs6=>?_⟩
 ·rw [if_pos (bne_iff_ne.1 h2)] at e0
  rw [e0]
  exact ⟨rfl,rfl,F,hP.pure (E02.hst hs4),Ext.pure (E02.hst hs4),fun b hb=>.inl hb⟩
 rw [if_neg (by simpa using h2)] at e0
 rw [e0]
 have E6:=E02.hst hs6
 have z6:=E6.size
 have eT:Sp.jKT L who a b=Sp.yQ who (Sp.vS (Sp.vP Sp.qN) (Sp.vS (Sp.zJ L a) (Sp.zJ L b))):=rfl
 rw [eT]
 refine (uK q hW _ a w6 F rfl (hP.pure E6)).mono ?_
 rintro _ w7 ⟨sa,he7,hTa,E7⟩
 have hTa:TreeAt (w6.heap.size≤·) w7 sa (Sp.zJ L a):=hTa
 have he7:_=Ending.returned (.agg (qU (Sp.zJ L a) sa).toArray):=he7
 have cb:=uK q hW _ b w7 F rfl (hP.pure (E6.trans E7))
 generalize Sp.zJ L a=A at hTa he7 ⊢
 obtain ⟨ak,af,aT,au,ax,aks⟩:=A
 have he7:_=Ending.returned (.agg #[.int .i64 ak,.int .i64 af,.int .i64 aT,.int .u64 au,.string ax,sa.v]):=he7
 refine ⟨ak,af,aT,au,ax,sa,he7,E7.keptP,cb.mono ?_⟩
 rintro _ w8 ⟨sb,he8,hTb,E8⟩
 have hTb:TreeAt (w7.heap.size≤·) w8 sb (Sp.zJ L b):=hTb
 have he8:_=Ending.returned (.agg (qU (Sp.zJ L b) sb).toArray):=he8
 generalize Sp.zJ L b=B at hTb he8 ⊢
 obtain ⟨bk,bf,bT,bu,bx,bks⟩:=B
 have he8:_=Ending.returned (.agg #[.int .i64 bk,.int .i64 bf,.int .i64 bT,.int .u64 bu,.string bx,sb.v]):=he8
 refine ⟨bk,bf,bT,bu,bx,sb,he8,E8.keptP,fun p4 w9 h9 H4 w11 hs11 p6 w12 h12 H5 w14 hs14 p8 w15 h15=>?_⟩
 have z7:=E7.size
 have z8:=E8.size
 have E9:Pure w8 w9:=Ext.new h9
 have z9:=E9.size
 have hp4:w8.heap.size≤p4.block:=New.own (Ext.refl w8) h9
 have b4:Box w9 p4 (qU (.mk ak af aT au ax aks) sa++qU (.mk bk bf bT bu bx bks) sb) 107:=Box.of_new h9
 have T1:TreeAt (w6.heap.size≤·) w9 ⟨some p4,2,2⟩ (Sp.vS (.mk ak af aT au ax aks) (.mk bk bf bT bu bx bks)) :=
  TreeAt.pair b4 (by show w6.heap.size≤p4.block;omega) ((hTa.pure E8).pure E9) ((hTb.mono (fun b hb=>by have hb:w7.heap.size≤b:=hb;show w6.heap.size≤b;omega)).pure E9)
 have d9:∀b,(w6.heap.size≤b∧b<w9.heap.size)→¬ H4 b:=hs11.disj (G:=fun b=>w6.heap.size≤b∧b<w9.heap.size) (fun b hb=>⟨hb.2,fun hh=>by have:=hs6.lt b hh;omega⟩)
 have T2:=T1.lt.ext hs11.ext d9
 have E12:Pure w11 w12:=Ext.new h12
 have hp6:w11.heap.size≤p6.block:=New.own (Ext.refl w11) h12
 have z11:=hs11.ext.size
 have b6:Box w12 p6 (qU (Sp.vP Sp.qN) Sl.nil++qU (Sp.vS (.mk ak af aT au ax aks) (.mk bk bf bT bu bx bks)) ⟨some p4,2,2⟩) 107:=Box.of_new h12
 have T3:TreeAt (fun b=>(w6.heap.size≤b∧b<w9.heap.size)∨b=p6.block) w12 ⟨some p6,2,2⟩ (Sp.vS (Sp.vP Sp.qN) (Sp.vS (.mk ak af aT au ax aks) (.mk bk bf bT bu bx bks))) :=
  TreeAt.pair b6 (.inr rfl) TreeAt.leaf ((T2.pure E12).mono (fun b hb=>.inl hb))
 have z12:=E12.size
 have d12:∀b,((w6.heap.size≤b∧b<w9.heap.size)∨b=p6.block)→¬ H5 b:=hs14.disj (G:=fun b=>(w6.heap.size≤b∧b<w9.heap.size)∨b=p6.block) (fun b hb=>by
  rcases hb with hb | rfl
  ·exact ⟨by omega,d9 b hb⟩
  ·exact ⟨b6.lt,fun hh=>by have:=hs11.lt _ hh;omega⟩)
 have T4:=T3.ext hs14.ext d12
 have E15:Pure w14 w15:=Ext.new h15
 have hp8:w14.heap.size≤p8.block:=New.own (Ext.refl w14) h15
 have z14:=hs14.ext.size
 have b8:Box w15 p8 (qU (Sp.vS (Sp.vP Sp.qN) (Sp.vS (.mk ak af aT au ax aks) (.mk bk bf bT bu bx bks))) ⟨some p6,2,2⟩) 107:=Box.of_new h15
 have T5:TreeAt (fun b=>w6.heap.size≤b∧b<w15.heap.size) w15 ⟨some p8,1,1⟩ (Sp.yQ who (Sp.vS (Sp.vP Sp.qN) (Sp.vS (.mk ak af aT au ax aks) (.mk bk bf bT bu bx bks)))) :=
  TreeAt.one b8 ⟨by omega,b8.lt⟩ ((T4.pure E15).mono (fun b hb=>by
   have:=E15.size;have:=b6.lt;rcases hb with hb | rfl
   ·exact ⟨hb.1,by omega⟩
   ·exact ⟨by omega,by omega⟩))
 have E011:Pure w0 w11:=(((E6.trans E7).trans E8).trans E9).hst hs11
 have E014:Pure w0 w14:=(E011.trans E12).hst hs14
 have E015:=E014.trans E15
 refine (jCB (S:=fun b=>w6.heap.size≤b∧b<w15.heap.size) q _ ⟨some p8,1,1⟩ w15 T5 (hP.pure E015) hW.ok (fun b hb hh=>by have:=hF b hb;omega) (fun b hb=>hb.2)).mono ?_
 rintro _ w16 ⟨r1,r2,rfl,h12',F',hP16,X16,hF16⟩
 obtain ⟨e1,e2⟩:=Prod.mk.inj h12'
 have hH5:∀b,H5 b→w0.heap.size≤b:=hs14.old
 refine ⟨r1,r2,rfl,X16.kept (fun b hb hh=>by have:=hH5 b hb;have:=hF b hh;omega),e1,e2,F',hP16,(Ext.pure E015).trans X16,fun b hb=>(hF16 b hb).imp id (fun h=>by have:=E015.size;omega)⟩
end Go.Proofs
end
section
open Go Go.SE
namespace Go.Proofs
open Tryz
attribute [local irreducible] Calls
structure Mine (w0:World) (p:Addr) (L:Sp.Pool) (F:NP) (w:World):Prop where
 pool:vD w p L F
 own:∀b,F b→w0.heap.size≤b
 pure:Pure w0 w
theorem Mine.then {w0 w w':World} {p:Addr} {L:Sp.Pool} {F:NP} (h:Mine w0 p L F w) (E:Pure w w'):Mine w0 p L F w':=⟨h.pool.pure E,h.own,h.pure.trans E⟩
theorem Mine.mk' {w0 w w':World} {p:Addr} {L:Sp.Pool} {F:NP} {S:Int×Int×Sp.Pool} (h:Mine w0 p L F w) (m:MkP S p F w w'):∃F',Mine w0 p S.2.2 F' w'∧Kept None w w':=by
 obtain ⟨F',hP,X,hF⟩:=m;exact ⟨F',⟨hP,fun b hb=>(hF b hb).elim (h.own b) (fun h'=>by have:=h.pure.size;omega),h.pure.trans' X (fun i hi hf=>by have:=h.own i hf;omega)⟩,X.kept (fun b h=>h.elim)⟩
theorem jOT (w0:World):Calls prog 24 #[] w0 (fun e w'=>∃r:Bool,e=.returned (.bool r)∧(r=true∧Pure w0 w')):=by
 refine w_J w0 (fun r w'=>r=true∧Pure w0 w') ?_;unfold m_J;refine (c_New w0).mono ?_;rintro _ w1 ⟨_,rfl,p,rfl,E1,F1,hP1,hF1⟩;have M1:Mine w0 p [] F1 w1:=⟨hP1,hF1,E1⟩;refine ⟨_,rfl,E1.keptP,Br.f rfl ?_⟩;refine (jJM p ⟨1,0,7,Sp.x12,false⟩ w1 M1.pool Sp.Wf.nil.ok).mono ?_;rintro _ w2 ⟨r2,r3,rfl,e2,_,m2⟩;obtain ⟨F2,M2,k2⟩:=M1.mk' m2;obtain rfl:r2=6:=e2.trans Sp.lv1;refine ⟨_,_,rfl,k2,?_⟩;refine (jJM p ⟨1,1,7,Sp.x12,false⟩ w2 M2.pool (Sp.jBP Sp.Wf.nil _).ok).mono ?_;rintro _ w3 ⟨r4,r5,rfl,e4,_,m3⟩;obtain ⟨F3,M3,k3⟩:=M2.mk' m3;obtain rfl:r4=7:=e4.trans Sp.lv2;refine ⟨_,_,rfl,k3,?_⟩;have M3:Mine w0 p Sp.v2 F3 w3:=M3;refine (xP p 6 7 w3 M3.pool Sp.lvw2.ok).mono ?_;rintro _ w4 ⟨r6,r7,rfl,e6,e7,m4⟩;obtain ⟨F4,M4,k4⟩:=M3.mk' m4;obtain rfl:r6=10:=e6.trans Sp.lv3.1;obtain rfl:r7=0:=e7.trans Sp.lv3.2;refine ⟨_,_,rfl,k4,?_⟩;have M4:Mine w0 p Sp.v3 F4 w4:=M4;refine (xP p 6 6 w4 M4.pool Sp.lvw3.ok).mono ?_;rintro _ w5 ⟨r8,r9,rfl,e8,e9,m5⟩;rw [Sp.lv4] at e8 e9 m5;obtain ⟨F5,M5,k5⟩:=M4.mk' m5;obtain rfl:r9=122:=e9;refine ⟨_,_,rfl,k5,?_⟩;have M5:Mine w0 p Sp.v3 F5 w5:=M5;refine (xP p 6 10 w5 M5.pool Sp.lvw3.ok).mono ?_;rintro _ w6 ⟨r10,r11,rfl,e10,e11,m6⟩;rw [Sp.lv5] at e10 e11 m6;obtain ⟨F6,M6,k6⟩:=M5.mk' m6;obtain rfl:r11=120:=e11;refine ⟨_,_,rfl,k6,?_⟩;have M6:Mine w0 p Sp.v3 F6 w6:=M6;refine (jCN p 1 6 7 w6 M6.pool Sp.lvw3.ok).mono ?_;rintro _ w7 ⟨r12,r13,rfl,e12,e13,m7⟩;obtain ⟨F7,M7,k7⟩:=M6.mk' m7;obtain rfl:r12=14:=e12.trans Sp.lv6.1;obtain rfl:r13=0:=e13.trans Sp.lv6.2;refine ⟨_,_,rfl,k7,?_⟩;have M7:Mine w0 p Sp.v4 F7 w7:=M7;have hok:=Sp.lvw4.ok;refine (uT p 14 w7 M7.pool hok).mono ?_;rintro _ w8 ⟨kd,f,c,x,fk,ok,rfl,hrd,E8⟩;rw [Sp.lv7] at hrd;injection hrd with h1 h2;injection h1 with ha hb hc hd he;subst ha;subst hb;subst h2;refine ⟨_,_,_,_,_,_,rfl,E8.keptP,?_⟩;rintro _ rfl;refine Br.t rfl fun H7 w23 hs23=>?_;have M8:Mine w0 p Sp.v4 F7 w8:=M7.then E8;have E23:=M8.pure.hst hs23;have hP23:=M8.pool.ext hs23.ext (hs23.disj (fun b hb=>⟨M8.pool.lt hb,id⟩));have hx:(⟨#[120]⟩:ByteArray)=Sp.x12:=rfl;refine (jAH p 10 0 7 Sp.x12 w23 hP23 hok).mono ?_;rintro _ w29 ⟨_,rfl,rfl,E29⟩;refine ⟨_,rfl,E29.keptP,?_⟩;unfold m_J_j1;refine Br.t (by rw [Sp.lv8.1];rfl) ?_;have hP29:=hP23.pure E29;refine (jAH p 6 0 7 Sp.x12 w29 hP29 hok).mono ?_;rintro _ w28 ⟨_,rfl,rfl,E28⟩;refine ⟨_,rfl,E28.keptP,?_⟩;unfold m_J_j2;refine Br.t (by rw [Sp.lv8.2.1];rfl) ?_;have hP28:=hP29.pure E28;refine (jKL (some p) 6 0 7 Sp.x12 w28 hP28 hok).mono ?_;rintro _ w27 ⟨_,rfl,rfl,E27⟩;refine ⟨_,rfl,E27.keptP,?_⟩;unfold m_J_j3;refine Br.t (by rw [Sp.lv8.2.1];rfl) ?_;have hP27:=hP28.pure E27;refine (jNG (some p) 10 w27 hP27 hok).mono ?_;rintro _ w26 ⟨r16,rfl,hr16⟩;refine ⟨_,rfl,hr16.kept,?_⟩;unfold m_J_j4;refine Br.t (by rw [hr16.rows.len,List.length_map,Sp.lv8.2.2];rfl) fun p2 w24 h24=>?_;have R2:Rws w24 78 1 ⟨some p2,1,1⟩ (tmr [14]):=Rws.lit (rs:=tmr [14]) h24 rfl (by intro q hq;obtain ⟨t,_,rfl⟩:=List.mem_map.1 hq;rfl) (by simp [tmr,maxLen]);have E24:=hr16.pure.trans (Ext.new (F:=None) h24);refine (jOU p ⟨some p2,1,1⟩ [14] w24 (hP27.pure E24) Sp.lvw4 R2.lst (by simp)).mono ?_;rintro _ w25 ⟨r15,rfl,fs,hr15,hall⟩;refine ⟨_,rfl,hr15.kept,?_,((((E23.trans E29).trans E28).trans E27).trans E24).trans hr15.pure⟩;rw [hr15.rows.len,List.length_map,Sp.lv9 hall.1];rfl
end Go.Proofs
end
section
open Go Go.SE
namespace Go.Sp
def xN (ts:List Tree):Pool:=ts.foldl (fun L t=>(of L t).2.2) []
theorem jHD (ts:List Tree):Wf (xN ts)∧(xN ts).length≤cntAll ts:=by
 have:∀(ts:List Tree) L,Wf L→Wf (ts.foldl (fun L t=>(of L t).2.2) L)∧(ts.foldl (fun L t=>(of L t).2.2) L).length≤L.length+cntAll ts:=by
  intro ts;induction ts with
  | nil=>intro L h;exact ⟨h,by simp [cntAll]⟩
  | cons t ts ih =>
   intro L h
   obtain ⟨h1,h2⟩:=ih _ (jOF h t)
   have:=jML L t
   exact ⟨h1,by rw [List.foldl_cons,cntAll];omega⟩
 obtain ⟨h1,h2⟩:=this ts [] Wf.nil;exact ⟨h1,by unfold xN;simpa using h2⟩
end Go.Sp
namespace Go.Proofs
attribute [local irreducible] Calls
structure Pl2 (w0:World) (H:NP) (w:World) (p q:Addr) (L1 L2:Sp.Pool) (F1 F2:NP):Prop where
 pure:Pure w0 w
 pool:vD w p L1 F1
 ref:yA w q L2 F2
 o1:∀b,F1 b→w0.heap.size≤b∧¬ H b∧¬ F2 b
 o2:∀b,F2 b→w0.heap.size≤b∧¬ H b
section
variable {w0 w w':World} {H H':NP} {p q:Addr} {L1 L2:Sp.Pool} {F1 F2:NP}
theorem Pl2.pureE (h:Pl2 w0 H w p q L1 L2 F1 F2) (E:Pure w w'):Pl2 w0 H w' p q L1 L2 F1 F2:=⟨h.pure.trans E,h.pool.pure E,h.ref.pure E,h.o1,h.o2⟩
theorem Pl2.first (h:Pl2 w H w' p q L1 L2 F1 F2) (E:Pure w0 w):Pl2 w0 H w' p q L1 L2 F1 F2 :=
 ⟨E.trans h.pure,h.pool,h.ref,fun b hb=>⟨Nat.le_trans E.size (h.o1 b hb).1,(h.o1 b hb).2⟩,fun b hb=>⟨Nat.le_trans E.size (h.o2 b hb).1,(h.o2 b hb).2⟩⟩
theorem Pl2.hst (h:Pl2 w0 H w p q L1 L2 F1 F2) (hs:Hst w0 H w H' w'):Pl2 w0 H' w' p q L1 L2 F1 F2:=by
 have d:∀b,b<w.heap.size→¬ H b→¬ H' b:=fun b h1 h2=>hs.disj (G:=(·=b)) (fun c e=>by subst e;exact ⟨h1,h2⟩) b rfl;have d1:∀b,F1 b→¬ H' b:=fun b hb=>d b (h.pool.lt hb) (h.o1 b hb).2.1;have d2:∀b,F2 b→¬ H' b:=fun b hb=>d b (h.ref.lt hb) (h.o2 b hb).2;exact ⟨h.pure.hst hs,h.pool.ext hs.ext d1,h.ref.ext hs.ext d2,fun b hb=>⟨(h.o1 b hb).1,d1 b hb,(h.o1 b hb).2.2⟩,fun b hb=>⟨(h.o2 b hb).1,d2 b hb⟩⟩
theorem Pl2.of1 (h:Pl2 w0 H w p q L1 L2 F1 F2) (hH:∀b,H b→b<w.heap.size) {L:Sp.Pool} {F:NP} (hP:vD w' p L F) (hE:Ext F1 w w') (hF:∀b,F b→F1 b∨w.heap.size≤b):Pl2 w0 H w' p q L L2 F F2:=by
 refine ⟨h.pure.trans' hE (fun i hi hb=>by have:=(h.o1 i hb).1;omega),hP,h.ref.ext hE (fun b hb h1=>(h.o1 b h1).2.2 hb),fun b hb=>?_,h.o2⟩;rcases hF b hb with h1 | h1
 ·exact h.o1 b h1
 ·exact ⟨by have:=h.pure.size;omega,fun hh=>by have:=hH b hh;omega,fun hh=>by have:=h.ref.lt hh;omega⟩
theorem Pl2.of2 (h:Pl2 w0 H w p q L1 L2 F1 F2) (hH:∀b,H b→b<w.heap.size) {L:Sp.Pool} {F:NP} (hP:yA w' q L F) (hE:Ext F2 w w') (hF:∀b,F b→F2 b∨w.heap.size≤b):Pl2 w0 H w' p q L1 L F1 F:=by
 refine ⟨h.pure.trans' hE (fun i hi hb=>by have:=(h.o2 i hb).1;omega),h.pool.ext hE (fun b hb h1=>(h.o1 b hb).2.2 h1),hP,fun b hb=>⟨(h.o1 b hb).1,(h.o1 b hb).2.1,fun hh=>?_⟩,fun b hb=>?_⟩
 ·rcases hF b hh with h1 | h1
  ·exact (h.o1 b hb).2.2 h1
  ·have:=h.pool.lt hb;omega
 ·rcases hF b hb with h1 | h1
  ·exact h.o2 b h1
  ·exact ⟨by have:=h.pure.size;omega,fun hh=>by have:=hH b hh;omega⟩
end
end Go.Proofs
end
section
open Go Go.SE
namespace Go.Proofs
open Tryz
attribute [local irreducible] Calls
theorem jIC {S:NP} (ts:List Sp.Tree) (s:Sl) (w0:World) (hT:TreeAt S w0 s (.mk 0 0 0 0 ⟨#[]⟩ ts)) (hS:∀b,S b→b<w0.heap.size) :
  Calls prog 23 #[s.v] w0 (fun e w'=>∃r:Bool,e=.returned (.bool r)∧((r=false→ts.length≤10∧Sp.cntAll ts≤500)∧Pure w0 w')):=by
 refine w_R1 _ w0 (fun r w'=>(r=false→ts.length≤10∧Sp.cntAll ts≤500)∧Pure w0 w') ?_
 unfold m_R1
 cases hT with
 | mk _ _ _ _ _ _ _ rs len fit row kid =>
 refine ⟨fun n i w'=>∃j:Nat,i=j∧j≤ts.length∧j≤11∧n=(Sp.cntAll (ts.take j):Nat)∧n<500∧Pure w0 w',fun _ i _=>(12 - i).toNat,⟨0,rfl,Nat.zero_le _,by omega,by simp [Sp.cntAll],by omega,Ext.refl _⟩,?_⟩
 rintro n _ wl ⟨j,rfl,hj,hj11,hn,hn4,E⟩
 unfold m_R1_l1
 refine ⟨fun h=>?_,fun h=>⟨fun hr=>?_,E⟩⟩
 ·rw [Bool.and_eq_true] at h
  have hlt:=qI len h.1
  have h10:=of_decide_eq_true h.2
  obtain ⟨a,hat,hSa,hrow⟩:=row j hlt
  have hkid:=kid j hlt
  have htk:ts.take (j+1)=ts.take j++[ts[j]]:=List.take_succ_eq_append_getElem hlt
  have hsn:=Sp.jJF (ts.take j) ts[j]
  rw [← htk] at hsn
  generalize ts[j]=x at *
  generalize rs j=sx at *
  obtain ⟨xk,xf,xt,xu,xx,xks⟩:=x
  have hrl:Row wl a (qU (.mk xk xf xt xu xx xks) sx):=E.row hrow (fun h=>h)
  refine ⟨a,hat,_,_,_,_,_,sx,hrl,?_⟩
  refine (jGH (.mk xk xf xt xu xx xks) sx 500 wl (by omega) (by omega) (hkid.pure E) (fun b hb=>by have:=hS b hb;have:=E.size;omega)).mono ?_
  rintro _ w1 ⟨r,rfl,rfl,E1⟩
  obtain ⟨p1,p2,p3⟩:=Sp.jDY (.mk xk xf xt xu xx xks) 500 (by omega)
  generalize Sp.jAJ 500 (.mk xk xf xt xu xx xks)=r at *
  refine ⟨r,rfl,?_⟩
  rw [IntWalk.i64_in _ (by omega),IntWalk.i64_in _ (by omega)]
  refine ⟨fun h=>⟨(fun h=>by cases h),E.trans E1⟩,fun h=>?_⟩
  have h:=of_decide_eq_false h
  have hc:=p3 (by omega)
  refine ⟨⟨j+1,by omega,hlt,by omega,?_,by omega,E.trans E1⟩,by show (12 - ((j:Int)+1)).toNat<(12 - (j:Int)).toNat;omega⟩
  rw [hsn];omega
 ·have hr:=of_decide_eq_false hr
  have hjl:j=ts.length:=by
   rw [Bool.and_eq_false_iff] at h;rcases h with h | h
   ·exact qK len hj h
   ·have:=of_decide_eq_false h;omega
  subst hjl
  rw [List.take_length] at hn
  exact ⟨by omega,by omega⟩
theorem jGL {S:NP} (ts:List Sp.Tree) (s:Sl) (w0:World) (hT:TreeAt S w0 s (.mk 0 0 0 0 ⟨#[]⟩ ts)) (hS:∀b,S b→b<w0.heap.size) (hn:ts.length≤10) :
  Calls prog 25 #[s.v] w0 (fun e w'=>∃r1:Option Addr,∃r2:Option Addr,∃r4:Bool,e=.returned (.tuple #[.pointer r1,.pointer r2,.bool r4])∧∃p q F1 F2,r1=some p∧r2=some q∧r4=true∧Pl2 w0 None w' p q (Sp.xN ts) (Sp.xN ts) F1 F2):=by
 suffices key:∀K:Option Addr→Option Addr→Bool→WP,(∀p q F1 F2 H w',Pl2 w0 H w' p q (Sp.xN ts) (Sp.xN ts) F1 F2→K (some p) (some q) true w')→m_J1 s w0 K from
  w_J1 _ w0 _ (key _ (fun p q F1 F2 H w' h=>⟨p,q,F1,F2,rfl,rfl,rfl,h.pure,h.pool,h.ref,fun b hb=>⟨(h.o1 b hb).1,id,(h.o1 b hb).2.2⟩,fun b hb=>⟨(h.o2 b hb).1,id⟩⟩))
 intro K hK
 cases hT with
 | mk _ _ _ _ _ _ _ rs len fit row kid =>
 unfold m_J1
 refine (c_New w0).mono ?_
 rintro _ w1 ⟨_,rfl,p,rfl,E1,F1,hP1,hF1⟩
 refine ⟨_,rfl,E1.keptP,?_⟩
 refine (jJH w1).mono ?_
 rintro _ w2 ⟨_,rfl,q,F2,rfl,hP2,E2,hF2⟩
 refine ⟨_,rfl,E2.keptP,Br.f rfl ?_⟩
 have S0:Pl2 w0 None w2 p q [] [] F1 F2:=⟨E1.trans E2,hP1.pure E2,hP2,
  fun b hb=>⟨hF1 b hb,id,fun h2=>by have:=hF2 b h2;have:=hP1.lt hb;omega⟩,fun b hb=>⟨by have:=hF2 b hb;have:=E1.size;omega,id⟩⟩
 refine ⟨fun i H w'=>∃j:Nat,i=j∧j≤ts.length∧∃F1 F2,Pl2 w0 H w' p q (Sp.xN (ts.take j)) (Sp.xN (ts.take j)) F1 F2,fun i _=>((ts.length:Int) - i).toNat,⟨0,rfl,Nat.zero_le _,F1,F2,S0⟩,?_⟩
 rintro _ Hl wl hl ⟨j,rfl,hj,F1,F2,hq⟩
 unfold m_J1_l1
 refine ⟨fun h=>?_,fun h=>?_⟩
 ·have hlt:=qI len h
  have htk:ts.take (j+1)=ts.take j++[ts[j]]:=List.take_succ_eq_append_getElem hlt
  obtain ⟨hW,_⟩:=Sp.jHD (ts.take j)
  have hstep:Sp.xN (ts.take (j+1))=(Sp.of (Sp.xN (ts.take j)) ts[j]).2.2:=by rw [htk];unfold Sp.xN;rw [List.foldl_append];rfl
  generalize Sp.xN (ts.take j)=Q at *
  obtain ⟨a,hat,hSa,hrow⟩:=row j hlt
  have hkid:=kid j hlt
  generalize ts[j]=x at *
  generalize rs j=sx at *
  obtain ⟨xk,xf,xt,xu,xx,xks⟩:=x
  have hrl:Row wl a (qU (.mk xk xf xt xu xx xks) sx):=hq.pure.row hrow (fun h=>h)
  refine ⟨a,hat,_,_,_,_,_,sx,hrl,?_⟩
  refine (c_Of (S:=S) p (.mk xk xf xt xu xx xks) sx wl (hkid.pure hq.pure) hq.pool hW.ok (fun b hb hh=>by have:=(hq.o1 b hb).1;have:=hS b hh;omega) (fun b hb=>by have:=hS b hb;have:=hq.pure.size;omega)).mono ?_
  rintro _ w3 ⟨r3,r4,rfl,h34,F1',hP3,E3,hF3⟩
  have k3:Kept Hl wl w3:=E3.kept (fun b hb h1=>(hq.o1 b h1).2.1 hb)
  refine ⟨_,_,rfl,k3,?_⟩
  have hq3:=hq.of1 (fun b hb=>hl.lt b hb) hP3 E3 hF3
  have hl3:=hl.again k3
  have hr3:Row w3 a (qU (.mk xk xf xt xu xx xks) sx):=hq3.pure.row hrow (fun h=>h)
  refine ⟨a,hat,_,_,_,_,_,sx,hr3,?_⟩
  refine (jCB (S:=S) q (.mk xk xf xt xu xx xks) sx w3 (hkid.pure hq3.pure) hq3.ref hW.ok (fun b hb hh=>by have:=(hq3.o2 b hb).1;have:=hS b hh;omega) (fun b hb=>by have:=hS b hb;have:=hq3.pure.size;omega)).mono ?_
  rintro _ w4 ⟨r5,r6,rfl,h56,F2',hP4,E4,hF4⟩
  have k4:Kept Hl w3 w4:=E4.kept (fun b hb h1=>(hq3.o2 b h1).2 hb)
  refine ⟨_,_,rfl,k4,?_⟩
  have hq4:=hq3.of2 (fun b hb=>hl3.lt b hb) hP4 E4 hF4
  injection h34 with e3 e4
  injection h56 with e5 e6
  refine Br.f (by rw [e4,e6,e3,e5];simp) ?_
  intro H1 w6 hs6
  rw [vM hlt (by omega)]
  refine ⟨⟨j+1,rfl,hlt,F1',F2',?_⟩,uA hlt⟩
  rw [hstep]
  exact hq4.hst hs6
 ·have hge:=qK len hj h
  subst hge
  rw [List.take_length] at hq
  exact hK _ _ _ _ _ _ hq
theorem c_kids (p:Addr) (t:Int) (w:World) {L:Sp.Pool} {F:NP} (hP:vD w p L F) (hok:Sp.Ok L):Calls prog 103 #[.pointer (some p),.int .i64 t] w (fun e w'=>∃s:Sl,e=.returned s.v∧(Lst (fun b=>w.heap.size≤b∧b<w'.heap.size) w' 1 s (tmr (Sp.zS (Sp.zD L t)))∧Pure w w')):=by
 refine w_Q2 _ _ w (fun s w'=>Lst (fun b=>w.heap.size≤b∧b<w'.heap.size) w' 1 s (tmr (Sp.zS (Sp.zD L t)))∧Pure w w') ?_;unfold m_Q2;refine (jFE p t w hP hok).mono ?_;rintro _ w1 ⟨k,f,t',u,x,a,b,r,rfl,⟨hn,_⟩,E1⟩;refine ⟨_,_,_,_,_,_,_,_,rfl,?_⟩;intro p2 w2 h2;have E2:Pure w w2:=E1.trans (Ext.new h2);have o2:=New.own E1 h2;refine bx 7 (Box.of_new h2) rfl rfl (fun w3 b2 E=>?_);have E3:Pure w w3:=E2.own o2 E;refine ⟨k,b2.cell0,?_⟩;refine (jHT k w3).mono ?_;rintro _ w4 ⟨s1,s2,s3,s4,s5,ok,rfl,⟨hs,_⟩,E4⟩;refine ⟨_,_,_,_,_,_,rfl,?_⟩;have b24:=b2.pure E4;intro p3 w5 h5;have E5:Pure w4 w5:=Ext.new h5;have b25:=b24.pure E5;have ne:p2.block≠p3.block:=h5.ne b24.blk;have E05:Pure w w5:=(E3.trans E4).trans E5;have o5:=New.own (E3.trans E4) h5;refine bx 5 (Box.of_new h5) rfl rfl (fun w6 b3 E=>?_);have b26:=b25.ext E ne;have E06:Pure w w6:=E05.own o5 E;refine ⟨a,b26.cell rfl,b,b26.cell rfl,?_⟩;intro p4 w7 h7;have E7:Pure w6 w7:=Ext.new h7;have b4:=Box.of_new h7;have hsh:Sp.shapeOf k=⟨s1,s2,s3,s4,s5⟩:=hs.symm;have hk5:s5=0∨s5=1∨s5=2:=by have:=Sp.tM k;rw [hsh] at this;exact this
 refine ⟨s5,(b3.pure E7).cell rfl,_,jJX p4 s5 w7 hk5,?_,E06.trans E7⟩;have hks:Sp.zS (Sp.zD L t)=[a,b].take s5.toNat:=by rw [← hn];simp [Sp.zS,hsh]
 rw [hks];have z:=h7.at_size;have z6:=E06.size;have zl:=b4.lt;refine ⟨by rcases hk5 with rfl | rfl | rfl <;> rfl,fun i hi=>?_⟩;rw [yW] at hi;have hi2:i<s5.toNat:=by simp at hi;omega
 refine ⟨p4.add (i*1),⟨by omega,by show (i:Int)<(s5.toNat:Int);omega,p4,rfl,rfl⟩,by rw [zW];omega,?_⟩;intro j hj;have hj1:j<1:=by simp only [tmr,List.getElem_map,List.length_cons,List.length_nil] at hj;omega
 have hj0:j=0:=by omega
 subst hj0;rw [uP];have h01:i=0∨i=1:=by omega
 rcases h01 with rfl | rfl
 ·rw [b4.cell (i:=0*1+0) rfl];simp [tmr]
 ·rw [b4.cell (i:=1*1+0) rfl];simp [tmr]
theorem jPH (p:Addr) {L:Sp.Pool} (hW:Sp.Wf L):∀(n:Nat) (t:Int) (w0:World) (F:NP),t.toNat=n→vD w0 p L F →
  Calls prog 48 #[.pointer (some p),.int .i64 t] w0 (RetT w0.heap.size w0 (Sp.zJ L t)):=by
 intro n
 induction n using Nat.strongRecOn with
 | _ n ih =>
 intro t w0 F hn hP
 suffices key:∀K:Int→Int→Int→Int→ByteArray→Sl→WP,(∀k f t' u x s' w' ks,Sp.zJ L t=.mk k f t' u x ks→TreeAt (w0.heap.size≤·) w' s' (.mk k f t' u x ks)→Pure w0 w'→K k f t' u x s' w')→m_F1 (some p) t w0 K by
  refine (w_F1 _ _ w0 (fun k f t' u x s' w'=>∃ks,Sp.zJ L t=.mk k f t' u x ks∧TreeAt (w0.heap.size≤·) w' s' (.mk k f t' u x ks)∧Pure w0 w') (key _ (fun k f t' u x s' w' ks h1 h2 h3=>⟨ks,h1,h2,h3⟩))).mono ?_;rintro _ w' ⟨k,f,t',u,x,s',rfl,ks,h1,h2,h3⟩;rw [h1];exact ⟨s',rfl,h2,h3⟩
 intro K hK
 have hok:=hW.ok
 have hnil:∀b,¬ Sl.nil.blk b:=fun b hb=>by obtain ⟨a,h,_⟩:=hb;cases h
 unfold m_F1
 intro p2 w1 h1
 have E1:Pure w0 w1:=Ext.new h1
 have b1:=Box.of_new h1
 have z1:=h1.at_size
 have l1:=b1.lt
 refine (jFE p t w1 (hP.pure E1) hok).mono ?_
 rintro _ w2 ⟨k,f,t',u,x,a,b,r,rfl,⟨hnd,hr⟩,E2⟩
 refine ⟨_,_,_,_,_,_,_,_,rfl,?_⟩
 intro p3 w3 h3
 have b2:=b1.pure E2
 have n23:p2.block≠p3.block:=h3.ne b2.blk
 have E3:Pure w0 w3:=(E1.trans E2).trans (Ext.new h3)
 have o3:=New.own (E1.trans E2) h3
 have b23:=b2.pure (Ext.new h3:Pure w2 w3)
 refine bx 7 (Box.of_new h3) rfl rfl (fun w4 b3 X4=>?_)
 have b24:=b23.ext X4 n23
 have E4:Pure w0 w4:=E3.own o3 X4
 refine ⟨fun h=>?_,fun h=>?_⟩
 ·have hin:Sp.inP L t=false:=by rw [← hr];simpa using h
  refine bx 6 b24 rfl rfl (fun w5 b5 X5=>⟨_,_,_,_,_,Sl.nil,b5.row,?_⟩)
  exact hK _ _ _ _ _ _ _ [] (by rw [Sp.jAP hin];rfl) TreeAt.leaf (E4.own (by omega) X5)
 ·have hin:Sp.inP L t=true:=by rw [← hr];simpa using h
  have htr:=Sp.qB hW hin
  have hnode:=hW.node hin
  obtain ⟨_,_,_,_,hkid,_,_⟩:=hnode
  have hpos:=Sp.qC.1 hin
  refine ⟨k,b3.cell0,f,b3.cell rfl,t',b3.cell rfl,u,b3.cell rfl,x,b3.cell rfl,?_⟩
  intro p4 w6 h6
  have n24:p2.block≠p4.block:=h6.ne b24.blk
  have E6:Pure w4 w6:=Ext.new h6
  have o6:=New.own E4 h6
  have b26:=b24.pure E6
  refine bx 6 (Box.of_new h6) rfl rfl (fun w7 b4 X7=>?_)
  have b27:=b26.ext X7 n24
  have E7:Pure w0 w7:=(E4.trans E6).own o6 X7
  refine (c_kids p t w7 (hP.pure E7) hok).mono ?_
  rintro _ w8 ⟨r2,rfl,hL,E8⟩
  refine ⟨r2,rfl,?_⟩
  generalize hks:Sp.zS (Sp.zD L t)=ks at *
  have hkl:ks.length≤2:=by rw [← hks,Sp.jLA];have:=Sp.tM (Sp.zD L t).kind;omega
  have hrl:r2.len=ks.length:=by rw [hL.len,yW]
  have q7:=b4.lt
  have q8:=E8.size
  refine ⟨fun i w=>∃(j:Nat) (xs:Sl) (ps:List (Sp.Tree×Sl)),i=j∧j≤ks.length∧Pure w0 w∧w8.heap.size≤w.heap.size∧Lst (fun b=>w7.heap.size≤b∧b<w8.heap.size) w 1 r2 (tmr ks)∧Box w p2 [.int .i64 0,.int .i64 0,.int .i64 0,.int .u64 0,.string ⟨#[]⟩,Sl.nil.v] 107∧Box w p4 [.int .i64 k,.int .i64 f,.int .i64 t',.int .u64 u,.string x,xs.v] 107 ∧
   Rws w 107 6 xs (ps.map jOA)∧(∀b,xs.blk b→w8.heap.size≤b)∧(∀q∈ps,TreeAt (fun b=>w8.heap.size≤b∧¬ xs.blk b) w q.2 q.1)∧ps.map Prod.fst=(ks.take j).map (Sp.zJ L),fun i _=>((ks.length:Int) - i).toNat,⟨0,Sl.nil,[],rfl,Nat.zero_le _,E7.trans E8,Nat.le_refl _,hL,b27.pure E8,b4.pure E8,Rws.nil _ _ _,fun b hb=>(hnil b hb).elim,fun q hq=>by simp at hq,by simp⟩,?_⟩
  rintro _ w ⟨j,xs,ps,rfl,hj,E,zw,hLw,b2w,b4w,hxs,hxo,hps,hpf⟩
  have hpl:ps.length=j:=by have:=congrArg List.length hpf;simp at this;omega
  unfold m_F1_l1
  refine ⟨fun h=>?_,fun h=>?_⟩
  ·have hlt:=qI hrl h
   obtain ⟨ad,hat,hSa,hc⟩:=jDH hLw hlt
   refine ⟨ad,hat,ks[j],hc,fun w=>Box w p4 [.int .i64 k,.int .i64 f,.int .i64 t',.int .u64 u,.string x,xs.v] 107,b4w.pure (Ext.drew w:Pure _ _),?_⟩
   rintro _ rfl
   refine ⟨xs,fun _ h=>h.cell rfl,?_⟩
   have Ed:Pure w w.drew:=Ext.drew w
   have hkj:=hkid ks[j] (List.getElem_mem hlt)
   have hkp:=Sp.qC.1 hkj.1
   refine (ih ks[j].toNat (by omega) ks[j] w.drew F rfl (hP.pure (E.trans Ed))).mono ?_
   rintro _ w10 ⟨s',rfl,hTb,E10⟩
   generalize hTt:Sp.zJ L ks[j]=tb at *
   obtain ⟨k2,f2,t2,u2,x2,ks2⟩:=tb
   have E10':Pure w w10:=Ed.trans E10
   refine ⟨_,_,_,_,_,s',rfl,b4w.pure E10',?_⟩
   intro p5 w11 h11
   have E11:Pure w w11:=E10'.trans (Ext.new h11)
   refine ⟨b4w.pure E11,?_⟩
   have zd:w.drew.heap.size=w.heap.size:=rfl
   have z10:=E10.size
   have z11:=(Ext.new h11:Pure w10 w11).size
   have np4:¬ xs.blk p4.block:=fun hb=>by have:=hxo _ hb;omega
   have np2:¬ xs.blk p2.block:=fun hb=>by have:=hxo _ hb;have:=b27.lt;omega
   obtain ⟨s1,w12,hr12,hR12,X12,hb12⟩:=(hxs.pure E11).append (P:=prog) (ty:=66) (c:=1) jFQ (r:=qU (.mk k2 f2 t2 u2 x2 ks2) s') (Box.of_new h11).row rfl (jFM _ _) (by simp;omega) (by simp [maxLen];omega)
   have b412:=(b4w.pure E11).ext X12 np4
   refine ⟨s1,w12,hr12,b412,b412.canW (by simp),?_⟩
   rintro _ rfl
   have X13:=Ext.setCell (w:=w12) (p4.add 5) s1.v
   rw [zW] at X13
   have z12:=X12.size
   have z13:=X13.size
   rw [vM hlt (by omega)]
   have hs1:∀b,s1.blk b→xs.blk b∨w.heap.size≤b:=fun b hb=>(hb12 b hb).imp_right (fun h=>by omega)
   have hs1o:∀b,s1.blk b→w8.heap.size≤b:=fun b hb=>(hs1 b hb).elim (hxo b) (fun h=>by omega)
   have np4':¬ s1.blk p4.block:=fun hb=>by have:=hs1o _ hb;omega
   have q12:=b412.lt
   refine ⟨⟨j+1,s1,ps++[(.mk k2 f2 t2 u2 x2 ks2,s')],rfl,hlt,?_,by omega,?_,?_,b412.set 5 s1.v,?_,hs1o,?_,?_⟩,uA hlt⟩
   ·exact ((E.trans E11).trans' X12 (fun i hi hs=>by have:=hxo i hs;have:=E7.size;omega)).trans' X13 (fun i hi e=>by omega)
   ·exact ((hLw.pure E11).ext X12 (fun b hb hs=>by have:=hxo b hs;omega)).ext X13 (fun b hb e=>by omega)
   ·exact ((b2w.pure E11).ext X12 np2).ext X13 n24
   ·have:=hR12.ext X13 (fun b hb e=>np4' (e▸hb))
    simpa [jOA] using this
   ·intro q hq
    rcases List.mem_append.1 hq with h | h
    ·have h':=((hps q h).lt.pure E11).ext X12 (fun b hb hs=>hb.1.2 hs)
     refine (h'.ext X13 (fun b hb e=>by have:=hb.1.1;omega)).mono (fun b hb=>⟨hb.1.1,fun hs=>(hs1 b hs).elim hb.1.2 (fun h=>by have:=hb.2;omega)⟩)
    ·simp only [List.mem_singleton] at h;subst h
     have h':=((hTb.lt.pure (Ext.new h11:Pure w10 w11)).ext X12 (fun b hb hs=>by have:=hxs.lt hs;have:=hb.1;omega))
     refine (h'.ext X13 (fun b hb e=>by have:=hb.1;omega)).mono (fun b hb=>⟨by have:=hb.1;omega,fun hs=>(hb12 b hs).elim (fun h=>by have:=hxs.lt h;have:=hb.1;omega) (fun h=>by have:=hb.2;omega)⟩)
   ·rw [List.map_append,hpf,List.take_succ_eq_append_getElem hlt,List.map_append]
    simp [hTt]
  ·have hge:=qK hrl hj h
   subst hge
   rw [List.take_length] at hpf
   refine ⟨k,f,t',u,x,xs,b4w.row,bx 6 b2w rfl rfl (fun w14 b14 X14=>⟨k,f,t',u,x,xs,b14.row,?_⟩)⟩
   have np2:¬ xs.blk p2.block:=fun hb=>by have:=hxo _ hb;have:=b27.lt;omega
   have hT:=TreeAt.of_pairs (S:=fun b=>w0.heap.size≤b) (k:=k) (f:=f) (t:=t') (u:=u) (x:=x) (hxs.ext X14 (fun b hb e=>np2 (e▸hb))) (fun b hb=>by have:=hxo b hb;have:=E7.size;omega) (fun q hq=>?_) (by omega)
   ·rw [hpf] at hT
    rw [← hnd] at htr
    exact hK _ _ _ _ _ _ _ _ htr hT (E.own (by omega) X14)
   ·exact ((hps q hq).ext X14 (fun b hb e=>by have:=hb.1;have:=b27.lt;omega)).mono (fun b hb=>by have:=hb.1;have:=E7.size;omega)
end Go.Proofs
end
section
open Go Go.SE
namespace Go.Sp
theorem jOL {L:Pool} (hok:Ok L) (a b:Int):(qP L a b).2.2.length≤L.length+40:=by
 rw [jCY hok];split
 ·simp
 ·unfold Go.Proofs.qF;split
  ·simp
  ·have h1:=jML L (vK (xV L a) true true);have h2:=jFB (xV L a) true true;omega
theorem jLS {L:Pool} {a b:Int} (h:xK L a b true=0):(xK L a b false=0↔((qD L a).1.fake || (qD L b).1.fake)=false):=by
 unfold xK at *;split at h
 ·cases h
 split at h
 ·cases h
 split at h
 ·cases h
 split at h
 ·cases h
 rename_i h1 h2 _ h4;rw [if_neg h1,if_neg h2];by_cases hf:((qD L a).1.fake || (qD L b).1.fake)=true
 ·rw [if_pos ⟨rfl,hf⟩,hf];simp
 ·rw [if_neg (fun h=>hf h.2),if_neg h4];simpa using hf
theorem jLQ {L:Pool} {a b:Int} (h:xK L a b false=0):((qD L a).1.fake || (qD L b).1.fake)=false:=by
 unfold xK at h;split at h
 ·cases h
 split at h
 ·cases h
 split at h
 ·cases h
 rename_i h3;cases hf:((qD L a).1.fake || (qD L b).1.fake) with
 | false=>rfl
 | true=>exact absurd ⟨rfl,hf⟩ h3
theorem jNY {L:Pool} (hW:Wf L) (hl:L.length<60000) {a b:Int} (h:xK (qP L a b).2.2 a b true=0) :
  ((qD (qP L a b).2.2 a).1.fake || (qD (qP L a b).2.2 b).1.fake)=!((qP L a b).2.1 == 0):=by
 by_cases ht:xK L a b false=0
 ·obtain ⟨e1,_,_,_,M,e2⟩:=jMY hW hl ht
  obtain ⟨ia,ib⟩:=jLR ht
  have hw:=jGF hW a b
  rw [e1]
  rw [e2] at hw ⊢
  rw [jCV hw ia,jCV hw ib,jLQ ht];rfl
 ·have e:=jJE hW ht
  rw [e] at h ⊢
  simp only at h ⊢
  have hf:((qD L a).1.fake || (qD L b).1.fake)=true:=by
   cases hf:((qD L a).1.fake || (qD L b).1.fake) with
   | true=>rfl
   | false=>exact absurd ((jLS h).2 hf) ht
  rw [hf]
  have:(xK L a b false == 0)=false:=by rw [beq_eq_false_iff_ne];exact ht
  rw [this];rfl
theorem jJR {L M:Pool} {a t who:Int} (hw:who=0∨who=1) (h:qD M t=(xV L a,true)):jNN M t who (xV L a).c (xV L a).text=0:=by
 unfold jNN;rw [h,if_pos rfl];unfold xV yI;rcases hw with rfl | rfl <;> simp [Letter.fact,jIM]
end Go.Sp
namespace Go.Proofs
open Tryz
attribute [local irreducible] Calls
theorem jAC {S:NP} (ts:List Sp.Tree) (s:Sl) (a b who:Int) (w0:World) (hT:TreeAt S w0 s (.mk 0 0 0 0 ⟨#[]⟩ ts)) (hS:∀b,S b→b<w0.heap.size) :
  Calls prog 10 #[.agg #[s.v,.int .i64 a,.int .i64 b,.int .i64 who]] w0 (fun e w'=>∃r:Bool,e=.returned (.bool r)∧(r=true∧Pure w0 w')):=by
 refine w_M _ _ _ _ w0 (fun r w'=>r=true∧Pure w0 w') ?_
 unfold m_M
 intro H w2 hs2
 have E2:=hs2.first
 have up:∀{w:World},Pure w0 w→∀b,S b→b<w.heap.size:=fun E b hb=>by have:=hS b hb;have:=E.size;omega
 refine (jIC ts s w2 (hT.pure E2) (up E2)).mono ?_
 rintro _ w3 ⟨z,rfl,hz,E3⟩
 have E03:=E2.trans E3
 have live:∀(H':NP) (w:World),Pure w0 w→Calls prog 24 #[] w (fun e w'=>∃r:Bool,e=.returned (.bool r)∧Kept H' w w'∧(r=true∧Pure w0 w')):=fun H' w E=>by
  refine (jOT w).mono ?_;rintro _ w' ⟨_,rfl,rfl,E'⟩;exact ⟨_,rfl,E'.keptP,rfl,E.trans E'⟩
 refine ⟨z,rfl,E3.keptP,fun h=>live H w3 E03,fun h=>?_⟩
 obtain ⟨hn,hc⟩:=hz h
 refine (jGL ts s w3 (hT.pure E03) (up E03) hn).mono ?_
 rintro _ w5 ⟨_,_,_,rfl,p,q,F1,F2,rfl,rfl,rfl,P5⟩
 refine ⟨_,_,_,rfl,P5.pure.keptP,Br.f rfl ?_⟩
 obtain ⟨hW,hlen⟩:=Sp.jHD ts
 generalize Sp.xN ts=L at *
 have hl:L.length<59000:=by omega
 have z3:=E03.size
 have hH:∀b,H b→b<w3.heap.size:=fun b hb=>by have:=hs2.lt b hb;have:=E3.size;omega
 have z5:=P5.pure.size
 have P:Pl2 w0 H w5 p q L L F1 F2:=⟨E03.trans P5.pure,P5.pool,P5.ref,fun b hb=>⟨by have:=(P5.o1 b hb).1;omega,fun h=>by have:=(P5.o1 b hb).1;have:=hH b h;omega,(P5.o1 b hb).2.2⟩,fun b hb=>⟨by have:=(P5.o2 b hb).1;omega,fun h=>by have:=(P5.o2 b hb).1;have:=hH b h;omega⟩⟩
 refine (xP p a b w5 P.pool hW.ok).mono ?_
 rintro _ w6 ⟨r6,r7,rfl,e6,e7,F6,hP6,X6,hF6⟩
 refine ⟨r6,r7,rfl,X6.kept (fun b hb hf=>(P.o1 b hf).2.1 hb),?_⟩
 have P6:=P.of1 (fun b hb=>by have:=hH b hb;omega) hP6 X6 hF6
 have z6:=X6.size
 refine (jGK q a b w6 hW P6.ref).mono ?_
 rintro _ w7 ⟨r8,r9,rfl,e8,e9,F7,hP7,X7,hF7⟩
 refine ⟨r8,r9,rfl,X7.kept (fun b hb hf=>(P6.o2 b hf).2 hb),?_⟩
 have P7:=P6.of2 (fun b hb=>by have:=hH b hb;omega) hP7 X7 hF7
 have z7:=X7.size
 have hW':=Sp.jGF hW a b
 have hl':(Sp.qP L a b).2.2.length<60000:=by have:=Sp.jOL hW.ok a b;omega
 rw [← e8] at e6
 rw [← e9] at e7
 subst e6;subst e7
 have hconv:=fun (h:Sp.xK L a b false=0)=>Sp.jMY hW (by omega) h
 have hno:=fun (h:Sp.xK L a b false≠0)=>Sp.jJE hW h
 have hfake:=fun h=>Sp.jNY (L:=L) (a:=a) (b:=b) hW (by omega) h
 refine Br.f (by simp) fun w31 hs31=>?_
 have P31:=P7.hst hs31
 refine (jPH p hW' _ r6 w31 F6 rfl P31.pool).mono ?_
 rintro _ w32 ⟨s1,he32,hT32,E32⟩
 have hT32:TreeAt (w31.heap.size≤·) w32 s1 (Sp.zJ (Sp.qP L a b).2.2 r6):=hT32
 have he32:_=Ending.returned (.agg (qU (Sp.zJ (Sp.qP L a b).2.2 r6) s1).toArray):=he32
 have c33:=uK q hW' _ r6 w32 F7 rfl (P31.ref.pure E32)
 generalize Sp.zJ (Sp.qP L a b).2.2 r6=A at hT32 he32 c33
 obtain ⟨ak,af,aT,au,ax,aks⟩:=A
 have he32:_=Ending.returned (.agg #[.int .i64 ak,.int .i64 af,.int .i64 aT,.int .u64 au,.string ax,s1.v]):=he32
 refine ⟨ak,af,aT,au,ax,s1,he32,E32.keptP,c33.mono ?_⟩
 rintro _ w33 ⟨s2,he33,hT33,E33⟩
 have hT33:TreeAt (w32.heap.size≤·) w33 s2 (.mk ak af aT au ax aks):=hT33
 have he33:_=Ending.returned (.agg #[.int .i64 ak,.int .i64 af,.int .i64 aT,.int .u64 au,.string ax,s2.v]):=he33
 refine ⟨ak,af,aT,au,ax,s2,he33,E33.keptP,?_⟩
 refine (jAB (S:=fun b=>b<w33.heap.size) (.mk ak af aT au ax aks) (.mk ak af aT au ax aks) s1 s2 w33 ((hT32.pure E33).lt.mono (fun b hb=>hb.2)) (hT33.lt.mono (fun b hb=>hb.2)) (fun b hb=>hb)).mono ?_
 rintro _ w34 ⟨_,rfl,rfl,E34⟩
 refine ⟨_,rfl,E34.keptP,?_⟩
 have P34:=P31.pureE ((E32.trans E33).trans E34)
 rw [(Sp.jCS _ _).2 rfl]
 clear hT32 hT33 he32 he33
 unfold m_M_j1
 refine Br.f rfl ?_
 generalize hQ:(Sp.qP L a b).2.2=Q at *
 have hHb:∀b,H b→b<w34.heap.size:=fun b hb=>by have:=hH b hb;have:=hs31.ext.size;have:=((E32.trans E33).trans E34).size;omega
 obtain ⟨q1,q2,q3⟩:=Sp.jNX hW' hl' who a b
 have hWS:=Sp.jMD hW' who a b
 have hWR:Sp.Wf (Sp.jCU Q who a b).2.2:=by
  unfold Sp.jCU;split
  ·exact hW'
  ·split
   ·exact hW'
   ·exact Sp.jOF hW' _
 obtain ⟨MS,hMS⟩:=Sp.jKU (L:=Q) who a b
 obtain ⟨MR,hMR⟩:=Sp.jKV hW'.ok who a b
 refine (jCN p who a b w34 P34.pool hW'.ok).mono ?_
 rintro _ w8 ⟨r10,r11,rfl,e10,e11,F8,hP8,X8,hF8⟩
 refine ⟨r10,r11,rfl,X8.kept (fun b hb hf=>(P34.o1 b hf).2.1 hb),?_⟩
 have P8:=P34.of1 hHb hP8 X8 hF8
 refine (jGJ q who a b w8 hW' P8.ref).mono ?_
 rintro _ w9 ⟨r12,r13,rfl,e12,e13,F9,hP9,X9,hF9⟩
 refine ⟨r12,r13,rfl,X9.kept (fun b hb hf=>(P8.o2 b hf).2 hb),?_⟩
 have P9:=P8.of2 (fun b hb=>by have:=hHb b hb;have:=X8.size;omega) hP9 X9 hF9
 rw [← e11,← e13] at q1
 rw [← e10,← e12] at q2
 rw [← e11,← e10] at q3
 subst q1
 refine Br.f (by simp) fun w27 hs27=>?_
 have P27:=P9.hst hs27
 refine (jPH p hWS _ r10 w27 F8 rfl P27.pool).mono ?_
 rintro _ w28 ⟨s3,he28,hT28,E28⟩
 have hT28:TreeAt (w27.heap.size≤·) w28 s3 (Sp.zJ (Sp.tU Q who a b).2.2 r10):=hT28
 have he28:_=Ending.returned (.agg (qU (Sp.zJ (Sp.tU Q who a b).2.2 r10) s3).toArray):=he28
 have c29:=uK q hWR _ r12 w28 F9 rfl (P27.ref.pure E28)
 rw [← q2] at c29
 generalize hB:Sp.zJ (Sp.tU Q who a b).2.2 r10=B at hT28 he28 c29 q3
 obtain ⟨bk,bf,bT,bu,bx,bks⟩:=B
 have he28:_=Ending.returned (.agg #[.int .i64 bk,.int .i64 bf,.int .i64 bT,.int .u64 bu,.string bx,s3.v]):=he28
 refine ⟨bk,bf,bT,bu,bx,s3,he28,E28.keptP,c29.mono ?_⟩
 rintro _ w29 ⟨s4,he29,hT29,E29⟩
 have hT29:TreeAt (w28.heap.size≤·) w29 s4 (.mk bk bf bT bu bx bks):=hT29
 have he29:_=Ending.returned (.agg #[.int .i64 bk,.int .i64 bf,.int .i64 bT,.int .u64 bu,.string bx,s4.v]):=he29
 refine ⟨bk,bf,bT,bu,bx,s4,he29,E29.keptP,?_⟩
 refine (jAB (S:=fun b=>b<w29.heap.size) (.mk bk bf bT bu bx bks) (.mk bk bf bT bu bx bks) s3 s4 w29 ((hT28.pure E29).lt.mono (fun b hb=>hb.2)) (hT29.lt.mono (fun b hb=>hb.2)) (fun b hb=>hb)).mono ?_
 rintro _ w30 ⟨_,rfl,rfl,E30⟩
 refine ⟨_,rfl,E30.keptP,?_⟩
 have P30:=P27.pureE ((E28.trans E29).trans E30)
 rw [(Sp.jCS _ _).2 rfl]
 unfold m_M_j2
 refine Br.f rfl ?_
 refine (uT p r10 w30 P30.pool hWS.ok).mono ?_
 rintro _ w10 ⟨k,f,c,x,g,ok,rfl,hrd,E10⟩
 refine ⟨k,f,c,x,g,ok,rfl,E10.keptP,?_⟩
 have P10:=P30.pureE E10
 rintro _ rfl
 refine Br.f ?_ ⟨fun h9 H6 w16 hs16=>?_,fun h9 H6 w16 hs16=>live H6 w16 (P10.hst hs16).pure⟩
 ·by_cases h0:r11=0
  ·obtain ⟨g1,g2,g3,g4⟩:=q3 h0
   have hrr:=Sp.jMC hW' hWS g1 g2 g3 (hB.trans g4)
   have hf:=hfake g2
   rw [hf,← e9] at hrr
   rw [hrr] at hrd
   injection hrd with hr1 hr2
   injection hr1 with i1 i2 i3 i4 i5
   subst hr2;subst i1;subst i2;subst i5
   cases hz9:(r7 == 0) <;> simp [hz9]
  ·have:(r11 == 0)=false:=by rw [beq_eq_false_iff_ne];exact h0
   rw [this];rfl
 ·have h9:r7=0:=by simpa using h9
  have htwo:Sp.xK L a b false=0:=by
   by_cases ht:Sp.xK L a b false=0
   ·exact ht
   ·have e:=hno ht;rw [e] at e9;exact absurd (e9.symm.trans h9) ht
  obtain ⟨_,_,c3,c4,_⟩:=hconv htwo
  rw [← e8] at c3 c4
  have rS:Sp.qD (Sp.tU Q who a b).2.2 r6=(Sp.xV L a,true):=by rw [hMS] at hWS ⊢;rw [Sp.jCV hWS c3,c4]
  have rR:Sp.qD (Sp.jCU Q who a b).2.2 r6=(Sp.xV L a,true):=by rw [hMR] at hWR ⊢;rw [Sp.jCV hWR c3,c4]
  have P16:=P10.hst hs16
  refine (tZ q hWR r6 w16 F9 P16.ref).mono ?_
  rintro _ w20 ⟨k2,f2,cc,x2,g2,ok2,rfl,hrd2,E20⟩
  rw [← Sp.jBH hWR,rR] at hrd2
  injection hrd2 with hr1 hr2
  have hc2:cc=(Sp.xV L a).c:=congrArg Sp.Letter.c hr1
  have hx2:x2=(Sp.xV L a).text:=congrArg Sp.Letter.text hr1
  refine ⟨k2,f2,cc,x2,g2,ok2,rfl,E20.keptP,fun H10 w22 hs22=>?_⟩
  have P22:=(P16.pureE E20).hst hs22
  rw [hc2,hx2]
  refine (jAH p r6 0 _ _ w22 P22.pool hWS.ok).mono ?_
  rintro _ w23 ⟨_,rfl,rfl,E23⟩
  refine ⟨_,rfl,E23.keptP,Br.t (by rw [Sp.jJR (.inl rfl) rS];rfl) ?_⟩
  refine (jAH p r6 1 _ _ w23 (P22.pool.pure E23) hWS.ok).mono ?_
  rintro _ w25 ⟨_,rfl,rfl,E25⟩
  refine ⟨_,rfl,E25.keptP,?_⟩
  unfold m_M_j3
  exact Br.t (by rw [Sp.jJR (.inr rfl) rS];rfl) (live H10 w25 (P22.pure.trans (E23.trans E25)))
end Go.Proofs
end
section
namespace Go.SE
open Go.ChangeShapes Go.WideShapes Go.ChangeAt Go.RowKit
section
variable {H:Type} {enc:TypeId×Value→H} {P:Program}
theorem jBQ (hl:laidOutB P=true) {W W':World} (hb:Below W.heap.size W W'):∀(ts:List TypeId) (vs:List Value) (ds:List (DataW H)) (ps:List MemPlace),(ts.all fun t=>P.readableRec t && decide (t<P.types.size))=true →
  DataW.TrodAll enc P W 0 (fun _=>true) true ts vs ds ps→(∀x∈ps,x.block<W.heap.size)→DataW.TrodAll enc P W' 0 (fun b=>decide (b<W.heap.size)) true ts vs ds ps
 | [],_,_,_,_,h,_=>by
  obtain ⟨rfl,rfl,rfl⟩:=trodAll_nil h;exact h
 | t :: ts,_,_,_,hr,h,hlt=>by
  obtain ⟨v,vs1,d,ds1,a,b,rfl,rfl,rfl,h1,h2⟩:=trodAll_cons h;simp only [List.all_cons,Bool.and_eq_true,decide_eq_true_eq] at hr;exact ⟨a,b,Below.trod hl hr.1.1 hr.1.2 h1 hb (fun x hx=>hlt x (by simp [hx])),jBQ hl hb ts vs1 ds1 b (by simpa using hr.2) h2 (fun x hx=>hlt x (by simp [hx])),rfl⟩
theorem jOI {f:Func} {s:ChangeSpec} {W W':World} {args:Array Value} {ds gs:List (DataW H)} {before:List MemPlace} {t:TypeId} (hl:laidOutB P=true)
  (hv:s.vars=[]) (hf:∀ds:List (DataW H),ds.length=f.params.size→s.fn H ds={ results:=[.lit (.bool true)],args:=ds }) (hrt:f.resultTypes=#[t]) (ht:P.underlying t=some .bool)
  (hr:(f.params.toList.all fun t=>P.readableRec t && decide (t<P.types.size))=true)
  (hW:DataW.Whole enc P f.params.toList s.vars false W args.toList ds gs before) (E:Pure W W') :
  s.post enc P f false true false false W args (.bool true) W':=by
 have hW':=hW
 obtain ⟨p,q,hA,hV,rfl,hfz,hnd⟩:=hW
 rw [hv] at hV
 obtain ⟨rfl,rfl⟩:=trodVars_none hV
 have hlen:ds.length=f.params.size:=by
  have:∀(ts:List TypeId) (vs:List Value) (ds:List (DataW H)) (ps:List MemPlace),DataW.TrodAll enc P W 0 (fun _=>true) true ts vs ds ps→ds.length=ts.length:=by
   intro ts;induction ts with
   | nil=>intro vs ds ps h;obtain ⟨_,rfl,_⟩:=trodAll_nil h;rfl
   | cons t ts ih =>
    intro vs ds ps h
    obtain ⟨v,vs1,d,ds1,a,b,_,rfl,_,_,h2⟩:=trodAll_cons h
    simp [ih _ _ _ h2]
  simpa using this _ _ _ _ hA
 have hfn:=hf ds hlen
 have hfn':s.fn H (ds++[])={ results:=[.lit (.bool true)],args:=ds }:=by rw [List.append_nil];exact hfn
 have hlt:∀x∈p,x.block<W.heap.size:=fun x hx=>by simpa using hW'.lt x (by simp [hx])
 have bel:=E.below
 refine ⟨ds,[],p++[],[],p,[],hW',?_,?_,?_,bel.frame _,fun h=>by cases h⟩
 ·rw [hfn',hrt];exact trodAll_mk1 (shut_bool ht _)
 ·rw [hfn'];exact jBQ hl bel _ _ _ _ hr hA hlt
 ·rw [hfn',hv];exact hV
theorem jKZ {C:Checked} {os:Os} {f:FuncId} {fn:Func} {s:ChangeSpec} {t:TypeId} (hl:laidOutB C.prog=true)
  (hv:s.vars=[]) (hf:∀ds:List (DataW H),ds.length=fn.params.size→s.fn H ds={ results:=[.lit (.bool true)],args:=ds }) (hrt:fn.resultTypes=#[t]) (ht:C.prog.underlying t=some .bool)
  (hr:(fn.params.toList.all fun t=>C.prog.readableRec t && decide (t<C.prog.types.size))=true)
  (own:ownKnob C.prog.godebug=none) (started:os.Started) (noInit:C.prog.inits.idxOf? f=none) (hfn:C.prog.funcs[f]?=some fn)
  (witness:∃(w:World) (tape:Tape) (i:Input),w.os=os∧(w.forCall tape i).Shaped C.prog∧i.vars=[]∧Input.okWide C.prog (w.forCall tape i) .any w.heap.size f i ∧
   s.pre6 enc C.prog fn [] false (w.forCall tape i).memory i.args∧({}:Assume).holds C.prog (lone (Frame.enter C.prog f i.args .normal) [] (w.forCall tape i)))
  (contract:∀(W:World) (base:Nat) (args:Array Value) (ds:List (DataW H)) (p:List MemPlace),
   (∀(j:Nat) t v,fn.params[j]?=some t→args[j]?=some v→Value.okWide C.prog W .any base t v) →
   DataW.TrodAll enc C.prog W 0 (fun _=>true) true fn.params.toList args.toList ds p→(∀x∈p,x.block<W.heap.size) →
   Calls C.prog f args W (fun e W'=>∃r:Bool,e=.returned (.bool r)∧(r=true∧Pure W W'))) :
  ReturnsInHanded {} C os f .any (s.pre6 enc C.prog fn [] false) (s.post enc C.prog fn false true false false):=by
 refine returnsInHanded_of_change own started noInit hfn witness ?_
 intro W base args ds gs before hval hW _ _
 have hW':=hW
 obtain ⟨p,q,hA,hV,rfl,hfz,hnd⟩:=hW
 refine (contract W base args ds p hval hA (fun x hx=>by simpa using hW'.lt x (by simp [hx]))).mono fun e W' ⟨r,he,h1,h2⟩=>?_
 subst h1
 exact ⟨_,he,jOI hl hv hf hrt ht hr hW' h2⟩
end
end Go.SE
namespace Go.SE
open Go.ChangeShapes Go.WideShapes Go.ChangeAt Go.RowKit
section
variable {P:Program} {W:World} {r:Reach} {b0:Nat} {t:TypeId} {v:Value}
theorem jHE {fs:Array Field} {ts:List TypeId} (ht:P.underlying t=some (.struct fs)) (hc:P.cellTypes P.depth t=some ts) (hn:P.cellsOf t=ts.length) (h:Value.okWide P W r b0 t v) :
  ∃cs:Array Value,v=.agg cs∧cs.size=ts.length∧∀(i:Nat) (u:TypeId) (c:Value),ts[i]?=some u→cs[i]?=some c→Cell.okWide P W r b0 u c:=by
 unfold Value.okWide at h
 rw [ht] at h
 obtain ⟨cs,rfl,hs,ts',hts,_,hall⟩:=h
 rw [hc] at hts
 cases hts
 refine ⟨cs,rfl,hs.trans hn,fun i u c hu hcs=>?_⟩
 obtain ⟨u',hu',hok⟩:=hall i c hcs
 have hlt:i<ts.length:=(List.getElem?_eq_some_iff.1 hu).1
 rw [Nat.mod_eq_of_lt hlt,hu] at hu'
 cases hu'
 exact hok
end
end Go.SE
end
section
open Go Go.SE
namespace Go.Proofs
open Tryz
theorem jAF {α β:Type} {f:α→Option β}:∀{l:List α} {r:List β},l.mapM f=some r→r.length=l.length∧∀(i:Nat) (a:α),l[i]?=some a→∃b,f a=some b∧r[i]?=some b
 | [],r,h=>by
  have:r=[]:=by simpa using h.symm
  subst this;exact ⟨rfl,fun i a h=>by simp at h⟩
 | x :: xs,r,h=>by
  rw [List.mapM_cons] at h;cases hx:f x with
  | none=>simp [hx] at h
  | some y =>
   cases hxs:xs.mapM f with
   | none=>simp [hx,hxs] at h
   | some ys =>
    have:r=y :: ys:=by simpa [hx,hxs] using h.symm
    subst this
    obtain ⟨h1,h2⟩:=jAF hxs
    refine ⟨by simp [h1],fun i a ha=>?_⟩
    cases i with
    | zero=>cases ha;exact ⟨y,hx,rfl⟩
    | succ i=>exact h2 i a (by simpa using ha)
theorem jNC {w:World} {base:Nat} {a:Addr} {n:Nat} {cs:List Value} (h:w.cells? base a n=some cs):cs.length=n∧Row w a cs:=by
 obtain ⟨_,h1,h2⟩:=World.cells?_some h;exact ⟨h1,fun j hj=>h2 j (by omega)⟩
section
variable {H:Type} {enc:TypeId×Value→H} {P:Program} {W:World} {base:Nat} {sp:Nat→Bool} {held:Bool}
theorem xX {t:TypeId} {k:IntKind} (ht:P.underlying t=some (.int k)) {n:Nat} {c:Value} {x:DataW H×List MemPlace} (h:DataW.trod enc P W base sp held n t [c]=some x):∃m,c=.int k m:=by
 cases n with
 | zero=>cases h
 | succ n =>
  rw [DataW.trod_step] at h
  unfold DataW.trodStep at h
  rw [ht] at h
  cases c <;> simp at h
  obtain ⟨⟨rfl,_⟩,_⟩:=h
  exact ⟨_,rfl⟩
theorem jNU {t:TypeId} (ht:P.underlying t=some (.int .u64)) {n:Nat} {c:Value} {x:DataW H×List MemPlace} (h:DataW.trod enc P W base sp held n t [c]=some x):∃m,c=.int .u64 m∧Sp.isNum m:=by
 cases n with
 | zero=>cases h
 | succ n =>
  rw [DataW.trod_step] at h
  unfold DataW.trodStep at h
  rw [ht] at h
  cases c with
  | int k z =>
   simp only at h
   split at h
   ·rename_i hw
    obtain ⟨rfl,hw⟩:=hw
    have h1:IntKind.u64.min=0:=by rfl
    have h2:IntKind.u64.max=18446744073709551615:=by rfl
    simp only [Lit.wf,Bool.and_eq_true,decide_eq_true_eq,h1,h2] at hw
    exact ⟨z,rfl,by omega,by omega⟩
   ·cases h
  | _=>simp at h
theorem jLU {t:TypeId} (ht:P.underlying t=some .string) {n:Nat} {c:Value} {x:DataW H×List MemPlace} (h:DataW.trod enc P W base sp held n t [c]=some x):∃m,c=.string m:=by
 cases n with
 | zero=>cases h
 | succ n =>
  rw [DataW.trod_step] at h
  unfold DataW.trodStep at h
  rw [ht] at h
  cases c <;> simp at h
  exact ⟨_,rfl⟩
theorem jIO {t e:TypeId} (ht:P.underlying t=some (.slice e)) {n:Nat} {c:Value} {x:DataW H×List MemPlace} (h:DataW.trod enc P W base sp held (n+1) t [c]=some x) :
  c=.slice none 0 0∨∃a len cap,c=.slice (some a) len cap∧len≤cap∧cap≤maxLen∧∀i,i<len→∃cs y,W.cells? base (a.add (i*P.cellsOf e)) (P.cellsOf e)=some cs∧DataW.trod enc P W base sp held n e cs=some y:=by
 rw [DataW.trod_step] at h
 unfold DataW.trodStep at h
 rw [ht] at h
 cases c with
 | slice a len cap =>
  cases a with
  | none =>
   cases len with
   | zero=>cases cap with
    | zero=>exact .inl rfl
    | succ c=>simp at h
   | succ l=>simp at h
  | some a =>
   right
   simp only at h
   split at h
   ·rename_i hc
    refine ⟨a,len,cap,rfl,hc.2.1,hc.2.2,fun i hi=>?_⟩
    cases hm:(List.range len).mapM fun i=>(W.cells? base (a.add (i*P.cellsOf e)) (P.cellsOf e)).bind (DataW.trod enc P W base sp held n e) with
    | none=>rw [hm] at h;cases h
    | some r =>
     obtain ⟨b,hb,_⟩:=(jAF hm).2 i i (by simp [hi])
     obtain ⟨cs,h1,h2⟩:=Option.bind_eq_some_iff.1 hb
     exact ⟨cs,b,h1,h2⟩
   ·cases h
 | _=>simp at h
structure TreeTypes (P:Program) (tS tT:TypeId):Prop where
 ex:∃ti tu ts:TypeId,∃f0 f1 f2 f3 f4 f5:Field,P.underlying tS=some (.slice tT)∧P.underlying tT=some (.struct #[f0,f1,f2,f3,f4,f5])∧P.cellsOf tT=6 ∧
  (f0.type=ti∧f1.type=ti∧f2.type=ti∧f3.type=tu∧f4.type=ts∧f5.type=tS)∧(f0.offset=0∧f1.offset=1∧f2.offset=2∧f3.offset=3∧f4.offset=4∧f5.offset=5) ∧
  P.underlying ti=some (.int .i64)∧P.underlying tu=some (.int .u64)∧P.underlying ts=some .string∧P.cellsOf ti=1∧P.cellsOf tu=1∧P.cellsOf ts=1∧P.cellsOf tS=1
theorem jLT {tS tT:TypeId} (hTT:TreeTypes P tS tT):∀n:Nat,
  (∀(c:Value) (x:DataW H×List MemPlace),DataW.trod enc P W base sp held n tS [c]=some x→∃s:Sl,∃ts:List Sp.Tree,c=s.v∧(∀(k f t u:Int) (tx:ByteArray),TreeAt (fun _=>True) W s (.mk k f t u tx ts))∧∀i (hi:i<ts.length),Sp.NumT ts[i]) ∧
  (∀(cs:List Value) (x:DataW H×List MemPlace),DataW.trod enc P W base sp held n tT cs=some x→∃t s,cs=qU t s∧TreeAt (fun _=>True) W s t∧Sp.NumT t):=by
 obtain ⟨ti,tu,tx,f0,f1,f2,f3,f4,f5,hS,hT,hc6,⟨e0,e1,e2,e3,e4,e5⟩,⟨o0,o1,o2,o3,o4,o5⟩,ui,uu,us,ci,cu,cs1,cS⟩:=hTT.ex
 intro n
 induction n with
 | zero=>exact ⟨fun c x h=>(by cases h),fun cs x h=>(by cases h)⟩
 | succ n ih =>
  refine ⟨fun c x h=>?_,fun cs x h=>?_⟩
  ·rcases jIO hS h with rfl | ⟨a,len,cap,rfl,hle,hcm,hel⟩
   ·exact ⟨Sl.nil,[],rfl,fun k f t u tx=>.mk k f t u tx [] Sl.nil (fun _=>Sl.nil) rfl (by simp) (fun i h=>by simp at h) (fun i h=>by simp at h),fun i hi=>absurd hi (Nat.not_lt_zero i)⟩
   ·rw [hc6] at hel
    have hex:∀i,∃q:Sp.Tree×Sl,i<len→Row W (a.add (i*6)) (qU q.1 q.2)∧TreeAt (fun _=>True) W q.2 q.1∧Sp.NumT q.1:=by
     intro i;by_cases hi:i<len
     ·obtain ⟨cs,y,h1,h2⟩:=hel i hi;obtain ⟨tr,s,e,hTr⟩:=ih.2 cs y h2;exact ⟨(tr,s),fun _=>⟨e▸(jNC h1).2,hTr⟩⟩
     ·exact ⟨(Sp.Tree.mk 0 0 0 0 ⟨#[]⟩ [],Sl.nil),fun h=>absurd h hi⟩
    obtain ⟨q,hq⟩:=Classical.axiomOfChoice hex
    refine ⟨⟨some a,len,cap⟩,(List.range len).map fun i=>(q i).1,rfl,?_,fun i hi=>by rw [List.getElem_map,List.getElem_range];exact (hq i (by simpa using hi)).2.2⟩
    refine fun k f t u tx=>.mk k f t u tx _ _ (fun i=>(q i).2) (by simp) (by simp only [maxLen] at hcm;simp;omega) (fun i h=>?_) (fun i h=>?_)
    ·have hi:i<len:=by simpa using h
     refine ⟨a.add (i*6),⟨by omega,by simpa using hi,a,rfl,by simp⟩,trivial,?_⟩
     simpa using (hq i hi).1
    ·have hi:i<len:=by simpa using h
     simpa using (hq i hi).2.1
  ·rw [DataW.trod_step] at h
   unfold DataW.trodStep at h
   rw [hT] at h
   simp only at h
   split at h
   ·rename_i hl
    rw [hc6] at hl
    match cs,hl with
    | [c0,c1,c2,c3,c4,c5],_ =>
     cases hm:([f0,f1,f2,f3,f4,f5]:List Field).mapM (fun f=>DataW.trod enc P W base sp held n f.type ((([c0,c1,c2,c3,c4,c5]:List Value).drop f.offset).take (P.cellsOf f.type))) with
     | none=>rw [hm] at h;cases h
     | some r =>
      have hf:=(jAF hm).2
      obtain ⟨_,h0,_⟩:=hf 0 f0 rfl
      obtain ⟨_,h1,_⟩:=hf 1 f1 rfl
      obtain ⟨_,h2,_⟩:=hf 2 f2 rfl
      obtain ⟨_,h3,_⟩:=hf 3 f3 rfl
      obtain ⟨_,h4,_⟩:=hf 4 f4 rfl
      obtain ⟨_,h5,_⟩:=hf 5 f5 rfl
      rw [e0,o0,ci] at h0;rw [e1,o1,ci] at h1;rw [e2,o2,ci] at h2;rw [e3,o3,cu] at h3;rw [e4,o4,cs1] at h4;rw [e5,o5,cS] at h5
      obtain ⟨m0,rfl⟩:=xX ui h0
      obtain ⟨m1,rfl⟩:=xX ui h1
      obtain ⟨m2,rfl⟩:=xX ui h2
      obtain ⟨m3,rfl,hu⟩:=jNU uu h3
      obtain ⟨m4,rfl⟩:=jLU us h4
      obtain ⟨s,ts,rfl,hTr,hNr⟩:=ih.1 c5 _ h5
      exact ⟨.mk m0 m1 m2 m3 m4 ts,s,rfl,hTr m0 m1 m2 m3 m4,.mk _ _ _ _ _ _ hu hNr⟩
   ·cases h
end
theorem jLV:TreeTypes prog 66 107 :=
 ⟨3,23,9,_,_,_,_,_,_,underlying66,underlying107,by kernel_rfl,⟨rfl,rfl,rfl,rfl,rfl,rfl⟩,⟨rfl,rfl,rfl,rfl,rfl,rfl⟩,underlying3,underlying23,underlying9,by kernel_rfl,by kernel_rfl,by kernel_rfl,by kernel_rfl⟩
end Go.Proofs
end
section
open Go Go.SE
namespace Go.Sp
def Dep (L:Pool) (S:List Way) (t y:Int):Prop :=
 (∃v∈S,v.t=t∧v.rule≠0∧y=v.frm)∨(t ∉ zZ S∧0<y∧(y=(madeS L S t).1∨y=(madeS L S t).2.1))
inductive Dp (L:Pool) (S:List Way):Int→Int→Prop
 | refl (t:Int):Dp L S t t
 | step {t y z:Int}:Dep L S t y→Dp L S y z→Dp L S t z
theorem Dep.way {L:Pool} {S:List Way} {t y r f:Int} (hn:(zZ S).Nodup) (hl:SE.look (S.map fun v=>(v.t,(v.rule,v.frm))) t=some (r,f)):Dep L S t y↔r≠0∧y=f:=by
 have hm:=jFZ hl;obtain ⟨v,hv,e⟩:=List.mem_map.1 hm;simp only [Prod.mk.injEq] at e;obtain ⟨rfl,rfl,rfl⟩:=e;have hk:v.t∈zZ S:=List.mem_map.2 ⟨v,hv,rfl⟩;unfold Dep;constructor
 ·rintro (⟨u,hu,e,hr,rfl⟩ | ⟨h,_⟩)
  ·have hnd:((S.map fun v=>(v.t,(v.rule,v.frm))).map Prod.fst).Nodup:=by rw [List.map_map];exact hn
   have h2:=jIX hnd (List.mem_map.2 ⟨u,hu,rfl⟩);rw [e,hl] at h2;simp only [Option.some.injEq,Prod.mk.injEq] at h2;exact ⟨by rw [h2.1];exact hr,h2.2.symm⟩
  ·exact absurd hk h
 ·rintro ⟨h1,rfl⟩;exact .inl ⟨v,hv,rfl,h1,rfl⟩
theorem Dp.all {L:Pool} {S:List Way} {M:List Step} (hc:∀s∈M,∀y,Dep L S s.t y→y∈M.map Step.t) {t x:Int} (ht:t∈M.map Step.t) (h:Dp L S t x):x∈M.map Step.t:=by
 induction h with
 | refl=>exact ht
 | step hd _ ih =>
  obtain ⟨s,hs,rfl⟩:=List.mem_map.1 ht
  exact ih (hc s hs _ hd)
end Go.Sp
namespace Go.Proofs
open Tryz
attribute [local irreducible] Calls
def strow (s:Sp.Step):List Value:=[.int .i64 s.rule,.int .i64 s.a,.int .i64 s.b,.int .i64 s.t]
def tru (_:Unit):Value:=.bool true
def bmap (B:List Int):List (Int×Unit):=B.map fun t=>(t,())
theorem jNM (B:List Int) (t:Int):bmap (B++[t])=bmap B++[(t,())]:=by simp [bmap]
def PW (ma mb:Nat) (c5:Addr) (sl:Sl) (b:Nat):Prop:=b=ma∨b=mb∨b=c5.block∨sl.blk b
def says (f:FuncId) (c1 c2 c3 c4 c5:Addr):Value:=.func (.func f) #[] #[.pointer (some c1),.pointer (some c2),.pointer (some c3),.pointer (some c4),.pointer (some c5)]
structure PrfAt (w:World) (k:Addr) (c1 c2 c3 c4 c5:Addr) (ma mb:Nat) (sl:Sl) (l:List Sp.Step) (B:List Int):Prop where
 a1:w.cell? c1=some (.map (some ma))
 a2:w.cell? c2=some (.map (some mb))
 a3:w.cell? c3=some (.pointer (some k))
 a4:w.cell? c4=some (says 188 c1 c2 c3 c4 c5)
 a5:Box w c5 [sl.v] 216
 am:IMap jKD w ma (Sp.amap l)
 bm:IMap tru w mb (bmap B)
 ls:Rws w 220 4 sl (l.map strow)
 d:∀b,PW ma mb c5 sl b→b≠c1.block∧b≠c2.block∧b≠c3.block∧b≠c4.block
 n1:ma≠mb
 n2:ma≠c5.block
 n3:mb≠c5.block
 n4:¬ sl.blk ma
 n5:¬ sl.blk mb
 n6:¬ sl.blk c5.block
structure SaysAt (w:World) (k p:Addr) (c1 c2 c3 c4 c5:Addr) (ma mb:Nat) (L:Sp.Pool) (G:List Int) (S:List Sp.Way) (F FP:NP) (sl:Sl) (l:List Sp.Step) (B:List Int):Prop where
 prf:PrfAt w k c1 c2 c3 c4 c5 ma mb sl l B
 know:qR w k p G S F
 pool:vD w p L FP
 dF:∀b,F b→¬ PW ma mb c5 sl b
 dP:∀b,FP b→¬ PW ma mb c5 sl b
section
variable {w w':World} {k p c1 c2 c3 c4 c5:Addr} {ma mb:Nat} {L:Sp.Pool} {G:List Int} {S:List Sp.Way} {F FP:NP} {sl:Sl} {l:List Sp.Step} {B:List Int}
theorem PrfAt.ext {X:NP} (h:PrfAt w k c1 c2 c3 c4 c5 ma mb sl l B) (hE:Ext X w w') (h1:∀b,PW ma mb c5 sl b→¬ X b) (x1:¬ X c1.block) (x2:¬ X c2.block) (x3:¬ X c3.block) (x4:¬ X c4.block):PrfAt w' k c1 c2 c3 c4 c5 ma mb sl l B :=
 ⟨hE.cell h.a1 x1,hE.cell h.a2 x2,hE.cell h.a3 x3,hE.cell h.a4 x4,h.a5.ext hE (h1 _ (.inr (.inr (.inl rfl)))),h.am.ext hE (h1 _ (.inl rfl)),h.bm.ext hE (h1 _ (.inr (.inl rfl))),h.ls.ext hE (fun b hb=>h1 b (.inr (.inr (.inr hb)))),h.d,h.n1,h.n2,h.n3,h.n4,h.n5,h.n6⟩
theorem PrfAt.lt (h:PrfAt w k c1 c2 c3 c4 c5 ma mb sl l B) {b:Nat} (hb:PW ma mb c5 sl b):b<w.heap.size:=by
 rcases hb with rfl | rfl | rfl | hb
 ·exact h.am.lt
 ·exact h.bm.lt
 ·exact h.a5.lt
 ·exact h.ls.lt hb
theorem SaysAt.ext {X:NP} {n:Nat} (h:SaysAt w k p c1 c2 c3 c4 c5 ma mb L G S F FP sl l B) (hE:Ext X w w') (hn:∀b,X b→n≤b) (z1:∀b,PW ma mb c5 sl b→b<n∨¬ X b) (zc:c1.block<n∧c2.block<n∧c3.block<n∧c4.block<n) (zF:∀b,F b→b<n) (zP:∀b,FP b→b<n):SaysAt w' k p c1 c2 c3 c4 c5 ma mb L G S F FP sl l B:=by
 have hx:∀b,b<n→¬ X b:=fun b hb hX=>by have:=hn b hX;omega
 exact ⟨h.prf.ext hE (fun b hb=>(z1 b hb).elim (hx b) id) (hx _ zc.1) (hx _ zc.2.1) (hx _ zc.2.2.1) (hx _ zc.2.2.2),h.know.ext hE (fun b hb=>hx b (zF b hb)),h.pool.ext hE (fun b hb=>hx b (zP b hb)),h.dF,h.dP⟩
theorem SaysAt.pure (h:SaysAt w k p c1 c2 c3 c4 c5 ma mb L G S F FP sl l B) (E:Pure w w'):SaysAt w' k p c1 c2 c3 c4 c5 ma mb L G S F FP sl l B :=
 ⟨h.prf.ext E (fun _ _ h=>h) (fun h=>h) (fun h=>h) (fun h=>h) (fun h=>h),h.know.pure E,h.pool.pure E,h.dF,h.dP⟩
theorem SaysAt.zc (h:SaysAt w k p c1 c2 c3 c4 c5 ma mb L G S F FP sl l B):c1.block<w.heap.size∧c2.block<w.heap.size∧c3.block<w.heap.size∧c4.block<w.heap.size :=
 ⟨World.block_lt_of_cell? w _ h.prf.a1,World.block_lt_of_cell? w _ h.prf.a2,World.block_lt_of_cell? w _ h.prf.a3,World.block_lt_of_cell? w _ h.prf.a4⟩
theorem PrfAt.bar (h:PrfAt w k c1 c2 c3 c4 c5 ma mb sl l B) (t:Int):∃w',(Instr.mapUpdate 278 (.map (some mb)) (.int .i64 t) (.bool true)).run prog w=.ok () w'∧(∃B',(B'=B∨B'=B++[t])∧PrfAt w' k c1 c2 c3 c4 c5 ma mb sl l B')∧Ext (·=mb) w w':=by
 have hd:=h.d mb (.inr (.inl rfl));have back:∀{w':World} {B':List Int},IMap tru w' mb (bmap B')→Ext (·=mb) w w'→PrfAt w' k c1 c2 c3 c4 c5 ma mb sl l B':=fun hI hE =>
  ⟨hE.cell h.a1 (fun e=>hd.1 e.symm),hE.cell h.a2 (fun e=>hd.2.1 e.symm),hE.cell h.a3 (fun e=>hd.2.2.1 e.symm),hE.cell h.a4 (fun e=>hd.2.2.2 e.symm),h.a5.ext hE (fun e=>h.n3 e.symm),h.am.ext hE h.n1,hI,h.ls.ext hE (fun b hb e=>h.n5 (e▸hb)),h.d,h.n1,h.n2,h.n3,h.n4,h.n5,h.n6⟩
 cases hl:SE.look (bmap B) t with
 | none =>
  obtain ⟨w',h1,h2,h3⟩:=h.bm.put (P:=prog) (T:=278) underlying278 underlying78 hl ()
  exact ⟨w',h1,⟨_,.inr rfl,back (by rw [jNM];exact h2) h3⟩,h3⟩
 | some v =>
  cases v
  obtain ⟨w',h1,h2,h3⟩:=h.bm.again (P:=prog) (T:=278) underlying278 underlying78 hl
  exact ⟨w',h1,⟨_,.inl rfl,back h2 h3⟩,h3⟩
end
structure SaysRet (w0:World) (k p:Addr) (c1 c2 c3 c4 c5:Addr) (ma mb:Nat) (L:Sp.Pool) (G:List Int) (S:List Sp.Way) (F FP:NP) (sl:Sl) (l:List Sp.Step) (t r:Int) (ok:Bool) (w':World) (sl':Sl) (M:List Sp.Step) (B':List Int):Prop where
 st:SaysAt w' k p c1 c2 c3 c4 c5 ma mb L G S F FP sl' (l++M) B'
 prf:Sp.PrfOk L G (fun x=>x∈Sp.zZ S) (l++M) B'
 new:∀s∈M,Sp.jPE S s.t≤Sp.jPE S t∧(Sp.Sub L t s.t∨s.t∈Sp.zZ S)
 idx:ok=true→∃i,r=((i:Nat):Int)∧∃hi:i<(l++M).length,(l++M)[i].t=t
 drv:ok=true↔Sp.Drv L (fun x=>x∈Sp.zZ S) t
 ext:Ext (PW ma mb c5 sl) w0 w'
 own:∀b,sl'.blk b→sl.blk b∨w0.heap.size≤b
 last:ok=true→M=[]∨Sp.tAt (l++M) (((l++M).length:Int) - 1)=t
 dp:∀s∈M,Sp.Dp L S t s.t
 cl:∀s∈M,∀y,Sp.Dep L S s.t y→y∈(l++M).map Sp.Step.t
structure SaysCur (w0:World) (H:NP) (w:World) (k p:Addr) (c1 c2 c3 c4 c5:Addr) (ma mb:Nat) (L:Sp.Pool) (G:List Int) (S:List Sp.Way) (F FP:NP) (sl:Sl) (l:List Sp.Step) (t:Int) (sl1:Sl) (M B:_):Prop where
 st:SaysAt w k p c1 c2 c3 c4 c5 ma mb L G S F FP sl1 (l++M) B
 prf:Sp.PrfOk L G (fun x=>x∈Sp.zZ S) (l++M) B
 new:∀s∈M,Sp.jPE S s.t<Sp.jPE S t∧(Sp.Sub L t s.t∨s.t∈Sp.zZ S)
 ext:Ext (PW ma mb c5 sl) w0 w
 own:∀b,sl1.blk b→sl.blk b∨w0.heap.size≤b
 vis:∀b,sl1.blk b→¬ H b
 hs:Hst w0 H w H w
 dp:∀s∈M,Sp.Dp L S t s.t
 cl:∀s∈M,∀y,Sp.Dep L S s.t y→y∈(l++M).map Sp.Step.t
section
variable {w0 w w':World} {H H':NP} {k p c1 c2 c3 c4 c5:Addr} {ma mb:Nat} {L:Sp.Pool} {G:List Int} {S:List Sp.Way} {F FP:NP} {sl sl1 sl2:Sl} {l M M2:List Sp.Step} {B0 B B2:List Int} {t:Int}
theorem PW.old (h:SaysAt w0 k p c1 c2 c3 c4 c5 ma mb L G S F FP sl l B0) (ho:∀b,sl1.blk b→sl.blk b∨w0.heap.size≤b):∀b,PW ma mb c5 sl1 b→b<w0.heap.size→PW ma mb c5 sl b:=by
 rintro b (hb | hb | hb | hb) hlt
 ·exact .inl hb
 ·exact .inr (.inl hb)
 ·exact .inr (.inr (.inl hb))
 ·exact (ho b hb).elim (fun h=>.inr (.inr (.inr h))) (fun h=>by omega)
theorem SaysCur.nh (h:SaysCur w0 H w k p c1 c2 c3 c4 c5 ma mb L G S F FP sl l t sl1 M B) (h0:SaysAt w0 k p c1 c2 c3 c4 c5 ma mb L G S F FP sl l B0):∀b,PW ma mb c5 sl1 b→¬ H b:=by
 have old:∀b,b<w0.heap.size→¬ H b:=fun b hb hh=>by have:=h.hs.old b hh;omega
 rintro b (rfl | rfl | rfl | hb)
 ·exact old _ (h0.prf.lt (.inl rfl))
 ·exact old _ (h0.prf.lt (.inr (.inl rfl)))
 ·exact old _ (h0.prf.lt (.inr (.inr (.inl rfl))))
 ·exact h.vis b hb
theorem SaysCur.hst (h:SaysCur w0 H w k p c1 c2 c3 c4 c5 ma mb L G S F FP sl l t sl1 M B) (h0:SaysAt w0 k p c1 c2 c3 c4 c5 ma mb L G S F FP sl l B0) (hs:Hst w0 H w H' w'):SaysCur w0 H' w' k p c1 c2 c3 c4 c5 ma mb L G S F FP sl l t sl1 M B:=by
 have dj:=hs.disj (G:=PW ma mb c5 sl1) (fun b hb=>⟨h.st.prf.lt hb,h.nh h0 b hb⟩);exact ⟨h.st.ext hs.ext hs.old (fun b hb=>.inr (dj b hb)) h0.zc (fun b hb=>h0.know.lt hb) (fun b hb=>h0.pool.lt hb),h.prf,h.new,h.ext.hst hs,h.own,fun b hb=>dj b (.inr (.inr (.inr hb))),hs.here,h.dp,h.cl⟩
theorem SaysCur.step {u r:Int} {ok:Bool} (h:SaysCur w0 H w k p c1 c2 c3 c4 c5 ma mb L G S F FP sl l t sl1 M B) (h0:SaysAt w0 k p c1 c2 c3 c4 c5 ma mb L G S F FP sl l B0) (hr:SaysRet w k p c1 c2 c3 c4 c5 ma mb L G S F FP sl1 (l++M) u r ok w' sl2 M2 B2) (hu:Sp.jPE S u<Sp.jPE S t) (hsub:Sp.Sub L t u∨u∈Sp.zZ S) (hcl:∀x,u∈Sp.zZ S→Sp.jPE S x≤Sp.jPE S u→x∈Sp.zZ S) (hdep:Sp.Dep L S t u) :
  Kept H w w'∧SaysCur w0 H w' k p c1 c2 c3 c4 c5 ma mb L G S F FP sl l t sl2 (M++M2) B2:=by
 have hk:Kept H w w':=hr.ext.kept (fun b hb hx=>h.nh h0 b hx hb)
 refine ⟨hk,by rw [← List.append_assoc];exact hr.st,by rw [← List.append_assoc];exact hr.prf,fun s hs=>?_,h.ext.trans' hr.ext (fun i hi hb=>PW.old h0 h.own i hb hi),fun b hb=>?_,fun b hb hh=>?_,h.hs.again hk,fun s hs=>?_,fun s hs y hy=>?_⟩
 ·rcases List.mem_append.1 hs with hs | hs
  ·exact h.new s hs
  ·obtain ⟨q1,q2⟩:=hr.new s hs
   refine ⟨by omega,?_⟩
   rcases q2 with q2 | q2
   ·rcases hsub with h1 | h1
    ·exact .inl (h1.trans q2)
    ·exact .inr (hcl _ h1 q1)
   ·exact .inr q2
 ·rcases hr.own b hb with h1 | h1
  ·exact h.own b h1
  ·right;have:=h.ext.size;omega
 ·rcases hr.own b hb with h1 | h1
  ·exact h.vis b h1 hh
  ·have:=h.hs.lt b hh;omega
 ·rcases List.mem_append.1 hs with hs | hs
  ·exact h.dp s hs
  ·exact .step hdep (hr.dp s hs)
 ·rw [← List.append_assoc]
  rcases List.mem_append.1 hs with hs | hs
  ·rw [List.map_append];exact List.mem_append_left _ (h.cl s hs y hy)
  ·exact hr.cl s hs y hy
end
end Go.Proofs
end
section
open Go Go.SE
namespace Go.Proofs
section
variable {H:Type} {enc:TypeId×Value→H} {P:Program} {W:World} {base:Nat} {sp:Nat→Bool} {held:Bool}
theorem jIP {t:TypeId} {fs:Array Field} (ht:P.underlying t=some (.struct fs)) {n:Nat} {cs:List Value} {x:DataW H×List MemPlace} (h:DataW.trod enc P W base sp held n t cs=some x) :
  ∃m,cs.length=P.cellsOf t∧∀(i:Nat) (f:Field),fs.toList[i]?=some f→∃y,DataW.trod enc P W base sp held m f.type ((cs.drop f.offset).take (P.cellsOf f.type))=some y:=by
 cases n with
 | zero=>cases h
 | succ n =>
  rw [DataW.trod_step] at h
  unfold DataW.trodStep at h
  rw [ht] at h
  simp only at h
  split at h
  ·rename_i hl
   cases hm:fs.toList.mapM (fun f=>DataW.trod enc P W base sp held n f.type ((cs.drop f.offset).take (P.cellsOf f.type))) with
   | none=>rw [hm] at h;cases h
   | some r =>
    refine ⟨n,hl,fun i f hf=>?_⟩
    obtain ⟨b,hb,_⟩:=(jAF hm).2 i f hf
    exact ⟨b,hb⟩
  ·cases h
end
section
variable {H:Type} {enc:TypeId×Value→H} {W:World} {base:Nat} {sp:Nat→Bool} {held:Bool}
end
end Go.Proofs
end
