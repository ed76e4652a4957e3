import Derived.Test.YtkafbiknboamlaaGreatDoorProg
import Derived.KernelRfl
import Derived.Test.YtkafbiknboamlaaGreatDoorPa2
import Derived.IntWalk
section
open Go Go.SE
open Go.IntKind renaming i64 → q6
namespace Go.Proofs
open Tryz
set_option maxRecDepth 100000
set_option maxHeartbeats 4000000
attribute [local irreducible] wpL wpX opE wpE Calls
def m_G1_l1 (path1:Sl) (i1 aV:Int) (aW bT bU:Int) (aX:ByteArray) (bV:Sl) (aI aJ:Int) (bA bB:Int) (aK:ByteArray) (aT:Sl) (w0:World) (Hl1:NP) (wl1:World) (Kc1:Int→Int→Int→Int→Int→ByteArray→Sl→Int→Int→Int→Int→ByteArray→Sl→NP→WP) (K:Int→Int→Int→Int→ByteArray→Sl→WP):Prop :=Br (decide (i1<(path1.len:Int))) (∃a1:Addr,At path1 i1 1 a1∧∀w3,Hst w0 Hl1 wl1 Hl1 w3→∃v1,w3.cell? a1=some (vi v1)∧Br (decide (v1≥(aT.len:Int))) (∀w4,Hst w0 Hl1 w3 Hl1 w4→K 0 0 0 0 ⟨#[]⟩ Sl.nil w4) (∃a2:Addr,At path1 i1 1 a2∧∃v2,w3.cell? a2=some (vi v2)∧¬ Hl1 a2.block∧∃a3:Addr,At aT v2 6 a3∧∃bN bO bP bQ bR bS,Row w3 a3 (Ab bN bO bP bQ bR bS)∧¬ Hl1 a3.block∧∀H3 w7,Hst w0 Hl1 w3 H3 w7→Kc1 (q6.wrap (i1+1)) aV aW bT bU aX bV bN bO bP bQ bR bS H3 w7)) (∀w9,Hst w0 Hl1 wl1 Hl1 w9→K aI aJ bA bB aK aT w9)
def m_G1 (aD aC:Int) (aE aF:Int) (aG:ByteArray) (aH path1:Sl) (w0:World) (K:Int→Int→Int→Int→ByteArray→Sl→WP):Prop :=∀H2 w2,Hst w0 None w0 H2 w2→∃(I1:Int→Int→Int→Int→Int→ByteArray→Sl→Int→Int→Int→Int→ByteArray→Sl→NP→WP) (mu1:Int→Int→Int→Int→Int→ByteArray→Sl→Int→Int→Int→Int→ByteArray→Sl→World→Nat),I1 0 0 0 0 0 ⟨#[]⟩ Sl.nil aD aC aE aF aG aH H2 w2∧∀(i1 aV:Int) (aW bT bU:Int) (aX:ByteArray) (bV:Sl) (aI aJ:Int) (bA bB:Int) (aK:ByteArray) (aT:Sl) (Hl1:NP) (wl1:World),Hst w0 Hl1 wl1 Hl1 wl1→I1 i1 aV aW bT bU aX bV aI aJ bA bB aK aT Hl1 wl1→m_G1_l1 path1 i1 aV aW bT bU aX bV aI aJ bA bB aK aT w0 Hl1 wl1 (fun y'0 y'1 y'2 y'3 y'4 y'5 y'6 y'7 y'8 y'9 y'10 y'11 y'12 H' w'=>I1 y'0 y'1 y'2 y'3 y'4 y'5 y'6 y'7 y'8 y'9 y'10 y'11 y'12 H' w'∧mu1 y'0 y'1 y'2 y'3 y'4 y'5 y'6 y'7 y'8 y'9 y'10 y'11 y'12 w'<mu1 i1 aV aW bT bU aX bV aI aJ bA bB aK aT wl1) K
theorem w_G1 (aD aC aE aF aG aH path1 w0 K) (h:m_G1 aD aC aE aF aG aH path1 w0 K):
  Calls prog 92 #[(.agg #[(vi aD),(vi aC),(vi aE),(vu aF),(vs aG),aH.v]),path1.v] w0 (fun e w'=>∃bC bD bW bX bE bY,e=.returned (Aa bC bD bW bX bE bY)∧K bC bD bW bX bE bY w'):=by
 refine cw (args:=[(Aa aD aC aE aF aG aH),path1.v]) func92 ntmps92 ?_
 obtain ⟨hs,hb⟩:=st0 w0
 refine eg (nw3 (Ab aD aC aE aF aG aH) 28 hs hb xb fun p1 w1 H1 hs hb=>nw3 [(vi 0),(vi 0),(vi 0),(vu 0),ve,Sl.nil.v] 28 hs hb (zH (zeroValue28 _) rfl) fun p2 w2 H2 hs hb=>ln (zA (eg (q (ln (zL ?_))))))
 have ⟨h,hs⟩:=hs.hr (h H2 w2)
 obtain ⟨I1,mu1,h0,hr⟩:=h
 refine vR (σ:=Int×Int×Int×Int×Int×ByteArray×Sl×Int×Int×Int×Int×ByteArray×Sl×NP×World) (fun s ρ w=>w=s.2.2.2.2.2.2.2.2.2.2.2.2.2.2∧Has ρ [(1,path1.v),(2,(vp (some p1))),(4,(vp (some p2))),(5,(vi s.1))]∧Hst w0 s.2.2.2.2.2.2.2.2.2.2.2.2.2.1 w s.2.2.2.2.2.2.2.2.2.2.2.2.2.1 w∧HB s.2.2.2.2.2.2.2.2.2.2.2.2.2.1 w [(p2,[(vi s.2.1),(vi s.2.2.1),(vi s.2.2.2.1),(vu s.2.2.2.2.1),(vs s.2.2.2.2.2.1),s.2.2.2.2.2.2.1.v],28),(p1,[(vi s.2.2.2.2.2.2.2.1),(vi s.2.2.2.2.2.2.2.2.1),(vi s.2.2.2.2.2.2.2.2.2.1),(vu s.2.2.2.2.2.2.2.2.2.2.1),(vs s.2.2.2.2.2.2.2.2.2.2.2.1),s.2.2.2.2.2.2.2.2.2.2.2.2.1.v],28)]∧I1 s.1 s.2.1 s.2.2.1 s.2.2.2.1 s.2.2.2.2.1 s.2.2.2.2.2.1 s.2.2.2.2.2.2.1 s.2.2.2.2.2.2.2.1 s.2.2.2.2.2.2.2.2.1 s.2.2.2.2.2.2.2.2.2.1 s.2.2.2.2.2.2.2.2.2.2.1 s.2.2.2.2.2.2.2.2.2.2.2.1 s.2.2.2.2.2.2.2.2.2.2.2.2.1 s.2.2.2.2.2.2.2.2.2.2.2.2.2.1 s.2.2.2.2.2.2.2.2.2.2.2.2.2.2) (fun s=>mu1 s.1 s.2.1 s.2.2.1 s.2.2.2.1 s.2.2.2.2.1 s.2.2.2.2.2.1 s.2.2.2.2.2.2.1 s.2.2.2.2.2.2.2.1 s.2.2.2.2.2.2.2.2.1 s.2.2.2.2.2.2.2.2.2.1 s.2.2.2.2.2.2.2.2.2.2.1 s.2.2.2.2.2.2.2.2.2.2.2.1 s.2.2.2.2.2.2.2.2.2.2.2.2.1 s.2.2.2.2.2.2.2.2.2.2.2.2.2.2) (0,0,0,0,0,⟨#[]⟩,Sl.nil,aD,aC,aE,aF,aG,aH,H2,w2) ⟨rfl,hm,hs,hb,h0⟩ ?_
 rintro ⟨i1,aV,aW,bT,bU,aX,bV,aI,aJ,bA,bB,aK,aT,Hl1,wl1⟩ ρ w ⟨hw,hH,hs,hb,hI⟩
 dsimp only at hw hH hs hb;subst w
 have h:=hr i1 aV aW bT bU aX bV aI aJ bA bB aK aT Hl1 wl1 hs hI
 refine zR hH (zA (eg (qd (ln (cbr h ?_ ?_)))))<;>intro h
 refine zD (zN (zA (zL (zA (zA (qD (by kernel_rfl) (by kernel_rfl) (by kernel_rfl) (by kernel_rfl) ?_))))))
 intro w3 hw3
 have hs:Hst w0 Hl1 wl1 Hl1 w3:=by rw [hw3];exact hs.drew
 have hb:HB Hl1 w3 [(p2,(Ab aV aW bT bU aX bV),28),(p1,(Ab aI aJ bA bB aK aT),28)]:=by rw [hw3];exact hb.drew
 refine qq 0 path1.v Kp0 (qq 1 (vi i1) Kp1 (qg 2 ?_))
 obtain ⟨a1,hv6,h⟩:=h
 refine sxQ Kp2 (zJ rfl) rfl (xi (runUnderlying50 _) (sizeOf3 _) hv6) (qg 3 ?_)
 have ⟨h,hs⟩:=hs.hr (h w3)
 obtain ⟨v1,hv5,h⟩:=h
 refine sxQ Kp3 (zJ rfl) rfl (xl (isAgg3 _) hv5) (qq 4 (vp (some (p1.add 5))) Kp4 (qr 5 aT.v Kp5 (xl (isAgg22 _) (hb.c 1 5 (gS gZ))) (qq 6 (vi (aT.len:Int)) Kp6 (qq 7 (vb (decide (v1≥(aT.len:Int)))) Kp7 (wn (zN (cbr h ?_ ?_)))))))<;>intro h
 refine eg (q (vW (zJ rfl) (xo p2 [(vi 0),(vi 0),(vi 0),(vu 0),ve,Sl.nil.v] (sizeOf28 _) (hb.k0 0 6 gZ)) ?_))
 intro w4 hn3
 obtain ⟨hs,hb⟩:=hb.st1 0 hs hn3 gZ
 refine ln (er (vA (qU (vA (vA (qU (vA ?_)))))))
 have ⟨h,hs⟩:=hs.hr (h w4)
 refine jAT (.inl rfl) (vs:=[(.agg #[(vi 0),(vi 0),(vi 0),(vu 0),ve,Sl.nil.v])]) (v:=(.agg #[(vi 0),(vi 0),(vi 0),(vu 0),ve,Sl.nil.v])) results92 ⟨(rva (isAgg28 _) (sizeOf28 _) (hb.r0 0 6 gZ)),trivial⟩ (by kernel_rfl) ⟨0,0,0,0,⟨#[]⟩,Sl.nil,rfl,h⟩
 refine zD (zN (jAH (fun x=>∃H',Hst w0 Hl1 w3 H' x∧HB H' x [(p2,(Ab aV aW bT bU aX bV),28),(p1,(Ab aI aJ bA bB aK aT),28)]) [8] [8] (by kernel_rfl) (by kernel_rfl) (by kernel_rfl) (by kernel_rfl) ⟨_,hs.drew,hb.drew⟩ ?_))
 intro w5 hw5
 have hs:Hst w0 Hl1 w3 Hl1 w5:=by rw [hw5];exact hs.drew
 have hb:HB Hl1 w5 [(p2,(Ab aV aW bT bU aX bV),28),(p1,(Ab aI aJ bA bB aK aT),28)]:=by rw [hw5];exact hb.drew
 refine qx 0 (vp (some (p1.add 5))) Kp0 (qz 1 aT.v Kp1 (fun w' hw'=>(by obtain ⟨H',hs',hb'⟩:=hw';exact (xl (isAgg22 _) (hb'.cell 1 5 (gS gZ) (by kernel_rfl))))) (qx 2 path1.v Kp2 (qx 3 (vi i1) Kp3 (qg 4 ?_))))
 obtain ⟨a2,hv4,h⟩:=h
 refine sy Kp4 (fun _ _=>xi (runUnderlying50 _) (sizeOf3 _) hv4) (qg 5 ?_)
 obtain ⟨v2,hv3,hnh,h⟩:=h
 refine sy (v:=(vi v2)) Kp5 (fun w' hw'=>by obtain ⟨H',hs',hb'⟩:=hw';exact (xl (isAgg3 _) (jTB hv3 hnh hs'))) (qg 6 ?_)
 obtain ⟨a3,hv2,h⟩:=h
 refine sy Kp6 (fun _ _=>xi (runUnderlying22 _) (sizeOf28 _) hv2) (qg 7 ?_)
 obtain ⟨bN,bO,bP,bQ,bR,bS,hv1,hnh,h⟩:=h
 refine sy (v:=(Aa bN bO bP bQ bR bS)) Kp7 (fun w' hw'=>by obtain ⟨H',hs',hb'⟩:=hw';exact (xa a3 (Ab bN bO bP bQ bR bS) (isAgg28 _) (sizeOf28 _) (jUO hv1 hnh hs'))) (jUI (fun ρ wJ=>∃HJ:NP,Hst w0 Hl1 w3 HJ wJ∧HB HJ wJ [(p2,(Ab aV aW bT bU aX bV),28),(p1,(Ab bN bO bP bQ bR bS),28)]∧Has ρ [(1,path1.v),(2,(vp (some p1))),(4,(vp (some p2))),(5,(vi i1))]) ?_ ?_)
 refine lg 8 (xJ Kp8 (zJ rfl) (by kernel_rfl) (xo p1 (Ab bN bO bP bQ bR bS) (sizeOf28 _) (hb.k0 1 6 (gS gZ))) ?_)
 intro w8 hn5
 obtain ⟨hs,hb⟩:=hb.st1 1 hs hn5 (gS gZ)
 refine ⟨.inl (by kernel_rfl),?_⟩
 refine wn ⟨_,hs,hb,hm⟩
 rintro ρ w7 ⟨H3,hs,hb,hH⟩
 refine q_has hH (tG (zN (rg (qc (zC ?_)))))
 have ⟨h,hs⟩:=hs.hr (h H3 w7)
 refine zN ⟨((q6.wrap (i1+1)),aV,aW,bT,bU,aX,bV,bN,bO,bP,bQ,bR,bS,H3,w7),⟨rfl,hm,hs,hb,h.1⟩,h.2⟩
 refine vN (xH (xH (xB (zN (eg (q2 (Aa aI aJ bA bB aK aT) (xa p1 (Ab aI aJ bA bB aK aT) (isAgg28 _) (sizeOf28 _) (hb.r0 1 6 (gS gZ))) (vW (zJ rfl) (xo p2 (Ab aI aJ bA bB aK aT) (sizeOf28 _) (hb.k0 0 6 gZ)) ?_)))))))
 intro w9 hn6
 obtain ⟨hs,hb⟩:=hb.st1 0 hs hn6 gZ
 refine ln (er ?_)
 have ⟨h,hs⟩:=hs.hr (h w9)
 refine jAT (.inl rfl) (vs:=[(Aa aI aJ bA bB aK aT)]) (v:=(Aa aI aJ bA bB aK aT)) results92 ⟨(rva (isAgg28 _) (sizeOf28 _) (hb.r0 0 6 gZ)),trivial⟩ (by kernel_rfl) ⟨aI,aJ,bA,bB,aK,aT,rfl,h⟩
def s_B (kind1:Int):Bool :=(((kind1 == 1) || (kind1 == 2)) || (kind1 == 4))
theorem pw_B (kind1:Int) (w0:World) :
  Calls prog 74 #[(vi kind1)] w0 (fun e w'=>(e=.returned (vb (((kind1 == 1) || (kind1 == 2)) || (kind1 == 4))))∧Pure w0 w'):=by
 refine cw (args:=[(vi kind1)]) func74 ntmps74 (eg (q0 (vb false) (ln (zA ?_))))
 refine vO (fun ρ wJ=>w0=wJ∧Has ρ [(2,(vb (((kind1 == 1) || (kind1 == 2)) || (kind1 == 4))))]) ?_ ?_
 refine rg (qc (zK 3 (fun ρ wJ=>∃b4'0:Bool,((kind1 == 1)=b4'0)∧w0=wJ∧Has ρ [(0,(vi kind1)),(8,(vb (b4'0 || (kind1 == 2))))]) ?_ ?_))
 rintro ρ w4 ⟨b4'0,he0,hw,hH⟩
 subst he0
 subst hw
 refine zQ hH (q (zK 3 (fun ρ wJ=>∃b5'0:Bool,(((kind1 == 1) || (kind1 == 2))=b5'0)∧w0=wJ∧Has ρ [(12,(vb (b5'0 || (kind1 == 4))))]) ?_ ?_))
 rintro ρ w5 ⟨b5'0,he0,hw,hH⟩
 subst he0
 subst hw
 refine zQ hH (q (ln ⟨rfl,hm⟩))
 rcases bte ((kind1 == 1) || (kind1 == 2)) with hg8 | hg8
 refine sj2 9 hg8 (q2 (vb true) (xT hg8) (zC ⟨true,hg8,rfl,hm⟩))
 refine qk 9 hg8 (qk 9 hg8 (q2 (vb (kind1 == 4)) (xF hg8) (zC ⟨false,hg8,rfl,hm⟩)))
 rcases bte (kind1 == 1) with hg6 | hg6
 refine sj2 5 hg6 (q2 (vb true) (xT hg6) (zC ⟨true,hg6,rfl,hm⟩))
 refine qk 5 hg6 (qk 5 hg6 (q2 (vb (kind1 == 2)) (xF hg6) (zC ⟨false,hg6,rfl,hm⟩)))
 rintro ρ w3 ⟨hw,hH⟩
 subst hw
 refine vC hH (zN (er (rs1 results74 (v:=(vb (((kind1 == 1) || (kind1 == 2)) || (kind1 == 4)))) ⟨by kernel_rfl,Ext.refl _⟩)))
theorem p_B (kind1:Int) (w0:World):Calls prog 74 #[(.int .i64 kind1)] w0 (fun e w'=>e=.returned (.bool (s_B kind1))∧Pure w0 w'):=pw_B kind1 w0
def s_Z1 (kind1:Int):Bool :=((s_B kind1) || (kind1 == 6))
theorem pw_Z1 (kind1:Int) (w0:World) :
  Calls prog 75 #[(vi kind1)] w0 (fun e w'=>(e=.returned (vb ((s_B kind1) || (kind1 == 6))))∧Pure w0 w'):=by
 refine cw (args:=[(vi kind1)]) func75 ntmps75 ?_
 obtain ⟨hs,hb⟩:=st0 w0
 refine eg (q (ln (zA (vO (fun ρ wJ=>∃HJ:NP,Hst w0 None w0 HJ wJ∧HB HJ wJ []∧Has ρ [(2,(vb ((s_B kind1) || (kind1 == 6))))]) ?_ ?_))))
 refine rg (q (sc call74 ((p_B kind1 w0).mono ?_)))
 rintro e w4 ⟨he,hE⟩
 refine ⟨_,he,?_⟩
 obtain ⟨hs,hb⟩:=hs.pp hb hE
 refine q (zK 3 (fun ρ wJ=>∃b3'0:Bool,∃HJ:NP,((s_B kind1)=b3'0)∧Hst w0 None w0 HJ wJ∧HB HJ wJ []∧Has ρ [(8,(vb (b3'0 || (kind1 == 6))))]) ?_ ?_)
 rintro ρ w5 ⟨b3'0,H3,he0,hs,hb,hH⟩
 subst he0
 refine zQ hH (q (ln ⟨_,hs,hb,hm⟩))
 rcases bte (s_B kind1) with hg4 | hg4
 refine sj2 5 hg4 (q2 (vb true) (xT hg4) (zC ⟨true,_,hg4,hs,hb,hm⟩))
 refine qk 5 hg4 (qk 5 hg4 (q2 (vb (kind1 == 6)) (xF hg4) (zC ⟨false,_,hg4,hs,hb,hm⟩)))
 rintro ρ w3 ⟨H2,hs,hb,hH⟩
 refine vC hH (zN (er (rs1 results75 (v:=(vb ((s_B kind1) || (kind1 == 6)))) ⟨by kernel_rfl,(Ext.refl (F:=None) _).hst hs⟩)))
theorem p_Z1 (kind1:Int) (w0:World):Calls prog 75 #[(.int .i64 kind1)] w0 (fun e w'=>e=.returned (.bool (s_Z1 kind1))∧Pure w0 w'):=pw_Z1 kind1 w0
def s_V1 (aA aB aU:Int) (aP:ByteArray) (aQ:Bool):Int :=(cond ((((((decide (aA<1)) || (decide (aA>7))) || ((aB != 0) && (aB != 1))) || ((!(s_B aA)) && (aB != 0))) || ((!((s_B aA) || (aA == 6))) && (!(decide (aP=⟨#[]⟩))))) || ((aQ && (aA != 1)) && (aA != 4))) 110 (cond (decide ((aP.size:Int)>64)) 1 0))
theorem pw_V1 (aA aB aU:Int) (aP:ByteArray) (aQ:Bool) (w0:World) :
  Calls prog 32 #[(.agg #[(vi aA),(vi aB),(vu aU),(vs aP),(vb aQ)])] w0 (fun e w'=>∃b'0 b'1:Bool,(((((((decide (aA<1)) || (decide (aA>7))) || ((aB != 0) && (aB != 1))) || ((!(s_B aA)) && (aB != 0))) || ((!((s_B aA) || (aA == 6))) && (!(decide (aP=⟨#[]⟩))))) || ((aQ && (aA != 1)) && (aA != 4)))=b'0∧(decide ((aP.size:Int)>64))=b'1)∧(e=.returned (vi (cond b'0 110 (cond b'1 1 0))))∧Pure w0 w'):=by
 refine cw (args:=[(Af aA aB aU aP aQ)]) func32 ntmps32 ?_
 obtain ⟨hs,hb⟩:=st0 w0
 refine eg (nw3 (Ac aA aB aU aP aQ) 56 hs hb xb fun p1 w1 H1 hs hb=>q (ln (zA (zA (vO (fun ρ wJ=>∃b13'0:Bool,∃HJ:NP,((((((decide (aA<1)) || (decide (aA>7))) || ((aB != 0) && (aB != 1))) || ((!(s_B aA)) && (aB != 0))) || ((!((s_B aA) || (aA == 6))) && (!(decide (aP=⟨#[]⟩)))))=b13'0)∧Hst w0 None w0 HJ wJ∧HB HJ wJ [(p1,(Ac aA aB aU aP aQ),56)]∧Has ρ [(1,(vp (some p1))),(56,(vb (b13'0 || ((aQ && (aA != 1)) && (aA != 4)))))]) ?_ ?_)))))
 refine rg (q (q3 (xl (isAgg3 _) (hb.d0 0 gZ)) (qb (zK 4 (fun ρ wJ=>∃b14'0:Bool,∃HJ:NP,((decide (aA<1))=b14'0)∧Hst w0 None w0 HJ wJ∧HB HJ wJ [(p1,(Ac aA aB aU aP aQ),56)]∧Has ρ [(1,(vp (some p1))),(10,(vb (b14'0 || (decide (aA>7)))))]) ?_ ?_))))
 rintro ρ w19 ⟨b14'0,H15,he0,hs,hb,hH⟩
 subst he0
 refine zQ hH (q (zK 9 (fun ρ wJ=>∃b16'0:Bool,∃HJ:NP,(((decide (aA<1)) || (decide (aA>7)))=b16'0)∧Hst w0 None w0 HJ wJ∧HB HJ wJ [(p1,(Ac aA aB aU aP aQ),56)]∧Has ρ [(1,(vp (some p1))),(20,(vb (b16'0 || ((aB != 0) && (aB != 1)))))]) ?_ ?_))
 rintro ρ w21 ⟨b16'0,H17,he0,hs,hb,hH⟩
 subst he0
 refine zQ hH (q (zK 10 (fun ρ wJ=>∃b19'0:Bool,∃HJ:NP,((((decide (aA<1)) || (decide (aA>7))) || ((aB != 0) && (aB != 1)))=b19'0)∧Hst w0 None w0 HJ wJ∧HB HJ wJ [(p1,(Ac aA aB aU aP aQ),56)]∧Has ρ [(1,(vp (some p1))),(31,(vb (b19'0 || ((!(s_B aA)) && (aB != 0)))))]) ?_ ?_))
 rintro ρ w25 ⟨b19'0,H20,he0,hs,hb,hH⟩
 subst he0
 refine zQ hH (q (zK 10 (fun ρ wJ=>∃b22'0:Bool,∃HJ:NP,(((((decide (aA<1)) || (decide (aA>7))) || ((aB != 0) && (aB != 1))) || ((!(s_B aA)) && (aB != 0)))=b22'0)∧Hst w0 None w0 HJ wJ∧HB HJ wJ [(p1,(Ac aA aB aU aP aQ),56)]∧Has ρ [(1,(vp (some p1))),(42,(vb (b22'0 || ((!((s_B aA) || (aA == 6))) && (!(decide (aP=⟨#[]⟩)))))))]) ?_ ?_))
 rintro ρ w30 ⟨b22'0,H23,he0,hs,hb,hH⟩
 subst he0
 refine zQ hH (q ?_)
 rcases bte (((((decide (aA<1)) || (decide (aA>7))) || ((aB != 0) && (aB != 1))) || ((!(s_B aA)) && (aB != 0))) || ((!((s_B aA) || (aA == 6))) && (!(decide (aP=⟨#[]⟩))))) with hg46 | hg46
 refine sj3 43 hg46 (sm (sm (sm (sj2 43 hg46 (sm (sm (sm (sj 43 hg46 (q2 (vb true) (xT hg46) (ln ⟨true,_,hg46,hs,hb,hm⟩))))))))))
 refine qk 43 hg46 (q4 43 hg46 (xl (isAgg4 _) (hb.d 0 4 gZ)) (qk 43 hg46 (zK 4 (fun ρ wJ=>∃b24'0:Bool,∃HJ:NP,(aQ=b24'0)∧Hst w0 None w0 HJ wJ∧HB HJ wJ [(p1,(Ac aA aB aU aP aQ),56)]∧Has ρ [(1,(vp (some p1))),(43,(vb (((((decide (aA<1)) || (decide (aA>7))) || ((aB != 0) && (aB != 1))) || ((!(s_B aA)) && (aB != 0))) || ((!((s_B aA) || (aA == 6))) && (!(decide (aP=⟨#[]⟩))))))),(50,(vb (b24'0 && (aA != 1))))]) ?_ ?_)))
 rintro ρ w33 ⟨b24'0,H25,he0,hs,hb,hH⟩
 subst he0
 refine zQ hH (qk 43 hg46 (zK 4 (fun ρ wJ=>∃b25'0:Bool,∃HJ:NP,((aQ && (aA != 1))=b25'0)∧Hst w0 None w0 HJ wJ∧HB HJ wJ [(p1,(Ac aA aB aU aP aQ),56)]∧Has ρ [(1,(vp (some p1))),(43,(vb (((((decide (aA<1)) || (decide (aA>7))) || ((aB != 0) && (aB != 1))) || ((!(s_B aA)) && (aB != 0))) || ((!((s_B aA) || (aA == 6))) && (!(decide (aP=⟨#[]⟩))))))),(55,(vb (b25'0 && (aA != 4))))]) ?_ ?_))
 rintro ρ w34 ⟨b25'0,H26,he0,hs,hb,hH⟩
 subst he0
 refine zQ hH (q2 (vb ((aQ && (aA != 1)) && (aA != 4))) (xF hg46) (ln ⟨false,_,hg46,hs,hb,hm⟩))
 rcases bte (aQ && (aA != 1)) with hg50 | hg50
 refine qk 51 hg50 (q4 51 hg50 (xl (isAgg3 _) (hb.d0 0 gZ)) (qk 51 hg50 (stq (v:=(vb (aA != 4))) (wy 43 hg46) (xT hg50) (zC ⟨true,_,hg50,hs,hb,hm⟩))))
 refine sj3 51 hg50 (stq (v:=(vb false)) (wy 43 hg46) (xF hg50) (zC ⟨false,_,hg50,hs,hb,hm⟩))
 rcases bte aQ with hg48 | hg48
 refine qk 46 hg48 (q4 46 hg48 (xl (isAgg3 _) (hb.d0 0 gZ)) (qk 46 hg48 (stq (v:=(vb (aA != 1))) (wy 43 hg46) (xT hg48) (zC ⟨true,_,hg48,hs,hb,hm⟩))))
 refine sj3 46 hg48 (stq (v:=(vb false)) (wy 43 hg46) (xF hg48) (zC ⟨false,_,hg48,hs,hb,hm⟩))
 rcases bte ((((decide (aA<1)) || (decide (aA>7))) || ((aB != 0) && (aB != 1))) || ((!(s_B aA)) && (aB != 0))) with hg43 | hg43
 refine sj5 32 hg43 (sm (sm (sm (sj 32 hg43 (q2 (vb true) (xT hg43) (zC ⟨true,_,hg43,hs,hb,hm⟩))))))
 refine qk 32 hg43 (q4 32 hg43 (xl (isAgg3 _) (hb.d0 0 gZ)) (vX (wy 32 hg43) (xc call75) ((p_Z1 aA w25).mono ?_)))
 rintro e w31 ⟨he,hE⟩
 refine ⟨_,he,?_⟩
 obtain ⟨hs,hb⟩:=hs.pp hb hE
 refine qk 32 hg43 (qk 32 hg43 (zK 4 (fun ρ wJ=>∃b23'0:Bool,∃HJ:NP,((!((s_B aA) || (aA == 6)))=b23'0)∧Hst w0 None w0 HJ wJ∧HB HJ wJ [(p1,(Ac aA aB aU aP aQ),56)]∧Has ρ [(1,(vp (some p1))),(32,(vb ((((decide (aA<1)) || (decide (aA>7))) || ((aB != 0) && (aB != 1))) || ((!(s_B aA)) && (aB != 0))))),(41,(vb (b23'0 && (!(decide (aP=⟨#[]⟩))))))]) ?_ ?_))
 rintro ρ w32 ⟨b23'0,H24,he0,hs,hb,hH⟩
 subst he0
 refine zQ hH (q2 (vb ((!((s_B aA) || (aA == 6))) && (!(decide (aP=⟨#[]⟩))))) (xF hg43) (zC ⟨false,_,hg43,hs,hb,hm⟩))
 rcases bte (!((s_B aA) || (aA == 6))) with hg45 | hg45
 refine qk 37 hg45 (q4 37 hg45 (xl (isAgg9 _) (hb.d 0 3 gZ)) (stq (v:=(vb (!(decide (aP=⟨#[]⟩))))) (wy 37 hg45) (xV (by kernel_rfl) (by kernel_rfl)) (stq (v:=(vb (!(decide (aP=⟨#[]⟩))))) (wy 32 hg43) (xT hg45) (zC ⟨true,_,hg45,hs,hb,hm⟩))))
 refine sj3 37 hg45 (stq (v:=(vb false)) (wy 32 hg43) (xF hg45) (zC ⟨false,_,hg45,hs,hb,hm⟩))
 rcases bte (((decide (aA<1)) || (decide (aA>7))) || ((aB != 0) && (aB != 1))) with hg37 | hg37
 refine sj5 21 hg37 (sm (sm (sm (sj 21 hg37 (q2 (vb true) (xT hg37) (zC ⟨true,_,hg37,hs,hb,hm⟩))))))
 refine qk 21 hg37 (q4 21 hg37 (xl (isAgg3 _) (hb.d0 0 gZ)) (vX (wy 21 hg37) (xc call74) ((p_B aA w21).mono ?_)))
 rintro e w26 ⟨he,hE⟩
 refine ⟨_,he,?_⟩
 obtain ⟨hs,hb⟩:=hs.pp hb hE
 refine qk 21 hg37 (qk 21 hg37 (zK 4 (fun ρ wJ=>∃b20'0:Bool,∃HJ:NP,((!(s_B aA))=b20'0)∧Hst w0 None w0 HJ wJ∧HB HJ wJ [(p1,(Ac aA aB aU aP aQ),56)]∧Has ρ [(1,(vp (some p1))),(21,(vb (((decide (aA<1)) || (decide (aA>7))) || ((aB != 0) && (aB != 1))))),(30,(vb (b20'0 && (aB != 0))))]) ?_ ?_))
 rintro ρ w27 ⟨b20'0,H21,he0,hs,hb,hH⟩
 subst he0
 refine zQ hH (q2 (vb ((!(s_B aA)) && (aB != 0))) (xF hg37) (zC ⟨false,_,hg37,hs,hb,hm⟩))
 rcases bte (!(s_B aA)) with hg39 | hg39
 refine qk 26 hg39 (q4 26 hg39 (xl (isAgg3 _) (hb.d 0 1 gZ)) (qk 26 hg39 (stq (v:=(vb (aB != 0))) (wy 21 hg37) (xT hg39) (zC ⟨true,_,hg39,hs,hb,hm⟩))))
 refine sj3 26 hg39 (stq (v:=(vb false)) (wy 21 hg37) (xF hg39) (zC ⟨false,_,hg39,hs,hb,hm⟩))
 rcases bte ((decide (aA<1)) || (decide (aA>7))) with hg31 | hg31
 refine sj4 11 hg31 (sm (sm (sm (sj 11 hg31 (q2 (vb true) (xT hg31) (zC ⟨true,_,hg31,hs,hb,hm⟩))))))
 refine qk 11 hg31 (q4 11 hg31 (xl (isAgg3 _) (hb.d 0 1 gZ)) (qk 11 hg31 (qk 11 hg31 (zK 4 (fun ρ wJ=>∃b17'0:Bool,∃HJ:NP,((aB != 0)=b17'0)∧Hst w0 None w0 HJ wJ∧HB HJ wJ [(p1,(Ac aA aB aU aP aQ),56)]∧Has ρ [(1,(vp (some p1))),(11,(vb ((decide (aA<1)) || (decide (aA>7))))),(19,(vb (b17'0 && (aB != 1))))]) ?_ ?_))))
 rintro ρ w22 ⟨b17'0,H18,he0,hs,hb,hH⟩
 subst he0
 refine zQ hH (q2 (vb ((aB != 0) && (aB != 1))) (xF hg31) (zC ⟨false,_,hg31,hs,hb,hm⟩))
 rcases bte (aB != 0) with hg33 | hg33
 refine qk 15 hg33 (q4 15 hg33 (xl (isAgg3 _) (hb.d 0 1 gZ)) (qk 15 hg33 (stq (v:=(vb (aB != 1))) (wy 11 hg31) (xT hg33) (zC ⟨true,_,hg33,hs,hb,hm⟩))))
 refine sj3 15 hg33 (stq (v:=(vb false)) (wy 11 hg31) (xF hg33) (zC ⟨false,_,hg33,hs,hb,hm⟩))
 rcases bte (decide (aA<1)) with hg27 | hg27
 refine sj3 6 hg27 (q2 (vb true) (xT hg27) (zC ⟨true,_,hg27,hs,hb,hm⟩))
 refine qk 6 hg27 (q4 6 hg27 (xl (isAgg3 _) (hb.d0 0 gZ)) (qk 6 hg27 (q2 (vb (decide (aA>7))) (xF hg27) (zC ⟨false,_,hg27,hs,hb,hm⟩))))
 rintro ρ w18 ⟨b13'0,H14,he0,hs,hb,hH⟩
 subst he0
 refine vC hH (zN (vJ (t:=((((((decide (aA<1)) || (decide (aA>7))) || ((aB != 0) && (aB != 1))) || ((!(s_B aA)) && (aB != 0))) || ((!((s_B aA) || (aA == 6))) && (!(decide (aP=⟨#[]⟩))))) || ((aQ && (aA != 1)) && (aA != 4)))) (by kernel_rfl) (fun hc1=>?_) (fun hc1=>?_)))
 refine eg (q (ln (er (vA (rs1 results32 (v:=(vi 110)) ⟨true,_,⟨hc1,rfl⟩,by kernel_rfl,(Ext.refl (F:=None) _).hst hs⟩)))))
 refine zD (zN (zA (eg (q (q3 (xl (isAgg9 _) (hb.d 0 3 gZ)) (qb (ln (vJ (t:=(decide ((aP.size:Int)>64))) (by kernel_rfl) (fun hc2=>?_) (fun hc2=>?_)))))))))
 refine eg (q (ln (er (vA (rs1 results32 (v:=(vi 1)) ⟨false,true,⟨hc1,hc2⟩,by kernel_rfl,(Ext.refl (F:=None) _).hst hs⟩)))))
 refine zD (zN (eg (q (ln (er (rs1 results32 (v:=(vi 0)) ⟨false,false,⟨hc1,hc2⟩,by kernel_rfl,(Ext.refl (F:=None) _).hst hs⟩))))))
theorem p_V1 (aA aB aU:Int) (aP:ByteArray) (aQ:Bool) (w0:World):Calls prog 32 #[(.agg #[(.int .i64 aA),(.int .i64 aB),(.int .u64 aU),(.string aP),(.bool aQ)])] w0 (fun e w'=>e=.returned (.int .i64 (s_V1 aA aB aU aP aQ))∧Pure w0 w'):=by
 refine (pw_V1 aA aB aU aP aQ w0).mono ?_;rintro e w' ⟨b'0,b'1,⟨e0,e1⟩,h,E⟩;subst e0;subst e1;exact ⟨h,E⟩
def m_I_l5 (aD aC:Int) (aE aF:Int) (aG:ByteArray) (aH:Sl) (kind1 i1:Int) (fakes1 aL:Int) (aM aN:Int) (aO:ByteArray) (cF:Bool) (bF bG bH:Int) (bI:ByteArray) (bJ:Bool) (w0:World) (Hl3:NP) (wl3:World) (Kc2:Int→Int→Int→Int→ByteArray→Bool→NP→WP) (Kc5:Int→Int→Int→Int→ByteArray→Bool→Int→Int→Int→ByteArray→Bool→NP→WP) (K:Int→Int→Int→ByteArray→Bool→Bool→WP):Prop :=Br (decide (fakes1<4)) (∀w14,Hst w0 Hl3 wl3 Hl3 w14→∃C1:WP,C1 w14.drew∧∀w15,w15=w14.drew→Calls prog 32 #[(.agg #[(vi aL),(vi aM),(vu aN),(vs aO),(vb (decide (fakes1>0)))])] w15 (fun e w16=>∃r1,e=.returned (vi r1)∧C1 w16∧Kept Hl3 w15 w16∧Br (r1 == 0) (Br (kind1 == 4) (∃z1,(∀w',C1 w'→(Go.binOp .rem 3 (vi fakes1) (vi 2)).run prog w'=.ok (vi z1) w')∧∃z2,(∀w',C1 w'→(Go.binOp .quo 3 (vi fakes1) (vi 2)).run prog w'=.ok (vi z2) w')∧Calls prog 71 #[(.agg #[(vi aL),(vi aM),(vu aN),(vs aO),(vb (decide (fakes1>0)))]),(vb (z1 == 1)),(vb (z2 == 1))] w16 (fun e w17=>∃bC bD bW bX bE bY,e=.returned (Aa bC bD bW bX bE bY)∧C1 w17∧Kept Hl3 w16 w17∧Calls prog 37 #[(.agg #[(vi bC),(vi bD),(vi bW),(vu bX),(vs bE),bY.v]),(.agg #[(vi aD),(vi aC),(vi aE),(vu aF),(vs aG),aH.v])] w17 (fun e w18=>∃r2,e=.returned (vb r2)∧C1 w18∧Kept Hl3 w17 w18∧Br r2 (∀w19,Hst w0 Hl3 w18 Hl3 w19→K aL aM aN aO (decide (fakes1>0)) true w19) (Kc5 (q6.wrap (fakes1+1)) aL aM aN aO (decide (fakes1>0)) bF bG bH bI bJ Hl3 w18)))) (Br (fakes1 != 2) (∃z3,(∀w',C1 w'→(Go.binOp .rem 3 (vi fakes1) (vi 2)).run prog w'=.ok (vi z3) w')∧∃z4,(∀w',C1 w'→(Go.binOp .quo 3 (vi fakes1) (vi 2)).run prog w'=.ok (vi z4) w')∧Calls prog 71 #[(.agg #[(vi aL),(vi aM),(vu aN),(vs aO),(vb (decide (fakes1>0)))]),(vb (z3 == 1)),(vb (z4 == 1))] w16 (fun e w20=>∃bK bL dD dE bM dF,e=.returned (Aa bK bL dD dE bM dF)∧C1 w20∧Kept Hl3 w16 w20∧Calls prog 37 #[(.agg #[(vi bK),(vi bL),(vi dD),(vu dE),(vs bM),dF.v]),(.agg #[(vi aD),(vi aC),(vi aE),(vu aF),(vs aG),aH.v])] w20 (fun e w21=>∃r3,e=.returned (vb r3)∧C1 w21∧Kept Hl3 w20 w21∧Br r3 (∀w22,Hst w0 Hl3 w21 Hl3 w22→K aL aM aN aO (decide (fakes1>0)) true w22) (Kc5 (q6.wrap (fakes1+1)) aL aM aN aO (decide (fakes1>0)) bF bG bH bI bJ Hl3 w21)))) (Kc5 (q6.wrap (fakes1+1)) aL aM aN aO (decide (fakes1>0)) bF bG bH bI bJ Hl3 w16))) (Kc5 (q6.wrap (fakes1+1)) aL aM aN aO (decide (fakes1>0)) bF bG bH bI bJ Hl3 w16))) (Kc2 (q6.wrap (i1+1)) bF bG bH bI bJ Hl3 wl3)
def m_I_j4 (aD aC:Int) (aE aF:Int) (aG:ByteArray) (aH:Sl) (kind1 i1:Int) (aI aJ aR:Int) (aK:ByteArray) (aS:Bool) (aA aB aU:Int) (aP:ByteArray) (aQ:Bool) (w0:World) (H:NP) (w:World) (Kc2:Int→Int→Int→Int→ByteArray→Bool→NP→WP) (K:Int→Int→Int→ByteArray→Bool→Bool→WP):Prop :=∃(I3:Int→Int→Int→Int→ByteArray→Bool→Int→Int→Int→ByteArray→Bool→NP→WP) (mu3:Int→Int→Int→Int→ByteArray→Bool→Int→Int→Int→ByteArray→Bool→World→Nat),I3 0 aA aB aU aP aQ aI aJ aR aK aS H w∧∀(fakes1 aL:Int) (aM aN:Int) (aO:ByteArray) (cF:Bool) (bF bG bH:Int) (bI:ByteArray) (bJ:Bool) (Hl3:NP) (wl3:World),Hst w0 Hl3 wl3 Hl3 wl3→I3 fakes1 aL aM aN aO cF bF bG bH bI bJ Hl3 wl3→m_I_l5 aD aC aE aF aG aH kind1 i1 fakes1 aL aM aN aO cF bF bG bH bI bJ w0 Hl3 wl3 Kc2 (fun y'0 y'1 y'2 y'3 y'4 y'5 y'6 y'7 y'8 y'9 y'10 H' w'=>I3 y'0 y'1 y'2 y'3 y'4 y'5 y'6 y'7 y'8 y'9 y'10 H' w'∧mu3 y'0 y'1 y'2 y'3 y'4 y'5 y'6 y'7 y'8 y'9 y'10 w'<mu3 fakes1 aL aM aN aO cF bF bG bH bI bJ wl3) K
def m_I_j3 (aD aC:Int) (aE aF:Int) (aG:ByteArray) (aH:Sl) (kind1 i1:Int) (aI aJ aR:Int) (aK:ByteArray) (aS:Bool) (a1:Addr) (w0:World) (H:NP) (w:World) (Kc2:Int→Int→Int→Int→ByteArray→Bool→NP→WP) (K:Int→Int→Int→ByteArray→Bool→Bool→WP):Prop :=Br ((s_B kind1) || (kind1 == 6)) (∀H4 w13,Hst w0 H w H4 w13→∃bN bO bP bQ bR bS,Row w13 a1 (Ab bN bO bP bQ bR bS)∧∀p8 w23,New w13 (.cells #[(vi 1),(vi 0)] 3) p8 w23→Calls prog 92 #[(.agg #[(vi bN),(vi bO),(vi bP),(vu bQ),(vs bR),bS.v]),(Sl.mk (some p8) 2 2).v] w23 (fun e w24=>∃cG cH dG bZ cI dH,e=.returned (Aa cG cH dG bZ cI dH)∧Kept H4 w23 w24∧∀w25,Hst w0 H4 w24 H4 w25→∃cJ cK cL cM cN cO,Row w25 a1 (Ab cJ cK cL cM cN cO)∧∀p9 w26,New w25 (.cells #[(vi 1),(vi 1)] 3) p9 w26→Calls prog 92 #[(.agg #[(vi cJ),(vi cK),(vi cL),(vu cM),(vs cN),cO.v]),(Sl.mk (some p9) 2 2).v] w26 (fun e w27=>∃dI dJ dK dL cC dM,e=.returned (Aa dI dJ dK dL cC dM)∧Kept H4 w26 w27∧∀w28,Hst w0 H4 w27 H4 w28→m_I_j4 aD aC aE aF aG aH kind1 i1 aI aJ aR aK aS kind1 (cond (s_B kind1) aC 0) bZ cC false w0 H4 w28 Kc2 K))) (Br (kind1 == 7) (∀H4 w13,Hst w0 H w H4 w13→∀p10 w29,New w13 (.cells #[(vi 1)] 3) p10 w29→Calls prog 92 #[(.agg #[(vi aD),(vi aC),(vi aE),(vu aF),(vs aG),aH.v]),(Sl.mk (some p10) 1 1).v] w29 (fun e w30=>∃dN dO dP cD dQ dR,e=.returned (Aa dN dO dP cD dQ dR)∧Kept H4 w29 w30∧∀w31,Hst w0 H4 w30 H4 w31→m_I_j4 aD aC aE aF aG aH kind1 i1 aI aJ aR aK aS kind1 (cond (s_B kind1) aC 0) cD ⟨#[]⟩ false w0 H4 w31 Kc2 K)) (∀H4 w13,Hst w0 H w H4 w13→∀p11 w32,New w13 (.cells #[(vi 0),(vi 1)] 3) p11 w32→Calls prog 92 #[(.agg #[(vi aD),(vi aC),(vi aE),(vu aF),(vs aG),aH.v]),(Sl.mk (some p11) 2 2).v] w32 (fun e w33=>∃dS dT dU cE dV dW,e=.returned (Aa dS dT dU cE dV dW)∧Kept H4 w32 w33∧∀w34,Hst w0 H4 w33 H4 w34→m_I_j4 aD aC aE aF aG aH kind1 i1 aI aJ aR aK aS kind1 (cond (s_B kind1) aC 0) cE ⟨#[]⟩ false w0 H4 w34 Kc2 K)))
def m_I_l2 (aD aC:Int) (aE aF:Int) (aG:ByteArray) (aH:Sl) (p6:Addr) (kind1 i1:Int) (aI aJ aR:Int) (aK:ByteArray) (aS:Bool) (w0:World) (Hl2:NP) (wl2:World) (Kc1:Int→Int→Int→Int→ByteArray→Bool→NP→WP) (Kc2:Int→Int→Int→Int→ByteArray→Bool→NP→WP) (K:Int→Int→Int→ByteArray→Bool→Bool→WP):Prop :=Br (decide (i1<((Sl.mk (some p6) 3 3).len:Int))) (∃C2:WP,C2 wl2.drew∧∀w35,w35=wl2.drew→∃a2:Addr,At (Sl.mk (some p6) 3 3) i1 1 a2∧∃v1:Sl,(∀w',C2 w'→w'.cell? a2=some v1.v)∧(Calls prog 92 #[(.agg #[(vi aD),(vi aC),(vi aE),(vu aF),(vs aG),aH.v]),v1.v] w35 (fun e w36=>∃cR cS cT cU cV cW,e=.returned (Aa cR cS cT cU cV cW)∧Kept Hl2 w35 w36∧∀p12 w37,New w36 (.cells #[(vi 0),(vi 0),(vi 0),(vu 0),ve,Sl.nil.v] 28) p12 w37→C2 w37∧(∀j,j<6→zW w37 (p12.add j))∧¬ Hl2 p12.block∧∀w38,w38=storeRow w37 p12 (Ab cR cS cT cU cV cW)→m_I_j3 aD aC aE aF aG aH kind1 i1 aI aJ aR aK aS p12 w0 Hl2 w38 Kc2 K))∧(∀p13 w39,New w35 (.cells #[(vi 0),(vi 0),(vi 0),(vu 0),ve,Sl.nil.v] 28) p13 w39→C2 w39∧Calls prog 92 #[(.agg #[(vi aD),(vi aC),(vi aE),(vu aF),(vs aG),aH.v]),v1.v] w39 (fun e w40=>∃cX cY cZ dA dB dC,e=.returned (Aa cX cY cZ dA dB dC)∧Kept Hl2 w39 w40∧(∀j,j<6→zW w40 (p13.add j))∧¬ Hl2 p13.block∧∀w41,w41=storeRow w40 p13 (Ab cX cY cZ dA dB dC)→m_I_j3 aD aC aE aF aG aH kind1 i1 aI aJ aR aK aS p13 w0 Hl2 w41 Kc2 K))) (Kc1 (q6.wrap (kind1+1)) aI aJ aR aK aS Hl2 wl2)
def m_I_l1 (aD aC:Int) (aE aF:Int) (aG:ByteArray) (aH:Sl) (p6:Addr) (kind1 aV:Int) (aW cA:Int) (aX:ByteArray) (cB:Bool) (w0:World) (Hl1:NP) (wl1:World) (Kc1:Int→Int→Int→Int→ByteArray→Bool→NP→WP) (K:Int→Int→Int→ByteArray→Bool→Bool→WP):Prop :=Br (decide (kind1≤7)) (∃(I2:Int→Int→Int→Int→ByteArray→Bool→NP→WP) (mu2:Int→Int→Int→Int→ByteArray→Bool→World→Nat),I2 0 aV aW cA aX cB Hl1 wl1∧∀(i1 aI:Int) (aJ aR:Int) (aK:ByteArray) (aS:Bool) (Hl2:NP) (wl2:World),Hst w0 Hl2 wl2 Hl2 wl2→I2 i1 aI aJ aR aK aS Hl2 wl2→m_I_l2 aD aC aE aF aG aH p6 kind1 i1 aI aJ aR aK aS w0 Hl2 wl2 Kc1 (fun y'0 y'1 y'2 y'3 y'4 y'5 H' w'=>I2 y'0 y'1 y'2 y'3 y'4 y'5 H' w'∧mu2 y'0 y'1 y'2 y'3 y'4 y'5 w'<mu2 i1 aI aJ aR aK aS wl2) K) (∀w42,Hst w0 Hl1 wl1 Hl1 w42→K 0 0 0 ⟨#[]⟩ false false w42)
def m_I (aD aC:Int) (aE aF:Int) (aG:ByteArray) (aH:Sl) (w0:World) (K:Int→Int→Int→ByteArray→Bool→Bool→WP):Prop :=∀H2 w2,Hst w0 None w0 H2 w2→∀p3 w3,New w2 (.cells #[(vi 0)] 3) p3 w3→∀p4 w4,New w3 (.cells #[(vi 0),(vi 1),(vi 0),(vi 0)] 3) p4 w4→∀p5 w5,New w4 (.cells #[(vi 0),(vi 1)] 3) p5 w5→∀p6 w6,New w5 (.cells #[(Sl.mk (some p3) 1 1).v,(Sl.mk (some p4) 4 4).v,(Sl.mk (some p5) 2 2).v] 50) p6 w6→∃(I1:Int→Int→Int→Int→ByteArray→Bool→NP→WP) (mu1:Int→Int→Int→Int→ByteArray→Bool→World→Nat),I1 1 0 0 0 ⟨#[]⟩ false H2 w6∧∀(kind1 aV:Int) (aW cA:Int) (aX:ByteArray) (cB:Bool) (Hl1:NP) (wl1:World),Hst w0 Hl1 wl1 Hl1 wl1→I1 kind1 aV aW cA aX cB Hl1 wl1→m_I_l1 aD aC aE aF aG aH p6 kind1 aV aW cA aX cB w0 Hl1 wl1 (fun y'0 y'1 y'2 y'3 y'4 y'5 H' w'=>I1 y'0 y'1 y'2 y'3 y'4 y'5 H' w'∧mu1 y'0 y'1 y'2 y'3 y'4 y'5 w'<mu1 kind1 aV aW cA aX cB wl1) K
theorem w_I (aD aC aE aF aG aH w0 K) (h:m_I aD aC aE aF aG aH w0 K):
  Calls prog 90 #[(.agg #[(vi aD),(vi aC),(vi aE),(vu aF),(vs aG),aH.v])] w0 (fun e w'=>∃dX dY aY dZ aZ r4,e=.returned (.tuple #[(Af dX dY aY dZ aZ),(vb r4)])∧K dX dY aY dZ aZ r4 w'):=by
 refine cw (args:=[(Aa aD aC aE aF aG aH)]) func90 ntmps90 ?_
 obtain ⟨hs,hb⟩:=st0 w0
 refine eg (nw3 (Ab aD aC aE aF aG aH) 28 hs hb xb fun p1 w1 H1 hs hb=>nw3 (Ag 0 0 0 false) 56 hs hb (zH (zeroValue56 _) rfl) fun p2 w2 H2 hs hb=>q (ln (eg ?_)))
 have ⟨h,hs⟩:=hs.hr (h H2 w2)
 refine nw5 (fun p=>(Sl.mk (some p) 1 1).v) hs hb h fun p3 w3 hs hb h=>nw5 (fun p=>(Sl.mk (some p) 4 4).v) hs hb h fun p4 w4 hs hb h=>nw5 (fun p=>(Sl.mk (some p) 2 2).v) hs hb h fun p5 w5 hs hb h=>nw5 (fun p=>(Sl.mk (some p) 3 3).v) hs hb h fun p6 w6 hs hb h=>q (ln (zA (eg (q (ln (zL ?_))))))
 obtain ⟨I1,mu1,h0,hr⟩:=h
 refine vR (σ:=Int×Int×Int×Int×ByteArray×Bool×NP×World) (fun s ρ w=>w=s.2.2.2.2.2.2.2∧Has ρ [(1,(vp (some p1))),(2,(vp (some p2))),(4,(Sl.mk (some p6) 3 3).v),(5,(vi s.1))]∧Hst w0 s.2.2.2.2.2.2.1 w s.2.2.2.2.2.2.1 w∧HB s.2.2.2.2.2.2.1 w [(p2,(Ac (s.2.1) (s.2.2.1) (s.2.2.2.1) (s.2.2.2.2.1) (s.2.2.2.2.2.1)),56),(p1,(Ab aD aC aE aF aG aH),28)]∧I1 s.1 s.2.1 s.2.2.1 s.2.2.2.1 s.2.2.2.2.1 s.2.2.2.2.2.1 s.2.2.2.2.2.2.1 s.2.2.2.2.2.2.2) (fun s=>mu1 s.1 s.2.1 s.2.2.1 s.2.2.2.1 s.2.2.2.2.1 s.2.2.2.2.2.1 s.2.2.2.2.2.2.2) (1,0,0,0,⟨#[]⟩,false,H2,w6) ⟨rfl,hm,hs,hb,h0⟩ ?_
 rintro ⟨kind1,aV,aW,cA,aX,cB,Hl1,wl1⟩ ρ w ⟨hw,hH,hs,hb,hI⟩
 dsimp only at hw hH hs hb;subst w
 have h:=hr kind1 aV aW cA aX cB Hl1 wl1 hs hI
 refine zR hH (zA (eg (qb (ln (cbr h ?_ ?_)))))<;>intro h
 refine zD (zN (zA (zL (eg (q (ln (zL ?_)))))))
 obtain ⟨I2,mu2,h0,hr⟩:=h
 refine vR (σ:=Int×Int×Int×Int×ByteArray×Bool×NP×World) (fun s ρ w=>w=s.2.2.2.2.2.2.2∧Has ρ [(1,(vp (some p1))),(2,(vp (some p2))),(4,(Sl.mk (some p6) 3 3).v),(5,(vi kind1)),(6,(vi s.1))]∧Hst w0 s.2.2.2.2.2.2.1 w s.2.2.2.2.2.2.1 w∧HB s.2.2.2.2.2.2.1 w [(p2,(Ac (s.2.1) (s.2.2.1) (s.2.2.2.1) (s.2.2.2.2.1) (s.2.2.2.2.2.1)),56),(p1,(Ab aD aC aE aF aG aH),28)]∧I2 s.1 s.2.1 s.2.2.1 s.2.2.2.1 s.2.2.2.2.1 s.2.2.2.2.2.1 s.2.2.2.2.2.2.1 s.2.2.2.2.2.2.2) (fun s=>mu2 s.1 s.2.1 s.2.2.1 s.2.2.2.1 s.2.2.2.2.1 s.2.2.2.2.2.1 s.2.2.2.2.2.2.2) (0,aV,aW,cA,aX,cB,Hl1,wl1) ⟨rfl,hm,hs,hb,h0⟩ ?_
 rintro ⟨i1,aI,aJ,aR,aK,aS,Hl2,wl2⟩ ρ w ⟨hw,hH,hs,hb,hI⟩
 dsimp only at hw hH hs hb;subst w
 have h:=hr i1 aI aJ aR aK aS Hl2 wl2 hs hI
 refine zR hH (zA (eg (qd (ln (cbr h ?_ ?_)))))<;>intro h
 refine zD (zN (zA (zL (zA (vD (fun ρ w=>∃a1:Addr,∃H:NP,Has ρ [(1,(vp (some p1))),(2,(vp (some p2))),(4,(Sl.mk (some p6) 3 3).v),(5,(vi kind1)),(6,(vi i1)),(7,(vp (some a1)))]∧Hst w0 H w H w∧HB H w [(p2,(Ac aI aJ aR aK aS),56),(p1,(Ab aD aC aE aF aG aH),28)]∧m_I_j3 aD aC aE aF aG aH kind1 i1 aI aJ aR aK aS a1 w0 H w (fun y'0 y'1 y'2 y'3 y'4 y'5 H' w'=>I2 y'0 y'1 y'2 y'3 y'4 y'5 H' w'∧mu2 y'0 y'1 y'2 y'3 y'4 y'5 w'<mu2 i1 aI aJ aR aK aS wl2) K) ?_ ?_)))))
 rintro ρ w ⟨a1,H,hH,hs,hb,h⟩
 refine zR hH (eg (qb (nw3 (Ag 0 0 0 false) 56 hs hb (zH (zeroValue56 _) rfl) fun p7 w7 H3 hs hb=>sbx 0 (Ag kind1 0 0 false) (sizeOf56 _) hs hb gZ fun w8 hs hb=>ln (zA (eg (q (sc call74 ((p_B kind1 w8).mono ?_))))))))
 rintro e w9 ⟨he,hE⟩
 refine ⟨_,he,?_⟩
 obtain ⟨hs,hb⟩:=hs.pp hb hE
 refine ln (vO (fun ρ wJ=>∃b1'0:Bool,∃HJ:NP,((s_B kind1)=b1'0)∧Hst w0 H w HJ wJ∧HB HJ wJ [(p7,(Ag kind1 (cond b1'0 aC 0) 0 false),56),(p2,(Ac aI aJ aR aK aS),56),(p1,(Ab aD aC aE aF aG aH),28)]∧Has ρ [(1,(vp (some p1))),(2,(vp (some p2))),(4,(Sl.mk (some p6) 3 3).v),(5,(vi kind1)),(6,(vi i1)),(7,(vp (some a1))),(8,(vp (some p7)))]) ?_ ?_)
 refine vJ (t:=(s_B kind1)) (by kernel_rfl) (fun hc4=>?_) (fun hc4=>?_)
 refine rg (q (q3 (xl (isAgg3 _) (hb.d 2 1 (gS (gS gZ)))) (q (vW (zJ rfl) (yP (a:=(p7.add 1)) (v:=(vi aC)) (by kernel_rfl) (by kernel_rfl) rfl (sizeOf3 _) (hb.canW 0 1 gZ (by kernel_rfl))) ?_))))
 intro w12 hn6
 have hsb:Hst w0 H w H3 w12∧HB H3 w12 [(p7,(Ag kind1 aC 0 false),56),(p2,(Ac aI aJ aR aK aS),56),(p1,(Ab aD aC aE aF aG aH),28)]:=by
  rw [hn6];exact hb.set (i:=0) 1 (v:=(vi aC)) hs gZ (by kernel_rfl)
 obtain ⟨hs,hb⟩:=hsb
 refine ln ⟨true,_,hc4,hs,hb,hm⟩
 refine zD (zN ⟨false,_,hc4,hs,hb,hm⟩)
 rintro ρ w11 ⟨b1'0,H4,he0,hs,hb,hH⟩
 subst he0
 refine vC hH (zN (zA (eg (q (sc call75 ((p_Z1 kind1 w11).mono ?_))))))
 rintro e w13 ⟨he,hE⟩
 refine ⟨_,he,?_⟩
 obtain ⟨hs,hb⟩:=hs.pp hb hE
 refine ln (vD (fun ρ w=>∃aA aB aU aP aQ,∃H:NP,Has ρ [(1,(vp (some p1))),(2,(vp (some p2))),(4,(Sl.mk (some p6) 3 3).v),(5,(vi kind1)),(6,(vi i1)),(8,(vp (some p7)))]∧Hst w0 H w H w∧HB H w [(p7,(Ac aA aB aU aP aQ),56),(p2,(Ac aI aJ aR aK aS),56),(p1,(Ab aD aC aE aF aG aH),28)]∧m_I_j4 aD aC aE aF aG aH kind1 i1 aI aJ aR aK aS aA aB aU aP aQ w0 H w (fun y'0 y'1 y'2 y'3 y'4 y'5 H' w'=>I2 y'0 y'1 y'2 y'3 y'4 y'5 H' w'∧mu2 y'0 y'1 y'2 y'3 y'4 y'5 w'<mu2 i1 aI aJ aR aK aS wl2) K) ?_ ?_)
 rintro ρ w ⟨aA,aB,aU,aP,aQ,H,hH,hs,hb,h⟩
 refine zR hH (eg (q (ln (zL ?_))))
 obtain ⟨I3,mu3,h0,hr⟩:=h
 refine vR (σ:=Int×Int×Int×Int×ByteArray×Bool×Int×Int×Int×ByteArray×Bool×NP×World) (fun s ρ w=>w=s.2.2.2.2.2.2.2.2.2.2.2.2∧Has ρ [(1,(vp (some p1))),(2,(vp (some p2))),(4,(Sl.mk (some p6) 3 3).v),(5,(vi kind1)),(6,(vi i1)),(8,(vp (some p7))),(9,(vi s.1))]∧Hst w0 s.2.2.2.2.2.2.2.2.2.2.2.1 w s.2.2.2.2.2.2.2.2.2.2.2.1 w∧HB s.2.2.2.2.2.2.2.2.2.2.2.1 w [(p7,(Ac (s.2.1) (s.2.2.1) (s.2.2.2.1) (s.2.2.2.2.1) (s.2.2.2.2.2.1)),56),(p2,(Ac (s.2.2.2.2.2.2.1) (s.2.2.2.2.2.2.2.1) (s.2.2.2.2.2.2.2.2.1) (s.2.2.2.2.2.2.2.2.2.1) (s.2.2.2.2.2.2.2.2.2.2.1)),56),(p1,(Ab aD aC aE aF aG aH),28)]∧I3 s.1 s.2.1 s.2.2.1 s.2.2.2.1 s.2.2.2.2.1 s.2.2.2.2.2.1 s.2.2.2.2.2.2.1 s.2.2.2.2.2.2.2.1 s.2.2.2.2.2.2.2.2.1 s.2.2.2.2.2.2.2.2.2.1 s.2.2.2.2.2.2.2.2.2.2.1 s.2.2.2.2.2.2.2.2.2.2.2.1 s.2.2.2.2.2.2.2.2.2.2.2.2) (fun s=>mu3 s.1 s.2.1 s.2.2.1 s.2.2.2.1 s.2.2.2.2.1 s.2.2.2.2.2.1 s.2.2.2.2.2.2.1 s.2.2.2.2.2.2.2.1 s.2.2.2.2.2.2.2.2.1 s.2.2.2.2.2.2.2.2.2.1 s.2.2.2.2.2.2.2.2.2.2.1 s.2.2.2.2.2.2.2.2.2.2.2.2) (0,aA,aB,aU,aP,aQ,aI,aJ,aR,aK,aS,H,w) ⟨rfl,hm,hs,hb,h0⟩ ?_
 rintro ⟨fakes1,aL,aM,aN,aO,cF,bF,bG,bH,bI,bJ,Hl3,wl3⟩ ρ w ⟨hw,hH,hs,hb,hI⟩
 dsimp only at hw hH hs hb;subst w
 have h:=hr fakes1 aL aM aN aO cF bF bG bH bI bJ Hl3 wl3 hs hI
 refine zR hH (zA (eg (qb (ln (cbr h ?_ ?_)))))<;>intro h
 refine zD (zN (zA (zL (eg (qc (vW (zJ rfl) (yP (a:=(p7.add 4)) (v:=(vb (decide (fakes1>0)))) (by kernel_rfl) (by kernel_rfl) rfl (sizeOf4 _) (hb.canW 0 4 gZ (by kernel_rfl))) ?_))))))
 intro w14 hn7
 have hsb:Hst w0 Hl3 wl3 Hl3 w14∧HB Hl3 w14 [(p7,(Ac aL aM aN aO (decide (fakes1>0))),56),(p2,(Ac bF bG bH bI bJ),56),(p1,(Ab aD aC aE aF aG aH),28)]:=by
  rw [hn7];exact hb.set (i:=0) 4 (v:=(vb (decide (fakes1>0)))) hs gZ (by kernel_rfl)
 obtain ⟨hs,hb⟩:=hsb
 refine ln (zA ?_)
 have ⟨h,hs⟩:=hs.hr (h w14)
 obtain ⟨C1,hC,h⟩:=h
 refine dr2 (fun x=>C1 x∧HB Hl3 x _) [1,19,21] [] ⟨hC,hb.drew⟩ h hs hb fun w15 hs hb h=>?_
 have hs:=hs.here
 refine qz 0 (Af aL aM aN aO (decide (fakes1>0))) Kp0 (fun w' hw'=>(xa p7 (Ac aL aM aN aO (decide (fakes1>0))) (isAgg56 _) (sizeOf56 _) (hw'.2.r0 0 5 gZ))) (lg 1 (slc Kp1 call32 (h.mono ?_)))
 rintro e w16 ⟨r1,rfl,hC,hk,h⟩
 refine ⟨_,rfl,.inr ⟨hC,hb.kept hk⟩,?_⟩
 obtain ⟨hs,hb⟩:=hk.hh hs hb
 refine qx 2 (vb (r1 == 0)) Kp2 (qx 3 (vb (r1 == 0)) Kp3 (qg 4 ?_))
 obtain ⟨hg1,h⟩|⟨hg1,h⟩:=h.br
 refine sz (v:=(vi kind1)) Kp4 (wy 71 hg1) (fun _ _=>(by kernel_rfl)) (qw 5 (vb (kind1 == 4)) Kp5 (wy 71 hg1) (qw 6 (vb (kind1 == 4)) Kp6 (wy 71 hg1) (qg 7 ?_)))
 obtain ⟨hg2,h⟩|⟨hg2,h⟩:=h.br
 refine yH Kp7 (zO rfl (yD 74 hg2) rfl) (qn 8 Kp8 (zO rfl (yD 74 hg2) rfl) (qg 9 (sz (v:=(vb true)) Kp9 (wy 71 hg1) (fun _ _=>(xT hg2)) (qz 10 (vb true) (zG (S8 (zB (zB zF)))) (fun _ _=>(xT hg1)) (qx 11 (vb true) (zG (S8 (zB (zB (zB zF))))) (qg 12 (sz (v:=(Af aL aM aN aO (decide (fakes1>0)))) (zG (S8 (S4 zF))) (jCV rfl (yD (c:=true) 79 rfl)) (fun w' hw'=>(xa p7 (Ac aL aM aN aO (decide (fakes1>0))) (isAgg56 _) (sizeOf56 _) (hw'.2.r0 0 5 gZ))) (qw 13 (vi fakes1) (zG (S8 (S4 (zB zF)))) (jCV rfl (yD (c:=true) 79 rfl)) (qg 14 ?_)))))))))
 obtain ⟨z1,hv2,h⟩:=h
 refine sz (v:=(vi z1)) (zG (S8 (S4 (zB (zB zF))))) (jCV rfl (yD (c:=true) 79 rfl)) (fun w' hw'=>(xG (by kernel_rfl) (by kernel_rfl) (by kernel_rfl) (hv2 w' hw'.1))) (qw 15 (vb (z1 == 1)) (zG (S8 (S4 (zB (zB (zB zF)))))) (jCV rfl (yD (c:=true) 79 rfl)) (qw 16 (vi fakes1) (zG (S8 (S8 zF))) (jCV rfl (yD (c:=true) 79 rfl)) (qg 17 ?_)))
 obtain ⟨z2,hv1,h⟩:=h
 refine sz (v:=(vi z2)) (zG (S8 (S8 (zB zF)))) (jCV rfl (yD (c:=true) 79 rfl)) (fun w' hw'=>(xG (by kernel_rfl) (by kernel_rfl) (by kernel_rfl) (hv1 w' hw'.1))) (qw 18 (vb (z2 == 1)) (zG (S8 (S8 (zB (zB zF))))) (jCV rfl (yD (c:=true) 79 rfl)) (qg 20 (sz (v:=(Aa aD aC aE aF aG aH)) (zG (S8 (S8 (S4 zF)))) (jCV rfl (yD (c:=true) 79 rfl)) (fun w' hw'=>(xa p1 (Ab aD aC aE aF aG aH) (isAgg28 _) (sizeOf28 _) (hw'.2.r0 2 6 (gS (gS gZ))))) (lg 19 (jBA (zG (S8 (S8 (zB (zB (zB zF)))))) (jCV rfl (yD (c:=true) 79 rfl)) (by kernel_rfl) (xc call71) (h.mono ?_))))))
 rintro e w17 ⟨bC,bD,bW,bX,bE,bY,rfl,hC,hk,h⟩
 refine ⟨_,rfl,.inr ⟨hC,hb.kept hk⟩,?_⟩
 obtain ⟨hs,hb⟩:=hk.hh hs hb
 refine lg 21 (jBA (zG (S8 (S8 (S4 (zB zF))))) (jCV rfl (yD (c:=true) 79 rfl)) (by kernel_rfl) (xc call37) (h.mono ?_))
 rintro e w18 ⟨r2,rfl,hC,hk,h⟩
 refine ⟨_,rfl,.inr ⟨hC,hb.kept hk⟩,?_⟩
 obtain ⟨hs,hb⟩:=hk.hh hs hb
 refine qx 22 (vb r2) (zG (S8 (S8 (S4 (zB (zB zF)))))) (wn (zN (cbr h ?_ ?_)))<;>intro h
 refine eg (q2 (Af aL aM aN aO (decide (fakes1>0))) (xa p7 (Ac aL aM aN aO (decide (fakes1>0))) (isAgg56 _) (sizeOf56 _) (hb.r0 0 5 gZ)) (vW (zJ rfl) (xo p2 (Ac aL aM aN aO (decide (fakes1>0))) (sizeOf56 _) (hb.k0 1 5 (gS gZ))) ?_))
 intro w19 hn8
 obtain ⟨hs,hb⟩:=hb.st1 1 hs hn8 (gS gZ)
 refine q (ln (er (qU (vA (vA (qU (qU (vA (vA (qU (qU (vA (vA (qU (vA ?_)))))))))))))))
 have ⟨h,hs⟩:=hs.hr (h w19)
 refine jAT (.inl rfl) (vs:=[(Af aL aM aN aO (decide (fakes1>0))),(vb true)]) (v:=(.tuple #[(Af aL aM aN aO (decide (fakes1>0))),(vb true)])) results90 ⟨(rva (isAgg56 _) (sizeOf56 _) (hb.r0 1 5 (gS gZ))),(rvT (by kernel_rfl)),trivial⟩ (by kernel_rfl) ⟨aL,aM,aN,aO,(decide (fakes1>0)),true,rfl,h⟩
 refine zD (tG (zN (rg (qc (ln ⟨((q6.wrap (fakes1+1)),aL,aM,aN,aO,(decide (fakes1>0)),bF,bG,bH,bI,bJ,Hl3,w18),⟨rfl,hm,hs,hb,h.1⟩,h.2⟩)))))
 refine sz (v:=(vi fakes1)) Kp7 (wy 74 hg2) (fun _ _=>(by kernel_rfl)) (qw 8 (vb (fakes1 != 2)) Kp8 (wy 74 hg2) (qg 9 (sz (v:=(vb (fakes1 != 2))) Kp9 (wy 71 hg1) (fun _ _=>(xF hg2)) (qz 10 (vb (fakes1 != 2)) (zG (S8 (zB (zB zF)))) (fun _ _=>(xT hg1)) (qx 11 (vb (fakes1 != 2)) (zG (S8 (zB (zB (zB zF))))) (qg 12 ?_))))))
 obtain ⟨hg3,h⟩|⟨hg3,h⟩:=h.br
 refine sz (v:=(Af aL aM aN aO (decide (fakes1>0)))) (zG (S8 (S4 zF))) (wy 79 hg3) (fun w' hw'=>(xa p7 (Ac aL aM aN aO (decide (fakes1>0))) (isAgg56 _) (sizeOf56 _) (hw'.2.r0 0 5 gZ))) (qw 13 (vi fakes1) (zG (S8 (S4 (zB zF)))) (wy 79 hg3) (qg 14 ?_))
 obtain ⟨z3,hv4,h⟩:=h
 refine sz (v:=(vi z3)) (zG (S8 (S4 (zB (zB zF))))) (wy 79 hg3) (fun w' hw'=>(xG (by kernel_rfl) (by kernel_rfl) (by kernel_rfl) (hv4 w' hw'.1))) (qw 15 (vb (z3 == 1)) (zG (S8 (S4 (zB (zB (zB zF)))))) (wy 79 hg3) (qw 16 (vi fakes1) (zG (S8 (S8 zF))) (wy 79 hg3) (qg 17 ?_)))
 obtain ⟨z4,hv3,h⟩:=h
 refine sz (v:=(vi z4)) (zG (S8 (S8 (zB zF)))) (wy 79 hg3) (fun w' hw'=>(xG (by kernel_rfl) (by kernel_rfl) (by kernel_rfl) (hv3 w' hw'.1))) (qw 18 (vb (z4 == 1)) (zG (S8 (S8 (zB (zB zF))))) (wy 79 hg3) (qg 20 (sz (v:=(Aa aD aC aE aF aG aH)) (zG (S8 (S8 (S4 zF)))) (wy 79 hg3) (fun w' hw'=>(xa p1 (Ab aD aC aE aF aG aH) (isAgg28 _) (sizeOf28 _) (hw'.2.r0 2 6 (gS (gS gZ))))) (lg 19 (jBA (zG (S8 (S8 (zB (zB (zB zF)))))) (wy 79 hg3) (by kernel_rfl) (xc call71) (h.mono ?_))))))
 rintro e w20 ⟨bK,bL,dD,dE,bM,dF,rfl,hC,hk,h⟩
 refine ⟨_,rfl,.inr ⟨hC,hb.kept hk⟩,?_⟩
 obtain ⟨hs,hb⟩:=hk.hh hs hb
 refine lg 21 (jBA (zG (S8 (S8 (S4 (zB zF))))) (wy 79 hg3) (by kernel_rfl) (xc call37) (h.mono ?_))
 rintro e w21 ⟨r3,rfl,hC,hk,h⟩
 refine ⟨_,rfl,.inr ⟨hC,hb.kept hk⟩,?_⟩
 obtain ⟨hs,hb⟩:=hk.hh hs hb
 refine qz 22 (vb r3) (zG (S8 (S8 (S4 (zB (zB zF)))))) (fun _ _=>(xT hg3)) (wn (zN (cbr h ?_ ?_)))<;>intro h
 refine eg (q2 (Af aL aM aN aO (decide (fakes1>0))) (xa p7 (Ac aL aM aN aO (decide (fakes1>0))) (isAgg56 _) (sizeOf56 _) (hb.r0 0 5 gZ)) (vW (zJ rfl) (xo p2 (Ac aL aM aN aO (decide (fakes1>0))) (sizeOf56 _) (hb.k0 1 5 (gS gZ))) ?_))
 intro w22 hn9
 obtain ⟨hs,hb⟩:=hb.st1 1 hs hn9 (gS gZ)
 refine q (ln (er (qU (vA (vA (qU (qU (vA (vA (qU (qU (vA (vA (qU (vA ?_)))))))))))))))
 have ⟨h,hs⟩:=hs.hr (h w22)
 refine jAT (.inl rfl) (vs:=[(Af aL aM aN aO (decide (fakes1>0))),(vb true)]) (v:=(.tuple #[(Af aL aM aN aO (decide (fakes1>0))),(vb true)])) results90 ⟨(rva (isAgg56 _) (sizeOf56 _) (hb.r0 1 5 (gS gZ))),(rvT (by kernel_rfl)),trivial⟩ (by kernel_rfl) ⟨aL,aM,aN,aO,(decide (fakes1>0)),true,rfl,h⟩
 refine zD (tG (zN (rg (qc (ln ⟨((q6.wrap (fakes1+1)),aL,aM,aN,aO,(decide (fakes1>0)),bF,bG,bH,bI,bJ,Hl3,w21),⟨rfl,hm,hs,hb,h.1⟩,h.2⟩)))))
 refine yH (zG (S8 (S4 zF))) (zO rfl (yD 79 hg3) rfl) (qn 13 (zG (S8 (S4 (zB zF)))) (zO rfl (yD 79 hg3) rfl) (qn 14 (zG (S8 (S4 (zB (zB zF))))) (zO rfl (yD 79 hg3) rfl) (qn 15 (zG (S8 (S4 (zB (zB (zB zF)))))) (zO rfl (yD 79 hg3) rfl) (qn 16 (zG (S8 (S8 zF))) (zO rfl (yD 79 hg3) rfl) (qn 17 (zG (S8 (S8 (zB zF)))) (zO rfl (yD 79 hg3) rfl) (qn 18 (zG (S8 (S8 (zB (zB zF))))) (zO rfl (yD 79 hg3) rfl) (qn 20 (zG (S8 (S8 (S4 zF)))) (zO rfl (yD 79 hg3) rfl) (lg 19 (yH (zG (S8 (S8 (zB (zB (zB zF)))))) (zO rfl (yD 79 hg3) rfl) (lg 21 (yH (zG (S8 (S8 (S4 (zB zF))))) (zO rfl (yD 79 hg3) rfl) (qz 22 (vb false) (zG (S8 (S8 (S4 (zB (zB zF)))))) (fun _ _=>(xF hg3)) (wn (zN (uA (by kernel_rfl) (zD (tG (zN (rg (q0 (vi fakes1) (q0 (vi (q6.wrap (fakes1+1))) (q0 (vi (q6.wrap (fakes1+1))) (zC (zN ⟨((q6.wrap (fakes1+1)),aL,aM,aN,aO,(decide (fakes1>0)),bF,bG,bH,bI,bJ,Hl3,w16),⟨rfl,hm,hs,hb,h.1⟩,h.2⟩))))))))))))))))))))))))
 refine yH Kp4 (zO rfl (yD 71 hg1) rfl) (qn 5 Kp5 (zO rfl (yD 71 hg1) rfl) (qn 6 Kp6 (zO rfl (yD 71 hg1) rfl) (qn 7 Kp7 (by kernel_rfl) (qn 8 Kp8 (by kernel_rfl) (qn 9 Kp9 (zO rfl (yD 71 hg1) rfl) (qz 10 (vb false) (zG (S8 (zB (zB zF)))) (fun _ _=>(xF hg1)) (qx 11 (vb false) (zG (S8 (zB (zB (zB zF))))) (qn 12 (zG (S8 (S4 zF))) (zO rfl (yD (c:=false) 79 rfl) rfl) (qn 13 (zG (S8 (S4 (zB zF)))) (zO rfl (yD (c:=false) 79 rfl) rfl) (qn 14 (zG (S8 (S4 (zB (zB zF))))) (zO rfl (yD (c:=false) 79 rfl) rfl) (qn 15 (zG (S8 (S4 (zB (zB (zB zF)))))) (zO rfl (yD (c:=false) 79 rfl) rfl) (qn 16 (zG (S8 (S8 zF))) (zO rfl (yD (c:=false) 79 rfl) rfl) (qn 17 (zG (S8 (S8 (zB zF)))) (zO rfl (yD (c:=false) 79 rfl) rfl) (qn 18 (zG (S8 (S8 (zB (zB zF))))) (zO rfl (yD (c:=false) 79 rfl) rfl) (qn 20 (zG (S8 (S8 (S4 zF)))) (zO rfl (yD (c:=false) 79 rfl) rfl) (lg 19 (yH (zG (S8 (S8 (zB (zB (zB zF)))))) (zO rfl (yD (c:=false) 79 rfl) rfl) (lg 21 (yH (zG (S8 (S8 (S4 (zB zF))))) (zO rfl (yD (c:=false) 79 rfl) rfl) (qx 22 (vb false) (zG (S8 (S8 (S4 (zB (zB zF)))))) (wn (zN (uA (by kernel_rfl) ?_)))))))))))))))))))))))
 refine zD (tG (zN (rg (qc (ln ⟨((q6.wrap (fakes1+1)),aL,aM,aN,aO,(decide (fakes1>0)),bF,bG,bH,bI,bJ,Hl3,w16),⟨rfl,hm,hs,hb,h.1⟩,h.2⟩)))))
 refine vN (xH (xH (xB (tG (zN (rg (q0 (vi i1) (q0 (vi (q6.wrap (i1+1))) (q0 (vi (q6.wrap (i1+1))) (ln ⟨((q6.wrap (i1+1)),bF,bG,bH,bI,bJ,Hl3,wl3),⟨rfl,hm,hs,hb.drop 1,h.1⟩,h.2⟩))))))))))
 refine cbr h ?_ ?_<;>intro h
 refine eg ?_
 have ⟨h,hs⟩:=hs.hr (h H4 w13)
 obtain ⟨bN,bO,bP,bQ,bR,bS,hv6,h⟩:=h
 refine qa (isAgg28 _) (sizeOf28 _) hv6 (nw5 (fun p=>(Sl.mk (some p) 2 2).v) hs hb h fun p8 w23 hs hb h=>sc call92 (h.mono fun e w24 ⟨cG,cH,dG,bZ,cI,dH,k,hk,h⟩=>have ⟨hs,hb⟩:=hk.hh hs hb;⟨_,k,?_⟩))
 refine qb (vW (zJ rfl) (yP (a:=(p7.add 2)) (v:=(vu bZ)) (by kernel_rfl) (by kernel_rfl) rfl (sizeOf26 _) (hb.canW 0 2 gZ (by kernel_rfl))) ?_)
 intro w25 hn10
 have hsb:Hst w0 H4 w24 H4 w25∧HB H4 w25 [(p7,(Ag kind1 (cond (s_B kind1) aC 0) bZ false),56),(p2,(Ac aI aJ aR aK aS),56),(p1,(Ab aD aC aE aF aG aH),28)]:=by
  rw [hn10];exact hb.set (i:=0) 2 (v:=(vu bZ)) hs gZ (by kernel_rfl)
 obtain ⟨hs,hb⟩:=hsb
 refine ln (rg ?_)
 have ⟨h,hs⟩:=hs.hr (h w25)
 obtain ⟨cJ,cK,cL,cM,cN,cO,hv5,h⟩:=h
 refine qa (isAgg28 _) (sizeOf28 _) hv5 (nw5 (fun p=>(Sl.mk (some p) 2 2).v) hs hb h fun p9 w26 hs hb h=>sc call92 (h.mono fun e w27 ⟨dI,dJ,dK,dL,cC,dM,k,hk,h⟩=>have ⟨hs,hb⟩:=hk.hh hs hb;⟨_,k,?_⟩))
 refine qb (vW (zJ rfl) (yP (a:=(p7.add 3)) (v:=(vs cC)) (by kernel_rfl) (by kernel_rfl) rfl (sizeOf9 _) (hb.canW 0 3 gZ (by kernel_rfl))) ?_)
 intro w28 hn11
 have hsb:Hst w0 H4 w27 H4 w28∧HB H4 w28 [(p7,(Ac kind1 (cond (s_B kind1) aC 0) bZ cC false),56),(p2,(Ac aI aJ aR aK aS),56),(p1,(Ab aD aC aE aF aG aH),28)]:=by
  rw [hn11];exact hb.set (i:=0) 3 (v:=(vs cC)) hs gZ (by kernel_rfl)
 obtain ⟨hs,hb⟩:=hsb
 refine zC ?_
 have ⟨h,hs⟩:=hs.hr (h w28)
 refine zN ⟨kind1,(cond (s_B kind1) aC 0),bZ,cC,false,H4,hm,hs,hb,h⟩
 refine eg (qb (ln (cbr h ?_ ?_)))<;>intro h
 refine rg (q2 (Aa aD aC aE aF aG aH) (xa p1 (Ab aD aC aE aF aG aH) (isAgg28 _) (sizeOf28 _) (hb.r0 2 6 (gS (gS gZ)))) ?_)
 have ⟨h,hs⟩:=hs.hr (h H4 w13)
 refine nw5 (fun p=>(Sl.mk (some p) 1 1).v) hs hb h fun p10 w29 hs hb h=>sc call92 (h.mono fun e w30 ⟨dN,dO,dP,cD,dQ,dR,k,hk,h⟩=>have ⟨hs,hb⟩:=hk.hh hs hb;⟨_,k,?_⟩)
 refine qb (vW (zJ rfl) (yP (a:=(p7.add 2)) (v:=(vu cD)) (by kernel_rfl) (by kernel_rfl) rfl (sizeOf26 _) (hb.canW 0 2 gZ (by kernel_rfl))) ?_)
 intro w31 hn14
 have hsb:Hst w0 H4 w30 H4 w31∧HB H4 w31 [(p7,(Ag kind1 (cond (s_B kind1) aC 0) cD false),56),(p2,(Ac aI aJ aR aK aS),56),(p1,(Ab aD aC aE aF aG aH),28)]:=by
  rw [hn14];exact hb.set (i:=0) 2 (v:=(vu cD)) hs gZ (by kernel_rfl)
 obtain ⟨hs,hb⟩:=hsb
 refine zC ?_
 have ⟨h,hs⟩:=hs.hr (h w31)
 refine zN ⟨kind1,(cond (s_B kind1) aC 0),cD,⟨#[]⟩,false,H4,hm,hs,hb,h⟩
 refine rg (q2 (Aa aD aC aE aF aG aH) (xa p1 (Ab aD aC aE aF aG aH) (isAgg28 _) (sizeOf28 _) (hb.r0 2 6 (gS (gS gZ)))) ?_)
 have ⟨h,hs⟩:=hs.hr (h H4 w13)
 refine nw5 (fun p=>(Sl.mk (some p) 2 2).v) hs hb h fun p11 w32 hs hb h=>sc call92 (h.mono fun e w33 ⟨dS,dT,dU,cE,dV,dW,k,hk,h⟩=>have ⟨hs,hb⟩:=hk.hh hs hb;⟨_,k,?_⟩)
 refine qb (vW (zJ rfl) (yP (a:=(p7.add 2)) (v:=(vu cE)) (by kernel_rfl) (by kernel_rfl) rfl (sizeOf26 _) (hb.canW 0 2 gZ (by kernel_rfl))) ?_)
 intro w34 hn16
 have hsb:Hst w0 H4 w33 H4 w34∧HB H4 w34 [(p7,(Ag kind1 (cond (s_B kind1) aC 0) cE false),56),(p2,(Ac aI aJ aR aK aS),56),(p1,(Ab aD aC aE aF aG aH),28)]:=by
  rw [hn16];exact hb.set (i:=0) 2 (v:=(vu cE)) hs gZ (by kernel_rfl)
 obtain ⟨hs,hb⟩:=hsb
 refine zC ?_
 have ⟨h,hs⟩:=hs.hr (h w34)
 refine zN ⟨kind1,(cond (s_B kind1) aC 0),cE,⟨#[]⟩,false,H4,hm,hs,hb,h⟩
 obtain ⟨C2,hC,h⟩:=h
 refine dr2 (fun x=>C2 x∧HB Hl2 x _) [5,6,7] [5,7] ⟨hC,hb.drew⟩ h hs hb fun w35 hs hb h=>?_
 have hs:=hs.here
 refine qz 0 (Aa aD aC aE aF aG aH) Kp0 (fun w' hw'=>(xa p1 (Ab aD aC aE aF aG aH) (isAgg28 _) (sizeOf28 _) (hw'.2.r0 1 6 (gS gZ)))) (qx 1 ((Sl.mk (some p6) 3 3).v) Kp1 (qx 2 (vi i1) Kp2 (qg 3 ?_)))
 obtain ⟨a2,hv8,h⟩:=h
 refine sy Kp3 (fun _ _=>xi (runUnderlying199 _) (sizeOf50 _) hv8) (qg 4 ?_)
 obtain ⟨v1,hv7,h⟩:=h
 refine sy Kp4 (fun _ k=>xl (isAgg50 _) (hv7 _ k.1)) (jRP (k:=5) (k':=6) (by kernel_rfl) ?_ ?_)
 have h:=h.1
 refine slc Kp5 call92 (h.mono ?_)
 rintro e w36 ⟨cR,cS,cT,cU,cV,cW,rfl,hk,h⟩
 refine ⟨_,rfl,.inl (by kernel_rfl),?_⟩
 obtain ⟨hs,hb⟩:=hk.hh hs hb
 refine lg 6 (qH (O:=(.cells #[(vi 0),(vi 0),(vi 0),(vu 0),ve,Sl.nil.v] 28)) (fun p=>.pointer (some p)) Kp6 (zJ rfl) (by kernel_rfl) (zH (zeroValue28 _) rfl) ?_)
 intro p12 w37 hn19
 have h:=h p12 w37 hn19
 refine ⟨.inr ⟨h.1,hb.kept (Ext.new (F:=None) hn19).keptP⟩,?_⟩
 have h:=h.2
 obtain ⟨hs,hb⟩:=hs.nw hb hn19
 refine lg 7 ?_
 obtain ⟨hp1,hnh,h⟩:=h
 refine xJ Kp7 (zJ rfl) (by kernel_rfl) (xo p12 (Ab cR cS cT cU cV cW) (sizeOf28 _) hp1) ?_
 intro w38 hn18
 have h:=h w38 hn18
 refine ⟨.inl (by kernel_rfl),?_⟩
 have hk:Kept Hl2 w37 w38:=by rw [hn18];exact Kept.storeRow hnh
 obtain ⟨hs,hb⟩:=hk.hh hs hb
 refine wn (zN ⟨p12,Hl2,hm,hs,hb,h⟩)
 have h:=h.2
 refine qH (O:=(.cells #[(vi 0),(vi 0),(vi 0),(vu 0),ve,Sl.nil.v] 28)) (fun p=>.pointer (some p)) Kp6 (zJ rfl) (by kernel_rfl) (zH (zeroValue28 _) rfl) ?_
 intro p13 w39 hn21
 have h:=h p13 w39 hn21
 refine ⟨.inr ⟨h.1,hb.kept (Ext.new (F:=None) hn21).keptP⟩,?_⟩
 have h:=h.2
 obtain ⟨hs,hb⟩:=hs.nw hb hn21
 refine lg 5 (slc Kp5 call92 (h.mono ?_))
 rintro e w40 ⟨cX,cY,cZ,dA,dB,dC,rfl,hk,h⟩
 refine ⟨_,rfl,.inl (by kernel_rfl),?_⟩
 obtain ⟨hs,hb⟩:=hk.hh hs hb
 refine lg 7 ?_
 obtain ⟨hp2,hnh,h⟩:=h
 refine xJ Kp7 (zJ rfl) (by kernel_rfl) (xo p13 (Ab cX cY cZ dA dB dC) (sizeOf28 _) hp2) ?_
 intro w41 hn20
 have h:=h w41 hn20
 refine ⟨.inl (by kernel_rfl),?_⟩
 have hk:Kept Hl2 w40 w41:=by rw [hn20];exact Kept.storeRow hnh
 obtain ⟨hs,hb⟩:=hk.hh hs hb
 refine wn (zN ⟨p13,Hl2,hm,hs,hb,h⟩)
 refine vN (xH (xH (xB (tG (zN (rg (q0 (vi kind1) (q0 (vi (q6.wrap (kind1+1))) (q0 (vi (q6.wrap (kind1+1))) (ln ⟨((q6.wrap (kind1+1)),aI,aJ,aR,aK,aS,Hl2,wl2),⟨rfl,hm,hs,hb,h.1⟩,h.2⟩))))))))))
 refine vN (xH (xH (xB (zN (eg (q0 (Aj 0 0 0 false) (vW (zJ rfl) (xo p2 (Ag 0 0 0 false) (sizeOf56 _) (hb.k0 0 5 gZ)) ?_)))))))
 intro w42 hn22
 obtain ⟨hs,hb⟩:=hb.st1 0 hs hn22 gZ
 refine q (ln (er ?_))
 have ⟨h,hs⟩:=hs.hr (h w42)
 refine jAT (.inl rfl) (vs:=[(Aj 0 0 0 false),(vb false)]) (v:=(.tuple #[(Aj 0 0 0 false),(vb false)])) results90 ⟨(rva (isAgg56 _) (sizeOf56 _) (hb.r0 0 5 gZ)),(rvT (by kernel_rfl)),trivial⟩ (by kernel_rfl) ⟨0,0,0,⟨#[]⟩,false,false,rfl,h⟩
def m_A2 (p1:Option Addr) (t1:Int) (w0:World) (K:Int→Int→Int→ByteArray→Bool→Bool→WP):Prop :=∀H1 w1,Hst w0 None w0 H1 w1→Calls prog 19 #[(vp p1),(vi t1)] w1 (fun e w2=>∃r1,e=.returned (vb r1)∧Kept H1 w1 w2∧Br (!r1) (∀w3,Hst w0 H1 w2 H1 w3→K 0 0 0 ⟨#[]⟩ false false w3) (Calls prog 89 #[(vp p1),(vi t1)] w2 (fun e w4=>∃r2,e=.returned (vi r2)∧Kept H1 w2 w4∧Br (decide (r2>40)) (∀w5,Hst w0 H1 w4 H1 w5→K 0 0 0 ⟨#[]⟩ false false w5) (Calls prog 20 #[(vp p1),(vi t1)] w4 (fun e w6=>∃bC bD bW bX bE bY,e=.returned (Aa bC bD bW bX bE bY)∧Kept H1 w4 w6∧Calls prog 90 #[(.agg #[(vi bC),(vi bD),(vi bW),(vu bX),(vs bE),bY.v])] w6 (fun e w7=>∃bK bL aY bM aZ r3,e=.returned (.tuple #[(Af bK bL aY bM aZ),(vb r3)])∧Kept H1 w6 w7∧∀w8,Hst w0 H1 w7 H1 w8→K bK bL aY bM aZ r3 w8))))))
theorem w_A2 (p1 t1 w0 K) (h:m_A2 p1 t1 w0 K):
  Calls prog 41 #[(vp p1),(vi t1)] w0 (fun e w'=>∃cG cH cP cI cQ r4,e=.returned (.tuple #[(Af cG cH cP cI cQ),(vb r4)])∧K cG cH cP cI cQ r4 w'):=by
 refine cw (args:=[(vp p1),(vi t1)]) func41 ntmps41 ?_
 obtain ⟨hs,hb⟩:=st0 w0
 refine eg (nw3 (Ag 0 0 0 false) 56 hs hb (zH (zeroValue56 _) rfl) fun p2 w1 H1 hs hb=>q (ln (zA (eg (qb ?_)))))
 have ⟨h,hs⟩:=hs.hr (h H1 w1)
 refine sc call19 (h.mono fun e w2 ⟨r1,k,hk,h⟩=>have ⟨hs,hb⟩:=hk.hh hs hb;⟨_,k,?_⟩)
 refine qb ?_
 obtain ⟨hg1,h⟩|⟨hg1,h⟩:=h.br
 refine sj4 10 hg1 (q2 (vb true) (xT hg1) (ln (yC (by kernel_rfl) (eg (q0 (Aj 0 0 0 false) (vW (zJ rfl) (xo p2 (Ag 0 0 0 false) (sizeOf56 _) (hb.k0 0 5 gZ)) ?_))))))
 intro w3 hn2
 obtain ⟨hs,hb⟩:=hb.st1 0 hs hn2 gZ
 refine q (ln (er (vA ?_)))
 have ⟨h,hs⟩:=hs.hr (h w3)
 refine jAT (.inl rfl) (vs:=[(Aj 0 0 0 false),(vb false)]) (v:=(.tuple #[(Aj 0 0 0 false),(vb false)])) results41 ⟨(rva (isAgg56 _) (sizeOf56 _) (hb.r0 0 5 gZ)),(rvT (by kernel_rfl)),trivial⟩ (by kernel_rfl) ⟨0,0,0,⟨#[]⟩,false,false,rfl,h⟩
 refine qk 10 hg1 (qk 10 hg1 (vX (wy 10 hg1) (xc call89) (h.mono ?_)))
 rintro e w4 ⟨r2,rfl,hk,h⟩
 refine ⟨_,rfl,?_⟩
 obtain ⟨hs,hb⟩:=hk.hh hs hb
 refine qk 10 hg1 (q2 (vb (decide (r2>40))) (xF hg1) (ln (cbr h ?_ ?_)))<;>intro h
 refine eg (q (vW (zJ rfl) (xo p2 (Ag 0 0 0 false) (sizeOf56 _) (hb.k0 0 5 gZ)) ?_))
 intro w5 hn3
 obtain ⟨hs,hb⟩:=hb.st1 0 hs hn3 gZ
 refine q (ln (er (vA ?_)))
 have ⟨h,hs⟩:=hs.hr (h w5)
 refine jAT (.inl rfl) (vs:=[(Aj 0 0 0 false),(vb false)]) (v:=(.tuple #[(Aj 0 0 0 false),(vb false)])) results41 ⟨(rva (isAgg56 _) (sizeOf56 _) (hb.r0 0 5 gZ)),(rvT (by kernel_rfl)),trivial⟩ (by kernel_rfl) ⟨0,0,0,⟨#[]⟩,false,false,rfl,h⟩
 refine zD (zN (eg (qb (sc call20 (h.mono fun e w6 ⟨bC,bD,bW,bX,bE,bY,k,hk,h⟩=>have ⟨hs,hb⟩:=hk.hh hs hb;⟨_,k,?_⟩)))))
 refine sc call90 (h.mono fun e w7 ⟨bK,bL,aY,bM,aZ,r3,k,hk,h⟩=>have ⟨hs,hb⟩:=hk.hh hs hb;⟨_,k,?_⟩)
 refine qb (vW (zJ rfl) (xo p2 (Ac bK bL aY bM aZ) (sizeOf56 _) (hb.k0 0 5 gZ)) ?_)
 intro w8 hn4
 obtain ⟨hs,hb⟩:=hb.st1 0 hs hn4 gZ
 refine q (ln (er ?_))
 have ⟨h,hs⟩:=hs.hr (h w8)
 refine jAT (.inl rfl) (vs:=[(Af bK bL aY bM aZ),(vb r3)]) (v:=(.tuple #[(Af bK bL aY bM aZ),(vb r3)])) results41 ⟨(rva (isAgg56 _) (sizeOf56 _) (hb.r0 0 5 gZ)),(rvT (by kernel_rfl)),trivial⟩ (by kernel_rfl) ⟨bK,bL,aY,bM,aZ,r3,rfl,h⟩
end Go.Proofs
end
section
open Go Go.SE
open Go.IntKind renaming i64 → q6
namespace Go.Proofs
open Tryz
set_option maxRecDepth 100000
set_option maxHeartbeats 4000000
attribute [local irreducible] wpL wpX opE wpE Calls
def m_Y_j1 (p1:Option Addr) (t1:Int) (x1:Bool) (w0:World) (H:NP) (w:World) (K:Int→ByteArray→Bool→WP):Prop :=Br x1 (K 0 ⟨#[]⟩ false w) (Calls prog 20 #[(vp p1),(vi t1)] w (fun e w1=>∃aF aG aH aI aJ aK,e=.returned (Aa aF aG aH aI aJ aK)∧Kept H w w1∧∀H1 w3,Hst w0 H w1 H1 w3→∀p3 w4,New w3 (.cells #[(vi 1),(vi 0)] 3) p3 w4→Calls prog 92 #[(.agg #[(vi aF),(vi aG),(vi aH),(vu aI),(vs aJ),aK.v]),(Sl.mk (some p3) 2 2).v] w4 (fun e w5=>∃aT aU aV aL aW aX,e=.returned (Aa aT aU aV aL aW aX)∧Kept H1 w4 w5∧∀p4 w6,New w5 (.cells #[(vi 1),(vi 1)] 3) p4 w6→Calls prog 92 #[(.agg #[(vi aF),(vi aG),(vi aH),(vu aI),(vs aJ),aK.v]),(Sl.mk (some p4) 2 2).v] w6 (fun e w7=>∃aY aZ bA bB aM bC,e=.returned (Aa aY aZ bA bB aM bC)∧Kept H1 w6 w7∧∃C1:WP,C1 w7.drew∧∀w8,w8=w7.drew→Calls prog 45 #[(vu aL),(vs aM)] w8 (fun e w9=>∃aN aO aP aQ aR aS,e=.returned (Aa aN aO aP aQ aR aS)∧C1 w9∧Kept H1 w8 w9∧Calls prog 37 #[(.agg #[(vi aN),(vi aO),(vi aP),(vu aQ),(vs aR),aS.v]),(.agg #[(vi aF),(vi aG),(vi aH),(vu aI),(vs aJ),aK.v])] w9 (fun e w10=>∃r1,e=.returned (vb r1)∧C1 w10∧Kept H1 w9 w10∧Br (!r1) (K 0 ⟨#[]⟩ false w10) (K aL aM true w10)))))))
def m_Y (p1:Option Addr) (t1:Int) (w0:World) (K:Int→ByteArray→Bool→WP):Prop :=Calls prog 19 #[(vp p1),(vi t1)] w0 (fun e w11=>∃r2,e=.returned (vb r2)∧Kept None w0 w11∧Br (!r2) (m_Y_j1 p1 t1 true w0 None w11 K) (Calls prog 89 #[(vp p1),(vi t1)] w11 (fun e w12=>∃r3,e=.returned (vi r3)∧Kept None w11 w12∧m_Y_j1 p1 t1 (decide (r3>40)) w0 None w12 K)))
theorem w_Y (p1 t1 w0 K) (h:m_Y p1 t1 w0 K):
  Calls prog 43 #[(vp p1),(vi t1)] w0 (fun e w'=>∃r4 r5 r6,e=.returned (.tuple #[(vu r4),(vs r5),(vb r6)])∧K r4 r5 r6 w'):=by
 refine cw (args:=[(vp p1),(vi t1)]) func43 ntmps43 ?_
 obtain ⟨hs,hb⟩:=st0 w0
 refine eg (qc (ln (zA (zA (vD (fun ρ w=>∃x1,∃H:NP,Has ρ [(0,(vp p1)),(1,(vi t1)),(19,(vb x1))]∧Hst w0 H w H w∧HB H w []∧m_Y_j1 p1 t1 x1 w0 H w K) ?_ ?_)))))
 rintro ρ w ⟨x1,H,hH,hs,hb,h⟩
 refine zR hH (cbr h ?_ ?_)<;>intro h
 refine eg (qc (ln (er (vA (jHY (.inl rfl) results43 (v:=(vu 0)) (by kernel_rfl) (v':=ve) (by kernel_rfl) (v'':=(vb false)) (by kernel_rfl) ⟨0,⟨#[]⟩,false,rfl,h⟩)))))
 refine zD (zN (eg (qb (sc call20 (h.mono fun e w1 ⟨aF,aG,aH,aI,aJ,aK,k,hk,h⟩=>have ⟨hs,hb⟩:=hk.hh hs hb;⟨_,k,?_⟩)))))
 refine nw3 [(vi 0),(vi 0),(vi 0),(vu 0),ve,Sl.nil.v] 28 hs hb (zH (zeroValue28 _) rfl) fun p2 w2 H1 hs hb=>sbx 0 (Ab aF aG aH aI aJ aK) (sizeOf28 _) hs hb gZ fun w3 hs hb=>ln (eg (q2 (Aa aF aG aH aI aJ aK) (xa p2 (Ab aF aG aH aI aJ aK) (isAgg28 _) (sizeOf28 _) (hb.r0 0 6 gZ)) ?_))
 have ⟨h,hs⟩:=hs.hr (h H1 w3)
 refine nw5 (fun p=>(Sl.mk (some p) 2 2).v) hs hb h fun p3 w4 hs hb h=>sc call92 (h.mono fun e w5 ⟨aT,aU,aV,aL,aW,aX,k,hk,h⟩=>have ⟨hs,hb⟩:=hk.hh hs hb;⟨_,k,?_⟩)
 refine qb (ln (eg (q2 (Aa aF aG aH aI aJ aK) (xa p2 (Ab aF aG aH aI aJ aK) (isAgg28 _) (sizeOf28 _) (hb.r0 0 6 gZ)) (nw5 (fun p=>(Sl.mk (some p) 2 2).v) hs hb h fun p4 w6 hs hb h=>sc call92 (h.mono fun e w7 ⟨aY,aZ,bA,bB,aM,bC,k,hk,h⟩=>have ⟨hs,hb⟩:=hk.hh hs hb;⟨_,k,?_⟩)))))
 refine qb (ln (zA (zA ?_)))
 obtain ⟨C1,hC,h⟩:=h
 refine dr2 (fun x=>C1 x∧HB H1 x _) [2,4] [] ⟨hC,hb.drew⟩ h hs hb fun w8 hs hb h=>?_
 have hs:=hs.here
 refine qx 0 (vu aL) Kp0 (qx 1 (vs aM) Kp1 (qz 3 (Aa aF aG aH aI aJ aK) Kp3 (fun w' hw'=>(xa p2 (Ab aF aG aH aI aJ aK) (isAgg28 _) (sizeOf28 _) (hw'.2.r0 0 6 gZ))) (lg 2 (slc Kp2 call45 (h.mono ?_)))))
 rintro e w9 ⟨aN,aO,aP,aQ,aR,aS,rfl,hC,hk,h⟩
 refine ⟨_,rfl,.inr ⟨hC,hb.kept hk⟩,?_⟩
 obtain ⟨hs,hb⟩:=hk.hh hs hb
 refine lg 4 (slc Kp4 call37 (h.mono ?_))
 rintro e w10 ⟨r1,rfl,hC,hk,h⟩
 refine ⟨_,rfl,.inr ⟨hC,hb.kept hk⟩,?_⟩
 obtain ⟨hs,hb⟩:=hk.hh hs hb
 refine qx 5 (vb (!r1)) Kp5 (wn (zN (cbr h ?_ ?_)))<;>intro h
 refine eg (qc (ln (er (vA (jHY (.inl rfl) results43 (v:=(vu 0)) (by kernel_rfl) (v':=ve) (by kernel_rfl) (v'':=(vb false)) (by kernel_rfl) ⟨0,⟨#[]⟩,false,rfl,h⟩)))))
 refine zD (zN (eg (q (qd (ln (er (jHY (.inl rfl) results43 (v:=(vu aL)) (by kernel_rfl) (v':=(vs aM)) (by kernel_rfl) (v'':=(vb true)) (by kernel_rfl) ⟨aL,aM,true,rfl,h⟩)))))))
 refine rg (qb (sc call19 (h.mono fun e w11 ⟨r2,k,hk,h⟩=>have ⟨hs,hb⟩:=hk.hh hs hb;⟨_,k,?_⟩)))
 refine qb ?_
 obtain ⟨hg1,h⟩|⟨hg1,h⟩:=h.br
 refine sj4 14 hg1 (q2 (vb true) (xT hg1) (ln ⟨true,None,hm,hs,hb,h⟩))
 refine qk 14 hg1 (qk 14 hg1 (vX (wy 14 hg1) (xc call89) (h.mono ?_)))
 rintro e w12 ⟨r3,rfl,hk,h⟩
 refine ⟨_,rfl,?_⟩
 obtain ⟨hs,hb⟩:=hk.hh hs hb
 refine qk 14 hg1 (q2 (vb (decide (r3>40))) (xF hg1) (ln ⟨(decide (r3>40)),None,hm,hs,hb,h⟩))
end Go.Proofs
end
section
open Go Go.SE
open Go.IntKind renaming i64 → q6
namespace Go.Proofs
open Tryz
set_option maxRecDepth 100000
set_option maxHeartbeats 4000000
attribute [local irreducible] wpL wpX opE wpE Calls
def m_M2  (w:World) (K:(Option Addr)→WP):Prop :=∀p1 w1,New w (.map #[] 0) p1 w1→∀p2 w2,New w1 (.cells #[Sl.nil.v,(.map (some p1.block))] 96) p2 w2→K (some p2) w2
theorem w_M2  (w:World) (K:(Option Addr)→WP) (h:m_M2  w K) :
  Calls prog 11 #[] w (fun e w'=>∃r1,e=.returned (vp r1)∧K r1 w'):=by
 refine cw (args:=[]) func11 ntmps11 (eg (q0 (vp none) (ln (eg (xI (O:=(.map #[] 0)) (fun p=>.map (some p.block)) (zJ rfl) (by kernel_rfl) ?_)))))
 intro p1 w1 hn2
 have h:=h p1 w1 hn2
 refine q (nw1 h xb fun p2 w2 h=>q (ln (er (rs1 results11 ⟨(some p2),rfl,h⟩))))
def m_B2 (p1:Option Addr) (bA bB:Int) (bC bD:Int) (bE:ByteArray) (bF:Sl) (w:World) (K:Int→Int→WP):Prop :=∀p2 w1,New w (.cells #[(vi bA),(vi bB),(vi bC),(vu bD),(vs bE),bF.v] 28) p2 w1→Br (Option.isNone p1) (K 0 0 w1) (∀p3 w2,New w1 (.cells #[(vi 0)] 3) p3 w2→zW w2 p3∧∀w3,w3=w2.setCell p3 (vi 0)→∃aA aB aC aD aE bG,Row w3 p2 (Ab aA aB aC aD aE bG)∧Calls prog 54 #[(.agg #[(vi aA),(vi aB),(vi aC),(vu aD),(vs aE),bG.v]),(vi 0),(vp (some p3))] w3 (fun e w4=>∃r1,e=.returned (vi r1)∧Br (r1 != 0) (K 0 r1 w4) (∃a1,p1=some a1∧∃v1:Sl,w4.cell? a1=some v1.v∧∃aO aP aQ aR aS bR,Row w4 p2 (Ab aO aP aQ aR aS bR)∧Calls prog 55 #[(vp p1),(.agg #[(vi aO),(vi aP),(vi aQ),(vu aR),(vs aS),bR.v])] w4 (fun e w5=>∃r2 r3,e=.returned (.tuple #[(vi r2),(vi r3)])∧Br (r3 != 0) (Calls prog 56 #[(vp p1),(vi (v1.len:Int))] w5 (fun e w6=>e=.returned (.tuple #[])∧K 0 r3 w6)) (K r2 0 w5)))))
theorem w_B2 (p1 bA bB bC bD bE bF w K) (h:m_B2 p1 bA bB bC bD bE bF w K):
  Calls prog 13 #[(vp p1),(.agg #[(vi bA),(vi bB),(vi bC),(vu bD),(vs bE),bF.v])] w (fun e w'=>∃r4 r5,e=.returned (.tuple #[(vi r4),(vi r5)])∧K r4 r5 w'):=by
 refine cw (args:=[(vp p1),(Aa bA bB bC bD bE bF)]) func13 ntmps13 (eg (sn (O:=(.cells #[(vi bA),(vi bB),(vi bC),(vu bD),(vs bE),bF.v] 28)) xb ?_))
 intro p2 w1 hn3
 have h:=h p2 w1 hn3
 refine qb (ln (zA (eg (q (q2 (vb (Option.isNone p1)) (yY (by kernel_rfl) rfl underlying29) (ln (cbr h ?_ ?_)))))))<;>intro h
 refine eg (qb (ln (er (vA (tE (.inl rfl) results13 (v:=(vi 0)) (by kernel_rfl) (v':=(vi 0)) (by kernel_rfl) ⟨0,0,rfl,h⟩)))))
 refine zD (zN (eg (nw1 h (zH (zeroValue3 _) rfl) fun p3 w2 h=>st1 (sizeOf3 _) h fun w3 h=>ln (zA (eg ?_)))))
 obtain ⟨aA,aB,aC,aD,aE,bG,hv3,h⟩:=h
 refine qa (isAgg28 _) (sizeOf28 _) hv3 (sc call54 (h.mono fun e w4 ⟨r1,k,h⟩=>⟨_,k,?_⟩))
 refine q (ln (eg (qb (ln (cbr h ?_ ?_)))))<;>intro h
 refine eg (qc (ln (er (vA (tE (.inl rfl) results13 (v:=(vi 0)) (by kernel_rfl) (v':=(vi r1)) (by kernel_rfl) ⟨0,r1,rfl,h⟩)))))
 refine zD (zN (eg (q (qm h fun a1 h=>q (ql (isAgg94 _) h fun v1 h=>qb (ln (eg (q ?_))))))))
 obtain ⟨aO,aP,aQ,aR,aS,bR,hv1,h⟩:=h
 refine qa (isAgg28 _) (sizeOf28 _) hv1 (sc call55 (h.mono fun e w5 ⟨r2,r3,k,h⟩=>⟨_,k,?_⟩))
 refine q (qd (ln (zA (eg (qb (ln (cbr h ?_ ?_)))))))<;>intro h
 refine eg (qb (sc call56 (h.mono fun e w6 ⟨k,h⟩=>⟨_,k,?_⟩)))
 refine ln (eg (qc (ln (er (vA (tE (.inl rfl) results13 (v:=(vi 0)) (by kernel_rfl) (v':=(vi r3)) (by kernel_rfl) ⟨0,r3,rfl,h⟩))))))
 refine zD (zN (eg (qc (ln (er (tE (.inl rfl) results13 (v:=(vi r2)) (by kernel_rfl) (v':=(vi 0)) (by kernel_rfl) ⟨r2,0,rfl,h⟩))))))
def m_N2 (p1:Option Addr) (w:World) (K:Int→WP):Prop :=Br (Option.isNone p1) (K 0 w) (∃a1,p1=some a1∧∃v1:Sl,w.cell? a1=some v1.v∧K (v1.len:Int) w)
theorem w_N2 (p1 w K) (h:m_N2 p1 w K):
  Calls prog 22 #[(vp p1)] w (fun e w'=>∃r1,e=.returned (vi r1)∧K r1 w'):=by
 refine cw (args:=[(vp p1)]) func22 ntmps22 (eg (q0 (vi 0) (ln (zA (eg (q0 (vp p1) (q2 (vb (Option.isNone p1)) (yY (by kernel_rfl) rfl underlying29) (zC ?_))))))))
 refine zN (cbr h ?_ ?_)<;>intro h
 refine eg (q (ln (er (vA (rs1 results22 ⟨0,rfl,h⟩)))))
 refine zD (zN (eg (q (qm h fun a1 h=>q (ql (isAgg94 _) h fun v1 h=>qb (ln (er (rs1 results22 ⟨(v1.len:Int),rfl,h⟩))))))))
def m_L_l4 (inside1:Int) (seen1:Option Addr) (p1:Addr) (e3 i1:Int) (wl1:World) (Kc4:Int→Int→WP) (K:Int→WP):Prop :=∃v2:Sl,wl1.cell? (p1.add 5)=some v2.v∧Br (decide (i1<(v2.len:Int))) (Br (e3 == 0) (∃v3:Sl,wl1.cell? (p1.add 5)=some v3.v∧∃a3:Addr,At v3 i1 6 a3∧∃bM bN bO bP bQ bR,Row wl1 a3 (Ab bM bN bO bP bQ bR)∧Calls prog 54 #[(.agg #[(vi bM),(vi bN),(vi bO),(vu bP),(vs bQ),bR.v]),(vi (q6.wrap (inside1+1))),(vp seen1)] wl1 (fun e w9=>∃r2,e=.returned (vi r2)∧Kc4 r2 (q6.wrap (i1+1)) w9)) (K e3 wl1)) (K e3 wl1)
def m_L_j3 (inside1:Int) (seen1:Option Addr) (p1:Addr) (e2:Int) (w:World) (K:Int→WP):Prop :=∃(I1:Int→Int→WP) (mu1:Int→Int→World→Nat),I1 e2 0 w∧∀(e3 i1:Int) (wl1:World),I1 e3 i1 wl1→m_L_l4 inside1 seen1 p1 e3 i1 wl1 (fun y'0 y'1 w'=>I1 y'0 y'1 w'∧mu1 y'0 y'1 w'<mu1 e3 i1 wl1) K
def m_L_j2 (inside1:Int) (seen1:Option Addr) (p1 p2 p3:Addr) (e1:Int) (w:World) (K:Int→WP):Prop :=Br (e1 == 0) (∃vfrom1 vto1 vnum1 vtext1 vkids1,Row w p3 (Ah vfrom1 vto1 vnum1 vtext1 vkids1)∧∃bS bT bU bV bW bX bY,Row w p2 (Ad bS bT bU bV bW bX bY)∧Calls prog 109 #[(.agg #[(vb vfrom1),(vb vto1),(vb vnum1),(vb vtext1),(vi vkids1)]),(.agg #[(vi bS),(vi bT),(vi bU),(vu bV),(vs bW),(vi bX),(vi bY)])] w (fun e w10=>∃r3,e=.returned (vi r3)∧m_L_j3 inside1 seen1 p1 r3 w10 K)) (m_L_j3 inside1 seen1 p1 e1 w K)
def m_L_j1 (inside1:Int) (seen1:Option Addr) (p1:Addr) (w:World) (K:Int→WP):Prop :=∃a1,seen1=some a1∧∃v1,w.cell? a1=some (vi v1)∧∃a2,seen1=some a2∧zW w a2∧∀w2,w2=w.setCell a2 (vi (q6.wrap (v1+1)))→∃aA aB aC aD aE bG,Row w2 p1 (Ab aA aB aC aD aE bG)∧Calls prog 107 #[(.agg #[(vi aA),(vi aB),(vi aC),(vu aD),(vs aE),bG.v])] w2 (fun e w3=>∃aT aU aV aW aX aY aZ,e=.returned (Ae aT aU aV aW aX aY aZ)∧∀p2 w4,New w3 (.cells #[(vi 0),(vi 0),(vi 0),(vu 0),ve,(vi 0),(vi 0)] 103) p2 w4→(∀j,j<7→zW w4 (p2.add j))∧∀w5,w5=storeRow w4 p2 (Ad aT aU aV aW aX aY aZ)→∃aO aP aQ aR aS aF aG,Row w5 p2 (Ad aO aP aQ aR aS aF aG)∧Calls prog 108 #[(.agg #[(vi aO),(vi aP),(vi aQ),(vu aR),(vs aS),(vi aF),(vi aG)])] w5 (fun e w6=>∃rfrom1 rto1 rnum1 rtext1 rkids1 r1,e=.returned (.tuple #[(Ak rfrom1 rto1 rnum1 rtext1 rkids1),(vi r1)])∧∀p3 w7,New w6 (.cells #[(vb false),(vb false),(vb false),(vb false),(vi 0)] 170) p3 w7→(∀j,j<5→zW w7 (p3.add j))∧∀w8,w8=storeRow w7 p3 (Ah rfrom1 rto1 rnum1 rtext1 rkids1)→Br (r1 == 0) (∃v4:Sl,w8.cell? (p1.add 5)=some v4.v∧∃v5,w8.cell? (p3.add 4)=some (vi v5)∧Br (((v4.len:Int):Int) != v5) (m_L_j2 inside1 seen1 p1 p2 p3 53 w8 K) (m_L_j2 inside1 seen1 p1 p2 p3 r1 w8 K)) (m_L_j2 inside1 seen1 p1 p2 p3 r1 w8 K)))
def m_L (bA bB:Int) (bC bD:Int) (bE:ByteArray) (bF:Sl) (inside1:Int) (seen1:Option Addr) (w:World) (K:Int→WP):Prop :=∀p1 w1,New w (.cells #[(vi bA),(vi bB),(vi bC),(vu bD),(vs bE),bF.v] 28) p1 w1→∃a4,seen1=some a4∧∃v6,w1.cell? a4=some (vi v6)∧Br (decide (v6≥4096)) (K 52 w1) (Br (decide (inside1≥64)) (K 52 w1) (m_L_j1 inside1 seen1 p1 w1 K))
theorem w_L (bA bB bC bD bE bF inside1 seen1 w K) (h:m_L bA bB bC bD bE bF inside1 seen1 w K):
  Calls prog 54 #[(.agg #[(vi bA),(vi bB),(vi bC),(vu bD),(vs bE),bF.v]),(vi inside1),(vp seen1)] w (fun e w'=>∃r4,e=.returned (vi r4)∧K r4 w'):=by
 refine cw (args:=[(Aa bA bB bC bD bE bF),(vi inside1),(vp seen1)]) func54 ntmps54 (eg (sn (O:=(.cells #[(vi bA),(vi bB),(vi bC),(vu bD),(vs bE),bF.v] 28)) xb ?_))
 intro p1 w1 hn6
 have h:=h p1 w1 hn6
 refine q (ln (qG (fun ρ w=>Has ρ [(1,(vi inside1)),(2,(vp seen1)),(3,(vp (some p1)))]∧m_L_j1 inside1 seen1 p1 w K) ?_ ?_))
 rintro ρ w ⟨hH,h⟩
 refine zR hH (eg (q (qm h fun a1 h=>ql (isAgg3 _) h fun v1 h=>q (qm h fun a2 h=>st1 (sizeOf3 _) h fun w2 h=>ln (eg ?_)))))
 obtain ⟨aA,aB,aC,aD,aE,bG,hv10,h⟩:=h
 refine qa (isAgg28 _) (sizeOf28 _) hv10 (sc call107 (h.mono fun e w3 ⟨aT,aU,aV,aW,aX,aY,aZ,k,h⟩=>⟨_,k,?_⟩))
 refine nw1 h (zH (zeroValue103 _) rfl) fun p2 w4 h=>sro (sizeOf103 _) h fun w5 h=>ln (eg ?_)
 obtain ⟨aO,aP,aQ,aR,aS,aF,aG,hv9,h⟩:=h
 refine qa (isAgg103 _) (sizeOf103 _) hv9 (sc call108 (h.mono fun e w6 ⟨rfrom1,rto1,rnum1,rtext1,rkids1,r1,k,h⟩=>⟨_,k,?_⟩))
 refine qc (nw1 h (zH (zeroValue170 _) rfl) fun p3 w7 h=>sro (sizeOf170 _) h fun w8 h=>q (ln (qG (fun ρ w=>∃e1,Has ρ [(1,(vi inside1)),(2,(vp seen1)),(3,(vp (some p1))),(7,(vp (some p2))),(8,(vp (some p3))),(9,(vi e1))]∧m_L_j2 inside1 seen1 p1 p2 p3 e1 w K) ?_ ?_)))
 rintro ρ w ⟨e1,hH,h⟩
 refine zR hH (qG (fun ρ w=>∃e2,Has ρ [(1,(vi inside1)),(2,(vp seen1)),(3,(vp (some p1))),(9,(vi e2))]∧m_L_j3 inside1 seen1 p1 e2 w K) ?_ ?_)
 rintro ρ w ⟨e2,hH,h⟩
 refine zR hH (zA (eg (q (ln (zL ?_)))))
 obtain ⟨I1,mu1,h0,hr⟩:=h
 refine vR (σ:=Int×Int×World) (fun s ρ w=>w=s.2.2∧Has ρ [(1,(vi inside1)),(2,(vp seen1)),(3,(vp (some p1))),(9,(vi s.1)),(10,(vi s.2.1))]∧I1 s.1 s.2.1 s.2.2) (fun s=>mu1 s.1 s.2.1 s.2.2) (e2,0,w) ⟨rfl,hm,h0⟩ ?_
 rintro ⟨e3,i1,wl1⟩ ρ w ⟨hw,hH,hI⟩
 dsimp only at hw hH;subst w
 have h:=hr e3 i1 wl1 hI
 refine zR hH (zA (eg (qb (ql (isAgg22 _) h fun v2 h=>qc ?_))))
 obtain ⟨hg1,h⟩|⟨hg1,h⟩:=h.br
 refine qk 51 hg1 (qk 51 hg1 (q2 (vb (e3 == 0)) (xT hg1) (ln (cbr h ?_ ?_))))<;>intro h
 refine zD (zN (zA (zL (rg (q (ql (isAgg22 _) h fun v3 h=>q (qi (runUnderlying22 _) (sizeOf28 _) h fun a3 h=>?_)))))))
 obtain ⟨bM,bN,bO,bP,bQ,bR,hv1,h⟩:=h
 refine qa (isAgg28 _) (sizeOf28 _) hv1 (qc (sc call54 (h.mono fun e w9 ⟨r2,k,h⟩=>⟨_,k,?_⟩)))
 refine q (zC (tG (zN (rg (qc (ln ⟨(r2,(q6.wrap (i1+1)),w9),⟨rfl,hm,h.1⟩,h.2⟩))))))
 refine vN (xH (xH (xB (zN (eg (q0 (vi e3) (q0 (vi e3) (ln (er (rs1 results54 ⟨e3,rfl,h⟩))))))))))
 refine sj2 51 hg1 (q2 (vb false) (xF hg1) (ln (uA (by kernel_rfl) (vN (xH (xH (xB (zN (zA (rg (qb (ln (er (rs1 results54 ⟨e3,rfl,h⟩))))))))))))))
 refine eg (qb (ln (cbr h ?_ ?_)))<;>intro h
 refine rg ?_
 obtain ⟨vfrom1,vto1,vnum1,vtext1,vkids1,hv6,h⟩:=h
 refine qa (isAgg170 _) (sizeOf170 _) hv6 ?_
 obtain ⟨bS,bT,bU,bV,bW,bX,bY,hv5,h⟩:=h
 refine qa (isAgg103 _) (sizeOf103 _) hv5 (sc call109 (h.mono fun e w10 ⟨r3,k,h⟩=>⟨_,k,?_⟩))
 refine q (ln ⟨r3,hm,h⟩)
 refine zD (zN ⟨e1,hm,h⟩)
 refine eg (qc ?_)
 obtain ⟨hg2,h⟩|⟨hg2,h⟩:=h.br
 refine qk 33 hg2 ?_
 obtain ⟨v4,hv8,h⟩:=h
 refine q4 33 hg2 (xl (isAgg22 _) hv8) (qk 33 hg2 (qk 33 hg2 ?_))
 obtain ⟨v5,hv7,h⟩:=h
 refine q4 33 hg2 (xl (isAgg3 _) hv7) (qk 33 hg2 (q2 (vb (((v4.len:Int):Int) != v5)) (xT hg2) (ln (cbr h ?_ ?_))))<;>intro h
 refine rg (q (ln ⟨53,hm,h⟩))
 refine zD (zN ⟨r1,hm,h⟩)
 refine sj 33 hg2 (sj5 33 hg2 (q2 (vb false) (xF hg2) (ln (uA (by kernel_rfl) (zD (zN ⟨r1,hm,h⟩))))))
 refine eg (q (qm h fun a4 h=>ql (isAgg3 _) h fun v6 h=>qb ?_))
 obtain ⟨hg3,h⟩|⟨hg3,h⟩:=h.br
 refine sj2 15 hg3 (q2 (vb true) (xT hg3) (ln (yC (by kernel_rfl) (eg (q0 (vi 52) (ln (er (vA (rs1 results54 ⟨52,rfl,h⟩)))))))))
 refine qk 15 hg3 (qk 15 hg3 (q2 (vb (decide (inside1≥64))) (xF hg3) (ln (cbr h ?_ ?_))))<;>intro h
 refine eg (q (ln (er (vA (rs1 results54 ⟨52,rfl,h⟩)))))
 refine zD (zN ⟨hm,h⟩)
def m_H1_l1 (p1:Option Addr) (p3 p4:Addr) (v1:Sl) (x1:Int) (wl1:World) (Kc1:Int→WP) (K:Int→Int→WP):Prop :=Br (decide (x1<(v1.len:Int))) (∃a1:Addr,At v1 x1 6 a1∧∃aO aP aQ aR aS bR,Row wl1 a1 (Ab aO aP aQ aR aS bR)∧∀p5 w6,New wl1 (.cells #[(vi 0),(vi 0),(vi 0),(vu 0),ve,Sl.nil.v] 28) p5 w6→(∀j,j<6→zW w6 (p5.add j))∧∀w7,w7=storeRow w6 p5 (Ab aO aP aQ aR aS bR)→∃bM bN bO bP bQ cS,Row w7 p5 (Ab bM bN bO bP bQ cS)∧Calls prog 55 #[(vp p1),(.agg #[(vi bM),(vi bN),(vi bO),(vu bP),(vs bQ),cS.v])] w7 (fun e w8=>∃r1 r2,e=.returned (.tuple #[(vi r1),(vi r2)])∧Br (r2 != 0) (K 0 r2 w8) (∃a2:Addr,At (Sl.mk (some p4) 2 2) x1 1 a2∧∃v2,w8.cell? a2=some (vp v2)∧∃a3,v2=some a3∧zW w8 a3∧∀w9,w9=w8.setCell a3 (vi r1)→Kc1 (q6.wrap (x1+1)) w9))) (∃bS bT bU bV bW aF aG,Row wl1 p3 (Ad bS bT bU bV bW aF aG)∧Calls prog 97 #[(vp p1),(.agg #[(vi bS),(vi bT),(vi bU),(vu bV),(vs bW),(vi aF),(vi aG)])] wl1 (fun e w10=>∃r3 r4,e=.returned (.tuple #[(vi r3),(vi r4)])∧K r3 r4 w10))
def m_H1 (p1:Option Addr) (bA bB:Int) (bC bD:Int) (bE:ByteArray) (bF:Sl) (w:World) (K:Int→Int→WP):Prop :=∀p2 w1,New w (.cells #[(vi bA),(vi bB),(vi bC),(vu bD),(vs bE),bF.v] 28) p2 w1→∃aA aB aC aD aE bG,Row w1 p2 (Ab aA aB aC aD aE bG)∧Calls prog 107 #[(.agg #[(vi aA),(vi aB),(vi aC),(vu aD),(vs aE),bG.v])] w1 (fun e w2=>∃aT aU aV aW aX aY aZ,e=.returned (Ae aT aU aV aW aX aY aZ)∧∀p3 w3,New w2 (.cells #[(vi 0),(vi 0),(vi 0),(vu 0),ve,(vi 0),(vi 0)] 103) p3 w3→(∀j,j<7→zW w3 (p3.add j))∧∀w4,w4=storeRow w3 p3 (Ad aT aU aV aW aX aY aZ)→∀p4 w5,New w4 (.cells #[(vp (some (p3.add 5))),(vp (some (p3.add 6)))] 174) p4 w5→∃v1:Sl,w5.cell? (p2.add 5)=some v1.v∧∃(I1:Int→WP) (mu1:Int→World→Nat),I1 0 w5∧∀(x1:Int) (wl1:World),I1 x1 wl1→m_H1_l1 p1 p3 p4 v1 x1 wl1 (fun y'0 w'=>I1 y'0 w'∧mu1 y'0 w'<mu1 x1 wl1) K)
theorem w_H1 (p1 bA bB bC bD bE bF w K) (h:m_H1 p1 bA bB bC bD bE bF w K):
  Calls prog 55 #[(vp p1),(.agg #[(vi bA),(vi bB),(vi bC),(vu bD),(vs bE),bF.v])] w (fun e w'=>∃r5 r6,e=.returned (.tuple #[(vi r5),(vi r6)])∧K r5 r6 w'):=by
 refine cw (args:=[(vp p1),(Aa bA bB bC bD bE bF)]) func55 ntmps55 (eg (sn (O:=(.cells #[(vi bA),(vi bB),(vi bC),(vu bD),(vs bE),bF.v] 28)) xb ?_))
 intro p2 w1 hn7
 have h:=h p2 w1 hn7
 refine qb (ln (eg ?_))
 obtain ⟨aA,aB,aC,aD,aE,bG,hv8,h⟩:=h
 refine qa (isAgg28 _) (sizeOf28 _) hv8 (sc call107 (h.mono fun e w2 ⟨aT,aU,aV,aW,aX,aY,aZ,k,h⟩=>⟨_,k,?_⟩))
 refine nw1 h (zH (zeroValue103 _) rfl) fun p3 w3 h=>sro (sizeOf103 _) h fun w4 h=>ln (eg (qb (nw4 (fun p=>(Sl.mk (some p) 2 2).v) h fun p4 w5 h=>q (ln (zA (eg (q (ql (isAgg22 _) h fun v1 h=>qb (ln (zL ?_))))))))))
 obtain ⟨I1,mu1,h0,hr⟩:=h
 refine vR (σ:=Int×World) (fun s ρ w=>w=s.2∧Has ρ [(0,(vp p1)),(6,(vp (some p3))),(7,(Sl.mk (some p4) 2 2).v),(18,v1.v),(19,(vi (v1.len:Int))),(20,(vi s.1))]∧I1 s.1 s.2) (fun s=>mu1 s.1 s.2) (0,w5) ⟨rfl,hm,h0⟩ ?_
 rintro ⟨x1,wl1⟩ ρ w ⟨hw,hH,hI⟩
 dsimp only at hw hH;subst w
 have h:=hr x1 wl1 hI
 refine zR hH (eg (q (ln (zA (cbr h ?_ ?_)))))<;>intro h
 refine zD (zN (zA (zL (eg (q (qi (runUnderlying22 _) (sizeOf28 _) h fun a1 h=>?_))))))
 obtain ⟨aO,aP,aQ,aR,aS,bR,hv4,h⟩:=h
 refine qa (isAgg28 _) (sizeOf28 _) hv4 (nw1 h (zH (zeroValue28 _) rfl) fun p5 w6 h=>q (sro (sizeOf28 _) h fun w7 h=>ln (eg (q ?_))))
 obtain ⟨bM,bN,bO,bP,bQ,cS,hv3,h⟩:=h
 refine qa (isAgg28 _) (sizeOf28 _) hv3 (sc call55 (h.mono fun e w8 ⟨r1,r2,k,h⟩=>⟨_,k,?_⟩))
 refine q (qd (ln (zA (eg (qb (ln (cbr h ?_ ?_)))))))<;>intro h
 refine eg (qc (ln (er (vA (qU (vA (vA (qU (vA (tE (.inl rfl) results55 (v:=(vi 0)) (by kernel_rfl) (v':=(vi r2)) (by kernel_rfl) ⟨0,r2,rfl,h⟩))))))))))
 refine zD (zN (rg (qb (qi (runUnderlying175 _) (sizeOf174 _) h fun a2 h=>ql (isAgg174 _) h fun v2 h=>q (qm h fun a3 h=>st1 (sizeOf23 _) h fun w9 h=>zC (tG (zN (rg (qb (ln ⟨((q6.wrap (x1+1)),w9),⟨rfl,hm,h.1⟩,h.2⟩))))))))))
 refine vN (xH (xH (xB (zN (eg (q0 (vp p1) ?_))))))
 obtain ⟨bS,bT,bU,bV,bW,aF,aG,hv6,h⟩:=h
 refine qa (isAgg103 _) (sizeOf103 _) hv6 (sc call97 (h.mono fun e w10 ⟨r3,r4,k,h⟩=>⟨_,k,?_⟩))
 refine qd (ln (er (tE (.inl rfl) results55 (v:=(vi r3)) (by kernel_rfl) (v':=(vi r4)) (by kernel_rfl) ⟨r3,r4,rfl,h⟩)))
def m_I1_l1 (p1:Option Addr) (n1:Int) (s1:Sl) (x1:Int) (wl1:World) (Kc1:Int→WP) (K:WP):Prop :=Br (decide (x1<(s1.len:Int))) (∃a2:Addr,At s1 x1 9 a2∧∃vnodeKind1 vnodeFrom1 vnodeTo1 vnodeNum1 vnodeText1 vnodeA1 vnodeB1 vsize1 vdepth1,Row wl1 a2 [(vi vnodeKind1),(vi vnodeFrom1),(vi vnodeTo1),(vu vnodeNum1),(vs vnodeText1),(vi vnodeA1),(vi vnodeB1),(vi vsize1),(vi vdepth1)]∧∀p2 w1,New wl1 (.cells #[(vi 0),(vi 0),(vi 0),(vu 0),ve,(vi 0),(vi 0),(vi 0),(vi 0)] 177) p2 w1→(∀j,j<9→zW w1 (p2.add j))∧∀w2,w2=storeRow w1 p2 [(vi vnodeKind1),(vi vnodeFrom1),(vi vnodeTo1),(vu vnodeNum1),(vs vnodeText1),(vi vnodeA1),(vi vnodeB1),(vi vsize1),(vi vdepth1)]→∃C1:WP,C1 w2.drew∧∀w3,w3=w2.drew→∃a3,p1=some a3∧∃v2:Option Nat,(∀w',C1 w'→w'.cell? (a3.add 1)=some (.map v2))∧∃aA aB aC aD aE aF aG,(∀w',C1 w'→Row w' p2 (Ad aA aB aC aD aE aF aG))∧∃w4:World,(Builtin.delete_ #[93,103] 0 #[(.map v2),(Ae aA aB aC aD aE aF aG)]).run prog w3=.ok (.tuple #[]) w4∧Kc1 (q6.wrap (x1+1)) w4) (∃a4,p1=some a4∧∃v3:Sl,wl1.cell? a4=some v3.v∧∃s2:Sl,(Instr.sliceAt 94 v3.v none (some (vi n1)) none).run prog wl1=.ok s2.v wl1∧∃a5,p1=some a5∧zW wl1 a5∧∀w5,w5=wl1.setCell a5 s2.v→K w5)
def m_I1 (p1:Option Addr) (n1:Int) (w:World) (K:WP):Prop :=∃a1,p1=some a1∧∃v1:Sl,w.cell? a1=some v1.v∧∃s1:Sl,(Instr.sliceAt 94 v1.v (some (vi n1)) none none).run prog w=.ok s1.v w∧∃(I1:Int→WP) (mu1:Int→World→Nat),I1 0 w∧∀(x1:Int) (wl1:World),I1 x1 wl1→m_I1_l1 p1 n1 s1 x1 wl1 (fun y'0 w'=>I1 y'0 w'∧mu1 y'0 w'<mu1 x1 wl1) K
theorem w_I1 (p1 n1 w K) (h:m_I1 p1 n1 w K):
  Calls prog 56 #[(vp p1),(vi n1)] w (fun e w'=>e=.returned (.tuple #[])∧K  w'):=by
 refine cw (args:=[(vp p1),(vi n1)]) func56 ntmps56 (zA (eg (q0 (vp p1) ?_)))
 refine qm h fun a1 h=>q (ql (isAgg94 _) h fun v1 h=>q ?_)
 obtain ⟨s1,hv8,h⟩:=h
 refine q2 s1.v (uJ (by kernel_rfl) (by kernel_rfl) (by kernel_rfl) (by kernel_rfl) hv8) (qb (ln (zL ?_)))
 obtain ⟨I1,mu1,h0,hr⟩:=h
 refine vR (σ:=Int×World) (fun s ρ w=>w=s.2∧Has ρ [(0,(vp p1)),(1,(vi n1)),(11,s1.v),(12,(vi (s1.len:Int))),(13,(vi s.1))]∧I1 s.1 s.2) (fun s=>mu1 s.1 s.2) (0,w) ⟨rfl,hm,h0⟩ ?_
 rintro ⟨x1,wl1⟩ ρ w ⟨hw,hH,hI⟩
 dsimp only at hw hH;subst w
 have h:=hr x1 wl1 hI
 refine zR hH (eg (q (ln (zA (cbr h ?_ ?_)))))<;>intro h
 refine zD (zN (zA (zL (eg (qi (runUnderlying94 _) (sizeOf177 _) h fun a2 h=>?_)))))
 obtain ⟨vnodeKind1,vnodeFrom1,vnodeTo1,vnodeNum1,vnodeText1,vnodeA1,vnodeB1,vsize1,vdepth1,hv4,h⟩:=h
 refine qa (isAgg177 _) (sizeOf177 _) hv4 (nw1 h (zH (zeroValue177 _) rfl) fun p2 w1 h=>sro (sizeOf177 _) h fun w2 h=>ln ?_)
 obtain ⟨C1,hC,h⟩:=h
 refine dr1 C1 [6] [6] hC h fun w3 h=>qx 0 (vp p1) Kp0 (qg 1 ?_)
 obtain ⟨a3,hp3,h⟩:=h
 refine sy Kp1 (fun _ _=>xn hp3) (qx 2 (vp (some (a3.add 1))) Kp2 (qg 3 ?_))
 obtain ⟨v2,hv3,h⟩:=h
 refine sy Kp3 (fun _ k=>xl (isAgg93 _) (hv3 _ k)) (qx 4 (vp (some p2)) Kp4 (qg 5 ?_))
 obtain ⟨aA,aB,aC,aD,aE,aF,aG,hv2,h⟩:=h
 refine sy (v:=(Ae aA aB aC aD aE aF aG)) Kp5 (fun w' hw'=>(xa p2 (Ad aA aB aC aD aE aF aG) (isAgg103 _) (sizeOf103 _) (hv2 w' hw'))) (lg 6 ?_)
 obtain ⟨w4,hv1,h⟩:=h
 refine sl (v:=(.tuple #[])) Kp6 (zJ rfl) (by kernel_rfl) (vL (args:=#[(.map v2),(Ae aA aB aC aD aE aF aG)]) (by kernel_rfl) (fun _=>rfl) hv1) (.inl (by kernel_rfl)) (wn (tG (zN (rg (q0 (vi (q6.wrap (x1+1))) (q0 (vi (q6.wrap (x1+1))) (ln ⟨((q6.wrap (x1+1)),w4),⟨rfl,hm,h.1⟩,h.2⟩)))))))
 refine vN (xH (xH (xB (zN (rg (q0 (vp p1) (q0 (vp p1) (qm h fun a4 h=>q (ql (isAgg94 _) h fun v3 h=>q ?_)))))))))
 obtain ⟨s2,hv6,h⟩:=h
 refine q2 s2.v (uJ (by kernel_rfl) (by kernel_rfl) (by kernel_rfl) (by kernel_rfl) hv6) (qm h fun a5 h=>q (st1 (sizeOf94 _) h fun w5 h=>zC (jHZ (.inr rfl) results56 ⟨rfl,h⟩)))
def m_W1 (p1:Option Addr) (t1:Int) (w:World) (K:Int→Int→Int→Int→ByteArray→Int→Int→Bool→WP):Prop :=∀p2 w1,New w (.cells #[(vi 0),(vi 0),(vi 0),(vu 0),ve,(vi 0),(vi 0)] 103) p2 w1→Calls prog 115 #[(vp p1),(vi t1)] w1 (fun e w2=>∃r1,e=.returned (vb r1)∧Br (!r1) ((∀j,j<7→zW w2 (p2.add j))∧∀w3,w3=storeRow w2 p2 (Ai 0 0 0 0 0 0)→∃bH bI bJ bK bL cE cF,Row w3 p2 (Ad bH bI bJ bK bL cE cF)∧K bH bI bJ bK bL cE cF false w3) (∃a1,p1=some a1∧∃v1:Sl,w2.cell? a1=some v1.v∧∃a2:Addr,At v1 (q6.wrap (t1 - 1)) 9 a2∧∃aA aB aC aD aE aF aG,Row w2 a2 (Ad aA aB aC aD aE aF aG)∧(∀j,j<7→zW w2 (p2.add j))∧∀w4,w4=storeRow w2 p2 (Ad aA aB aC aD aE aF aG)→∃bZ cA cB cC cD cK cL,Row w4 p2 (Ad bZ cA cB cC cD cK cL)∧K bZ cA cB cC cD cK cL true w4))
theorem w_W1 (p1 t1 w K) (h:m_W1 p1 t1 w K):
  Calls prog 61 #[(vp p1),(vi t1)] w (fun e w'=>∃aT aU aV aW aX aY aZ r2,e=.returned (.tuple #[(Ae aT aU aV aW aX aY aZ),(vb r2)])∧K aT aU aV aW aX aY aZ r2 w'):=by
 refine cw (args:=[(vp p1),(vi t1)]) func61 ntmps61 (eg (sn (O:=(.cells #[(vi 0),(vi 0),(vi 0),(vu 0),ve,(vi 0),(vi 0)] 103)) (zH (zeroValue103 _) rfl) ?_))
 intro p2 w1 hn3
 have h:=h p2 w1 hn3
 refine q (ln (zA (eg (qb (sc call115 (h.mono fun e w2 ⟨r1,k,h⟩=>⟨_,k,?_⟩))))))
 refine q (ln (cbr h ?_ ?_))<;>intro h
 refine eg (q (sro (sizeOf103 _) h fun w3 h=>q (ln (er (vA ?_)))))
 obtain ⟨bH,bI,bJ,bK,bL,cE,cF,hv1,h⟩:=h
 refine gg2 results61 (rva (isAgg103 _) (sizeOf103 _) hv1) (rvU (vb false)) ⟨bH,bI,bJ,bK,bL,cE,cF,false,rfl,h⟩
 refine zD (zN (eg (q (qm h fun a1 h=>q (ql (isAgg94 _) h fun v1 h=>qb (qi (runUnderlying94 _) (sizeOf177 _) h fun a2 h=>q ?_))))))
 obtain ⟨aA,aB,aC,aD,aE,aF,aG,hv3,h⟩:=h
 refine qa (isAgg103 _) (sizeOf103 _) hv3 (sro (sizeOf103 _) h fun w4 h=>q (ln (er ?_)))
 obtain ⟨bZ,cA,cB,cC,cD,cK,cL,hv2,h⟩:=h
 refine gg2 results61 (rva (isAgg103 _) (sizeOf103 _) hv2) (rvU (vb true)) ⟨bZ,cA,cB,cC,cD,cK,cL,true,rfl,h⟩
def m_O2 (p1:Option Addr) (t1:Int) (w:World) (K:Int→WP):Prop :=Calls prog 115 #[(vp p1),(vi t1)] w (fun e w1=>∃r1,e=.returned (vb r1)∧Br (!r1) (K 0 w1) (∃a1,p1=some a1∧∃v1:Sl,w1.cell? a1=some v1.v∧∃a2:Addr,At v1 (q6.wrap (t1 - 1)) 9 a2∧∃v2,w1.cell? (a2.add 7)=some (vi v2)∧K v2 w1))
theorem w_O2 (p1 t1 w K) (h:m_O2 p1 t1 w K):
  Calls prog 67 #[(vp p1),(vi t1)] w (fun e w'=>∃r2,e=.returned (vi r2)∧K r2 w'):=by
 refine cw (args:=[(vp p1),(vi t1)]) func67 ntmps67 (eg (q0 (vi 0) (ln (zA (eg (q0 (vp p1) (q0 (vi t1) ?_)))))))
 refine sc call115 (h.mono fun e w1 ⟨r1,k,h⟩=>⟨_,k,?_⟩)
 refine q (ln (cbr h ?_ ?_))<;>intro h
 refine eg (q (ln (er (vA (rs1 results67 ⟨0,rfl,h⟩)))))
 refine zD (zN (eg (q (qm h fun a1 h=>q (ql (isAgg94 _) h fun v1 h=>qb (qi (runUnderlying94 _) (sizeOf177 _) h fun a2 h=>q (ql (isAgg3 _) h fun v2 h=>q (ln (er (rs1 results67 ⟨v2,rfl,h⟩))))))))))
def m_P2 (p1:Option Addr) (t1:Int) (w:World) (K:Sl→WP):Prop :=Calls prog 61 #[(vp p1),(vi t1)] w (fun e w1=>∃aT aU aV aW aX aY aZ r1,e=.returned (.tuple #[(Ae aT aU aV aW aX aY aZ),(vb r1)])∧∀p2 w2,New w1 (.cells #[(vi 0),(vi 0),(vi 0),(vu 0),ve,(vi 0),(vi 0)] 103) p2 w2→(∀j,j<7→zW w2 (p2.add j))∧∀w3,w3=storeRow w2 p2 (Ad aT aU aV aW aX aY aZ)→∃v1,w3.cell? p2=some (vi v1)∧Calls prog 136 #[(vi v1)] w3 (fun e w4=>∃rfrom1 rto1 rnum1 rtext1 rkids1 r2,e=.returned (.tuple #[(Ak rfrom1 rto1 rnum1 rtext1 rkids1),(vb r2)])∧∀p3 w5,New w4 (.cells #[(vb false),(vb false),(vb false),(vb false),(vi 0)] 170) p3 w5→(∀j,j<5→zW w5 (p3.add j))∧∀w6,w6=storeRow w5 p3 (Ah rfrom1 rto1 rnum1 rtext1 rkids1)→∃v2,w6.cell? (p2.add 5)=some (vi v2)∧∃v3,w6.cell? (p2.add 6)=some (vi v3)∧∀p4 w7,New w6 (.cells #[(vi v2),(vi v3)] 23) p4 w7→∃v4,w7.cell? (p3.add 4)=some (vi v4)∧∃s1:Sl,(Instr.sliceAt 137 (Sl.mk (some p4) 2 2).v none (some (vi v4)) none).run prog w7=.ok s1.v w7∧K s1 w7))
theorem w_P2 (p1 t1 w K) (h:m_P2 p1 t1 w K):
  Calls prog 84 #[(vp p1),(vi t1)] w (fun e w'=>∃r3:Sl,e=.returned r3.v∧K r3 w'):=by
 refine cw (args:=[(vp p1),(vi t1)]) func84 ntmps84 (eg (q0 Sl.nil.v (ln (eg (q0 (vp p1) (q0 (vi t1) ?_))))))
 refine sc call61 (h.mono fun e w1 ⟨aT,aU,aV,aW,aX,aY,aZ,r1,k,h⟩=>⟨_,k,?_⟩)
 refine qc (nw1 h (zH (zeroValue103 _) rfl) fun p2 w2 h=>sro (sizeOf103 _) h fun w3 h=>q (ln (eg (q (ql (isAgg3 _) h fun v1 h=>sc call136 (h.mono fun e w4 ⟨rfrom1,rto1,rnum1,rtext1,rkids1,r2,k,h⟩=>⟨_,k,?_⟩))))))
 refine qc (nw1 h (zH (zeroValue170 _) rfl) fun p3 w5 h=>sro (sizeOf170 _) h fun w6 h=>q (ln (eg (q (ql (isAgg23 _) h fun v2 h=>q (ql (isAgg23 _) h fun v3 h=>xI (O:=(.cells #[(vi v2),(vi v3)] 23)) (fun p=>(Sl.mk (some p) 2 2).v) (zJ rfl) (vI (vs:=#[(0,(vi v2)),(1,(vi v3))]) (by kernel_rfl) (by kernel_rfl)) ?_))))))
 intro p4 w7 hn3
 have h:=h p4 w7 hn3
 refine q (ql (isAgg3 _) h fun v4 h=>?_)
 obtain ⟨s1,hv1,h⟩:=h
 refine q2 s1.v (uJ (by kernel_rfl) (by kernel_rfl) (by kernel_rfl) (by kernel_rfl) hv1) (q (ln (er (rs1 results84 ⟨s1,rfl,h⟩))))
def m_C2 (p1:Option Addr) (aH aI:Int) (aJ aK:Int) (aL:ByteArray) (aM aN:Int) (w:World) (K:Int→Int→WP):Prop :=∀p2 w1,New w (.cells #[(vi aH),(vi aI),(vi aJ),(vu aK),(vs aL),(vi aM),(vi aN)] 103) p2 w1→Br (Option.isNone p1) (K 0 0 w1) (∃aA aB aC aD aE aF aG,Row w1 p2 (Ad aA aB aC aD aE aF aG)∧Calls prog 137 #[(vp p1),(.agg #[(vi aA),(vi aB),(vi aC),(vu aD),(vs aE),(vi aF),(vi aG)])] w1 (fun e w2=>∃r1 r2 r3,e=.returned (.tuple #[(vi r1),(vi r2),(vi r3)])∧Br (r3 != 0) (K 0 r3 w2) (∀w3,w3=w2.drew→∃a1,p1=some a1∧∃v1:Option Nat,w3.cell? (a1.add 1)=some (.map v1)∧∃aO aP aQ aR aS bX bY,Row w3 p2 (Ad aO aP aQ aR aS bX bY)∧∃v2 ok1,(Instr.lookup 93 (.map v1) (.agg #[(vi aO),(vi aP),(vi aQ),(vu aR),(vs aS),(vi bX),(vi bY)]) true).run prog w3=.ok (.tuple #[(vi v2),(vb ok1)]) w3∧Br ok1 (K v2 0 w3) (∃a2,p1=some a2∧∃v3:Sl,w3.cell? a2=some v3.v∧Br (decide ((v3.len:Int)≥65536)) (K 0 6 w3) (∃C1:WP,C1 w3.drew∧∀w4,w4=w3.drew→∃a3,p1=some a3∧∃v4:Sl,(∀w',C1 w'→w'.cell? a3=some v4.v)∧∃bM bN bO bP bQ cG cH,(∀w',C1 w'→Row w' p2 (Ad bM bN bO bP bQ cG cH))∧∀p3 w5,New w4 (.cells #[(vi bM),(vi bN),(vi bO),(vu bP),(vs bQ),(vi cG),(vi cH),(vi r1),(vi r2)] 177) p3 w5→C1 w5∧∃s1:Sl,∃w6:World,(Builtin.append_ #[94,94] 94 #[v4.v,(Sl.mk (some p3) 1 1).v]).run prog w5=.ok s1.v w6∧C1 w6∧∃a4,p1=some a4∧zW w6 a4∧∀w7,w7=w6.setCell a4 s1.v→∃a5,p1=some a5∧∃v5:Sl,w7.cell? a5=some v5.v∧∃C2:WP,C2 w7.drew∧∀w8,w8=w7.drew→∃a6,p1=some a6∧∃v6:Option Nat,(∀w',C2 w'→w'.cell? (a6.add 1)=some (.map v6))∧∃bS bT bU bV bW cT cU,(∀w',C2 w'→Row w' p2 (Ad bS bT bU bV bW cT cU))∧∃w9:World,(Instr.mapUpdate 93 (.map v6) (.agg #[(vi bS),(vi bT),(vi bU),(vu bV),(vs bW),(vi cT),(vi cU)]) (vi (v5.len:Int))).run prog w8=.ok () w9∧K (v5.len:Int) 0 w9)))))
theorem w_C2 (p1 aH aI aJ aK aL aM aN w K) (h:m_C2 p1 aH aI aJ aK aL aM aN w K):
  Calls prog 97 #[(vp p1),(.agg #[(vi aH),(vi aI),(vi aJ),(vu aK),(vs aL),(vi aM),(vi aN)])] w (fun e w'=>∃r4 r5,e=.returned (.tuple #[(vi r4),(vi r5)])∧K r4 r5 w'):=by
 refine cw (args:=[(vp p1),(Ae aH aI aJ aK aL aM aN)]) func97 ntmps97 (eg (sn (O:=(.cells #[(vi aH),(vi aI),(vi aJ),(vu aK),(vs aL),(vi aM),(vi aN)] 103)) xb ?_))
 intro p2 w1 hn3
 have h:=h p2 w1 hn3
 refine qb (ln (zA (eg (q (q2 (vb (Option.isNone p1)) (yY (by kernel_rfl) rfl underlying29) (ln (cbr h ?_ ?_)))))))<;>intro h
 refine eg (qb (ln (er (vA (tE (.inl rfl) results97 (v:=(vi 0)) (by kernel_rfl) (v':=(vi 0)) (by kernel_rfl) ⟨0,0,rfl,h⟩)))))
 refine zD (zN (eg (q ?_)))
 obtain ⟨aA,aB,aC,aD,aE,aF,aG,hv12,h⟩:=h
 refine qa (isAgg103 _) (sizeOf103 _) hv12 (sc call137 (h.mono fun e w2 ⟨r1,r2,r3,k,h⟩=>⟨_,k,?_⟩))
 refine qc (qd (ln (zA (eg (qb (ln (cbr h ?_ ?_)))))))<;>intro h
 refine eg (qc (ln (er (vA (tE (.inl rfl) results97 (v:=(vi 0)) (by kernel_rfl) (v':=(vi r3)) (by kernel_rfl) ⟨0,r3,rfl,h⟩)))))
 refine zD (zN (zA (zA (qD (by kernel_rfl) (by kernel_rfl) (by kernel_rfl) (by kernel_rfl) ?_))))
 intro w3 hw3
 have h:=h w3 hw3
 refine qq 0 (vp p1) Kp0 (qg 1 ?_)
 obtain ⟨a1,hp1,h⟩:=h
 refine sxQ Kp1 (zJ rfl) rfl (xn hp1) (qq 2 (vp (some (a1.add 1))) Kp2 (qg 3 ?_))
 obtain ⟨v1,hv11,h⟩:=h
 refine sxQ Kp3 (zJ rfl) rfl (xl (isAgg93 _) hv11) (qg 4 ?_)
 obtain ⟨aO,aP,aQ,aR,aS,bX,bY,hv10,h⟩:=h
 refine sxQ (v:=(Ae aO aP aQ aR aS bX bY)) Kp4 (zJ rfl) rfl (xa p2 (Ad aO aP aQ aR aS bX bY) (isAgg103 _) (sizeOf103 _) hv10) (qg 5 ?_)
 obtain ⟨v2,ok1,hv9,h⟩:=h
 refine sxQ (v:=(.tuple #[(vi v2),(vb ok1)])) Kp5 (zJ rfl) rfl (yZ (by kernel_rfl) (by kernel_rfl) hv9) (qq 6 (.tuple #[(vi v2),(vb ok1)]) Kp6 (qq 7 (vi v2) Kp7 (qq 8 (vb ok1) Kp8 (qq 9 (vi v2) Kp9 (qq 10 (vb ok1) (zG (S8 (zB (zB zF)))) (wn (zN (eg (q (zC (zN (cbr h ?_ ?_))))))))))))<;>intro h
 refine eg (qc (ln (er (vA (tE (.inl rfl) results97 (v:=(vi v2)) (by kernel_rfl) (v':=(vi 0)) (by kernel_rfl) ⟨v2,0,rfl,h⟩)))))
 refine zD (zN (zA (eg (q (qm h fun a2 h=>q (ql (isAgg94 _) h fun v3 h=>qb (ln (cbr h ?_ ?_))))))))<;>intro h
 refine eg (qb (ln (er (vA (tE (.inl rfl) results97 (v:=(vi 0)) (by kernel_rfl) (v':=(vi 6)) (by kernel_rfl) ⟨0,6,rfl,h⟩)))))
 refine zD (zN (zA ?_))
 obtain ⟨C1,hC,h⟩:=h
 refine dr1 C1 [9,10,13] [13] hC h fun w4 h=>qx 0 (vp p1) Kp0 (qx 1 (vp p1) Kp1 (qg 2 ?_))
 obtain ⟨a3,hp3,h⟩:=h
 refine sy Kp2 (fun _ _=>xn hp3) (qx 3 (vp (some a3)) Kp3 (qg 4 ?_))
 obtain ⟨v4,hv7,h⟩:=h
 refine sy Kp4 (fun _ k=>xl (isAgg94 _) (hv7 _ k)) (qg 5 ?_)
 obtain ⟨bM,bN,bO,bP,bQ,cG,cH,hv6,h⟩:=h
 refine sy (v:=(Ae bM bN bO bP bQ cG cH)) Kp5 (fun w' hw'=>(xa p2 (Ad bM bN bO bP bQ cG cH) (isAgg103 _) (sizeOf103 _) (hv6 w' hw'))) (qx 6 (vi r1) Kp6 (qx 7 (vi r2) Kp7 (qx 8 (.agg #[(vi bM),(vi bN),(vi bO),(vu bP),(vs bQ),(vi cG),(vi cH),(vi r1),(vi r2)]) Kp8 (lg 9 (qH (O:=(.cells #[(vi bM),(vi bN),(vi bO),(vu bP),(vs bQ),(vi cG),(vi cH),(vi r1),(vi r2)] 177)) (fun p=>(Sl.mk (some p) 1 1).v) Kp9 (zJ rfl) (by kernel_rfl) (vI (vs:=#[(0,(.agg #[(vi bM),(vi bN),(vi bO),(vu bP),(vs bQ),(vi cG),(vi cH),(vi r1),(vi r2)]))]) (by kernel_rfl) (by kernel_rfl)) ?_)))))
 intro p3 w5 hn2
 have h:=h p3 w5 hn2
 refine ⟨.inr h.1,?_⟩
 have h:=h.2
 refine lg 10 ?_
 obtain ⟨s1,w6,hv5,hC,h⟩:=h
 refine sl (v:=s1.v) (zG (S8 (zB (zB zF)))) (zJ rfl) (by kernel_rfl) (vL (args:=#[v4.v,(Sl.mk (some p3) 1 1).v]) (by kernel_rfl) (fun _=>rfl) hv5) (.inr hC) (qg 11 ?_)
 obtain ⟨a4,hp4,h⟩:=h
 refine sy (zG (S8 (zB (zB (zB zF))))) (fun _ _=>xn hp4) (qx 12 (vp (some a4)) (zG (S8 (S4 zF))) (lg 13 ?_))
 obtain ⟨hp5,h⟩:=h
 refine jRN (zG (S8 (S4 (zB zF)))) (xs (v:=s1.v) (sizeOf94 _) hp5) ?_
 intro w7 hn1
 have h:=h w7 hn1
 refine ⟨.inl (by kernel_rfl),?_⟩
 refine wn (zN (eg (q (qm h fun a5 h=>q (ql (isAgg94 _) h fun v5 h=>qb (ln (zA ?_)))))))
 obtain ⟨C2,hC,h⟩:=h
 refine dr1 C2 [6] [6] hC h fun w8 h=>qx 0 (vp p1) Kp0 (qg 1 ?_)
 obtain ⟨a6,hp7,h⟩:=h
 refine sy Kp1 (fun _ _=>xn hp7) (qx 2 (vp (some (a6.add 1))) Kp2 (qg 3 ?_))
 obtain ⟨v6,hv3,h⟩:=h
 refine sy Kp3 (fun _ k=>xl (isAgg93 _) (hv3 _ k)) (qg 4 ?_)
 obtain ⟨bS,bT,bU,bV,bW,cT,cU,hv2,h⟩:=h
 refine sy (v:=(Ae bS bT bU bV bW cT cU)) Kp4 (fun w' hw'=>(xa p2 (Ad bS bT bU bV bW cT cU) (isAgg103 _) (sizeOf103 _) (hv2 w' hw'))) (qx 5 (vi (v5.len:Int)) Kp5 (lg 6 ?_))
 obtain ⟨w9,hv1,h⟩:=h
 refine jPJ Kp6 (zJ rfl) (by kernel_rfl) (tP (by kernel_rfl) (by kernel_rfl) (by kernel_rfl) hv1) (.inl (by kernel_rfl)) (wn (zN (eg (q0 (vi (v5.len:Int)) (q0 (vi (v5.len:Int)) (q0 (vi 0) (ln (er (tE (.inl rfl) results97 (v:=(vi (v5.len:Int))) (by kernel_rfl) (v':=(vi 0)) (by kernel_rfl) ⟨(v5.len:Int),0,rfl,h⟩)))))))))
def m_Q2 (bA bB:Int) (bC bD:Int) (bE:ByteArray) (bF:Sl) (w:World) (K:Int→Int→Int→Int→ByteArray→Int→Int→WP):Prop :=∀p1 w1,New w (.cells #[(vi bA),(vi bB),(vi bC),(vu bD),(vs bE),bF.v] 28) p1 w1→∀p2 w2,New w1 (.cells #[(vi 0),(vi 0),(vi 0),(vu 0),ve,(vi 0),(vi 0)] 103) p2 w2→∃v1,w2.cell? p1=some (vi v1)∧∃v2,w2.cell? (p1.add 1)=some (vi v2)∧∃v3,w2.cell? (p1.add 2)=some (vi v3)∧∃v4,w2.cell? (p1.add 3)=some (vu v4)∧∃v5,w2.cell? (p1.add 4)=some (vs v5)∧(∀j,j<7→zW w2 (p2.add j))∧∀w3,w3=storeRow w2 p2 (Ad v1 v2 v3 v4 v5 0 0)→∃bH bI bJ bK bL cE cF,Row w3 p2 (Ad bH bI bJ bK bL cE cF)∧K bH bI bJ bK bL cE cF w3
theorem w_Q2 (bA bB bC bD bE bF w K) (h:m_Q2 bA bB bC bD bE bF w K):
  Calls prog 107 #[(.agg #[(vi bA),(vi bB),(vi bC),(vu bD),(vs bE),bF.v])] w (fun e w'=>∃aT aU aV aW aX aY aZ,e=.returned (Ae aT aU aV aW aX aY aZ)∧K aT aU aV aW aX aY aZ w'):=by
 refine cw (args:=[(Aa bA bB bC bD bE bF)]) func107 ntmps107 (eg (sn (O:=(.cells #[(vi bA),(vi bB),(vi bC),(vu bD),(vs bE),bF.v] 28)) xb ?_))
 intro p1 w1 hn3
 have h:=h p1 w1 hn3
 refine nw1 h (zH (zeroValue103 _) rfl) fun p2 w2 h=>ln (eg (q (ql (isAgg3 _) h fun v1 h=>q (ql (isAgg3 _) h fun v2 h=>q (ql (isAgg3 _) h fun v3 h=>q (ql (isAgg26 _) h fun v4 h=>q (ql (isAgg9 _) h fun v5 h=>q (sro (sizeOf103 _) h fun w3 h=>ln (er ?_)))))))))
 obtain ⟨bH,bI,bJ,bK,bL,cE,cF,hv1,h⟩:=h
 refine gg1 results107 (rva (isAgg103 _) (sizeOf103 _) hv1) ⟨bH,bI,bJ,bK,bL,cE,cF,rfl,h⟩
def m_E_j3 (p1 p2 p3:Addr) (x3:Bool) (w:World) (K:Bool→Bool→Bool→Bool→Int→Int→WP):Prop :=Br x3 (∃vfrom1 vto1 vnum1 vtext1 vkids1,Row w p3 (Ah vfrom1 vto1 vnum1 vtext1 vkids1)∧(∀j,j<5→zW w (p2.add j))∧∀w6,w6=storeRow w p2 (Ah vfrom1 vto1 vnum1 vtext1 vkids1)→∃qfrom1 qto1 qnum1 qtext1 qkids1,Row w6 p2 (Ah qfrom1 qto1 qnum1 qtext1 qkids1)∧K qfrom1 qto1 qnum1 qtext1 qkids1 53 w6) (∃v2,w.cell? (p3.add 3)=some (vb v2)∧Br (!v2) (∃v3,w.cell? (p1.add 4)=some (vs v3)∧Br (!(decide (v3=⟨#[]⟩))) (∃vfrom2 vto2 vnum2 vtext2 vkids2,Row w p3 (Ah vfrom2 vto2 vnum2 vtext2 vkids2)∧(∀j,j<5→zW w (p2.add j))∧∀w7,w7=storeRow w p2 (Ah vfrom2 vto2 vnum2 vtext2 vkids2)→∃qfrom2 qto2 qnum2 qtext2 qkids2,Row w7 p2 (Ah qfrom2 qto2 qnum2 qtext2 qkids2)∧K qfrom2 qto2 qnum2 qtext2 qkids2 53 w7) (∃vfrom3 vto3 vnum3 vtext3 vkids3,Row w p3 (Ah vfrom3 vto3 vnum3 vtext3 vkids3)∧(∀j,j<5→zW w (p2.add j))∧∀w8,w8=storeRow w p2 (Ah vfrom3 vto3 vnum3 vtext3 vkids3)→∃qfrom3 qto3 qnum3 qtext3 qkids3,Row w8 p2 (Ah qfrom3 qto3 qnum3 qtext3 qkids3)∧K qfrom3 qto3 qnum3 qtext3 qkids3 0 w8)) (∃vfrom4 vto4 vnum4 vtext4 vkids4,Row w p3 (Ah vfrom4 vto4 vnum4 vtext4 vkids4)∧(∀j,j<5→zW w (p2.add j))∧∀w9,w9=storeRow w p2 (Ah vfrom4 vto4 vnum4 vtext4 vkids4)→∃qfrom4 qto4 qnum4 qtext4 qkids4,Row w9 p2 (Ah qfrom4 qto4 qnum4 qtext4 qkids4)∧K qfrom4 qto4 qnum4 qtext4 qkids4 0 w9))
def m_E_j4 (p1 p2 p3:Addr) (x2 x4:Bool) (w:World) (K:Bool→Bool→Bool→Bool→Int→Int→WP):Prop :=Br x2 (m_E_j3 p1 p2 p3 true w K) (m_E_j3 p1 p2 p3 x4 w K)
def m_E_j2 (p1 p2 p3:Addr) (x2:Bool) (w:World) (K:Bool→Bool→Bool→Bool→Int→Int→WP):Prop :=Br x2 (m_E_j3 p1 p2 p3 true w K) (∃v4,w.cell? (p3.add 2)=some (vb v4)∧Br (!v4) (∃v5,w.cell? (p1.add 3)=some (vu v5)∧m_E_j4 p1 p2 p3 x2 (v5 != 0) w K) (m_E_j4 p1 p2 p3 x2 false w K))
def m_E_j5 (p1 p2 p3:Addr) (x1 x5:Bool) (w:World) (K:Bool→Bool→Bool→Bool→Int→Int→WP):Prop :=Br x1 (m_E_j2 p1 p2 p3 true w K) (m_E_j2 p1 p2 p3 x5 w K)
def m_E_j1 (p1 p2 p3:Addr) (x1:Bool) (w:World) (K:Bool→Bool→Bool→Bool→Int→Int→WP):Prop :=Br x1 (m_E_j2 p1 p2 p3 true w K) (∃v6,w.cell? (p3.add 1)=some (vb v6)∧Br (!v6) (∃v7,w.cell? (p1.add 2)=some (vi v7)∧m_E_j5 p1 p2 p3 x1 (v7 != 0) w K) (m_E_j5 p1 p2 p3 x1 false w K))
def m_E_j6 (p1 p2:Addr) (r1:Bool) (p3:Addr) (x6:Bool) (w:World) (K:Bool→Bool→Bool→Bool→Int→Int→WP):Prop :=Br (!r1) (m_E_j1 p1 p2 p3 true w K) (m_E_j1 p1 p2 p3 x6 w K)
def m_E (aH aI:Int) (aJ aK:Int) (aL:ByteArray) (aM aN:Int) (w:World) (K:Bool→Bool→Bool→Bool→Int→Int→WP):Prop :=∀p1 w1,New w (.cells #[(vi aH),(vi aI),(vi aJ),(vu aK),(vs aL),(vi aM),(vi aN)] 103) p1 w1→∀p2 w2,New w1 (.cells #[(vb false),(vb false),(vb false),(vb false),(vi 0)] 170) p2 w2→∃v1,w2.cell? p1=some (vi v1)∧Calls prog 136 #[(vi v1)] w2 (fun e w3=>∃rfrom1 rto1 rnum1 rtext1 rkids1 r1,e=.returned (.tuple #[(Ak rfrom1 rto1 rnum1 rtext1 rkids1),(vb r1)])∧∀p3 w4,New w3 (.cells #[(vb false),(vb false),(vb false),(vb false),(vi 0)] 170) p3 w4→(∀j,j<5→zW w4 (p3.add j))∧∀w5,w5=storeRow w4 p3 (Ah rfrom1 rto1 rnum1 rtext1 rkids1)→Br (!r1) (m_E_j1 p1 p2 p3 true w5 K) (∃v8,w5.cell? p3=some (vb v8)∧Br (!v8) (∃v9,w5.cell? (p1.add 1)=some (vi v9)∧m_E_j6 p1 p2 r1 p3 (v9 != 0) w5 K) (m_E_j6 p1 p2 r1 p3 false w5 K)))
theorem w_E (aH aI aJ aK aL aM aN w K) (h:m_E aH aI aJ aK aL aM aN w K):
  Calls prog 108 #[(.agg #[(vi aH),(vi aI),(vi aJ),(vu aK),(vs aL),(vi aM),(vi aN)])] w (fun e w'=>∃rfrom2 rto2 rnum2 rtext2 rkids2 r2,e=.returned (.tuple #[(Ak rfrom2 rto2 rnum2 rtext2 rkids2),(vi r2)])∧K rfrom2 rto2 rnum2 rtext2 rkids2 r2 w'):=by
 refine cw (args:=[(Ae aH aI aJ aK aL aM aN)]) func108 ntmps108 (eg (sn (O:=(.cells #[(vi aH),(vi aI),(vi aJ),(vu aK),(vs aL),(vi aM),(vi aN)] 103)) xb ?_))
 intro p1 w1 hn8
 have h:=h p1 w1 hn8
 refine nw1 h (zH (zeroValue170 _) rfl) fun p2 w2 h=>q (ln (eg (q (ql (isAgg3 _) h fun v1 h=>sc call136 (h.mono fun e w3 ⟨rfrom1,rto1,rnum1,rtext1,rkids1,r1,k,h⟩=>⟨_,k,?_⟩)))))
 refine qc (nw1 h (zH (zeroValue170 _) rfl) fun p3 w4 h=>sro (sizeOf170 _) h fun w5 h=>q (ln (zA (eg (qc (zK 9 (fun ρ w=>∃x1,Has ρ [(1,(vp (some p1))),(2,(vp (some p2))),(4,(vp (some p3))),(23,(vb x1))]∧m_E_j1 p1 p2 p3 x1 w K) ?_ ?_))))))
 rintro ρ w ⟨x1,hH,h⟩
 refine zQ hH (q (zK 9 (fun ρ w=>∃x2,Has ρ [(1,(vp (some p1))),(2,(vp (some p2))),(4,(vp (some p3))),(33,(vb x2))]∧m_E_j2 p1 p2 p3 x2 w K) ?_ ?_))
 rintro ρ w ⟨x2,hH,h⟩
 refine zQ hH (q (zK 9 (fun ρ w=>∃x3,Has ρ [(1,(vp (some p1))),(2,(vp (some p2))),(4,(vp (some p3))),(43,(vb x3))]∧m_E_j3 p1 p2 p3 x3 w K) ?_ ?_))
 rintro ρ w ⟨x3,hH,h⟩
 refine zQ hH (q ?_)
 obtain ⟨hg1,h⟩|⟨hg1,h⟩:=h.br
 refine sj4 44 hg1 (sm (sm (sm (sj 44 hg1 (q2 (vb true) (xT hg1) (ln (yC (by kernel_rfl) (eg ?_))))))))
 obtain ⟨vfrom1,vto1,vnum1,vtext1,vkids1,hv2,h⟩:=h
 refine qa (isAgg170 _) (sizeOf170 _) hv2 (sro (sizeOf170 _) h fun w6 h=>q (ln (er (vA ?_))))
 obtain ⟨qfrom1,qto1,qnum1,qtext1,qkids1,hv1,h⟩:=h
 refine gg2 results108 (rva (isAgg170 _) (sizeOf170 _) hv1) (rvU (vi 53)) ⟨qfrom1,qto1,qnum1,qtext1,qkids1,53,rfl,h⟩
 refine qk 44 hg1 ?_
 obtain ⟨v2,hv10,h⟩:=h
 refine q4 44 hg1 (xl (isAgg4 _) hv10) (qk 44 hg1 (qk 44 hg1 ?_))
 obtain ⟨hg2,h⟩|⟨hg2,h⟩:=h.br
 refine qk 48 hg2 ?_
 obtain ⟨v3,hv7,h⟩:=h
 refine q4 48 hg2 (xl (isAgg9 _) hv7) (stq (v:=(vb (!(decide (v3=⟨#[]⟩))))) (wy 48 hg2) (xV (by kernel_rfl) (by kernel_rfl)) (stq (v:=(vb (!(decide (v3=⟨#[]⟩))))) (wy 44 hg1) (xT hg2) (q2 (vb (!(decide (v3=⟨#[]⟩)))) (xF hg1) (ln (cbr h ?_ ?_)))))<;>intro h
 refine eg ?_
 obtain ⟨vfrom2,vto2,vnum2,vtext2,vkids2,hv4,h⟩:=h
 refine qa (isAgg170 _) (sizeOf170 _) hv4 (sro (sizeOf170 _) h fun w7 h=>q (ln (er (vA ?_))))
 obtain ⟨qfrom2,qto2,qnum2,qtext2,qkids2,hv3,h⟩:=h
 refine gg2 results108 (rva (isAgg170 _) (sizeOf170 _) hv3) (rvU (vi 53)) ⟨qfrom2,qto2,qnum2,qtext2,qkids2,53,rfl,h⟩
 refine zD (zN (eg ?_))
 obtain ⟨vfrom3,vto3,vnum3,vtext3,vkids3,hv6,h⟩:=h
 refine qa (isAgg170 _) (sizeOf170 _) hv6 (sro (sizeOf170 _) h fun w8 h=>q (ln (er ?_)))
 obtain ⟨qfrom3,qto3,qnum3,qtext3,qkids3,hv5,h⟩:=h
 refine gg2 results108 (rva (isAgg170 _) (sizeOf170 _) hv5) (rvU (vi 0)) ⟨qfrom3,qto3,qnum3,qtext3,qkids3,0,rfl,h⟩
 refine sj3 48 hg2 (stq (v:=(vb false)) (wy 44 hg1) (xF hg2) (q2 (vb false) (xF hg1) (ln (uA (by kernel_rfl) (zD (zN (eg ?_)))))))
 obtain ⟨vfrom4,vto4,vnum4,vtext4,vkids4,hv9,h⟩:=h
 refine qa (isAgg170 _) (sizeOf170 _) hv9 (sro (sizeOf170 _) h fun w9 h=>q (ln (er ?_)))
 obtain ⟨qfrom4,qto4,qnum4,qtext4,qkids4,hv8,h⟩:=h
 refine gg2 results108 (rva (isAgg170 _) (sizeOf170 _) hv8) (rvU (vi 0)) ⟨qfrom4,qto4,qnum4,qtext4,qkids4,0,rfl,h⟩
 obtain ⟨hg3,h⟩|⟨hg3,h⟩:=h.br
 refine sj4 34 hg3 (sm (sm (sm (sj 34 hg3 (q2 (vb true) (xT hg3) (zC ⟨true,hm,h⟩))))))
 refine qk 34 hg3 ?_
 obtain ⟨v4,hv12,h⟩:=h
 refine q4 34 hg3 (xl (isAgg4 _) hv12) (qk 34 hg3 (qk 34 hg3 (zK 4 (fun ρ w=>∃x4,Has ρ [(1,(vp (some p1))),(2,(vp (some p2))),(4,(vp (some p3))),(34,(vb x2)),(42,(vb x4))]∧m_E_j4 p1 p2 p3 x2 x4 w K) ?_ ?_)))
 rintro ρ w ⟨x4,hH,h⟩
 refine zQ hH ?_
 obtain ⟨hg4,h⟩|⟨hg4,h⟩:=h.br
 refine q2 (vb true) (xT hg4) (zC ⟨true,hm,h⟩)
 refine q2 (vb x4) (xF hg4) (zC ⟨x4,hm,h⟩)
 obtain ⟨hg5,h⟩|⟨hg5,h⟩:=h.br
 refine qk 38 hg5 ?_
 obtain ⟨v5,hv11,h⟩:=h
 refine q4 38 hg5 (xl (isAgg26 _) hv11) (qk 38 hg5 (stq (v:=(vb (v5 != 0))) (wy 34 hg3) (xT hg5) (zC ⟨(v5 != 0),hm,h⟩)))
 refine sj3 38 hg5 (stq (v:=(vb false)) (wy 34 hg3) (xF hg5) (zC ⟨false,hm,h⟩))
 obtain ⟨hg6,h⟩|⟨hg6,h⟩:=h.br
 refine sj4 24 hg6 (sm (sm (sm (sj 24 hg6 (q2 (vb true) (xT hg6) (zC ⟨true,hm,h⟩))))))
 refine qk 24 hg6 ?_
 obtain ⟨v6,hv14,h⟩:=h
 refine q4 24 hg6 (xl (isAgg4 _) hv14) (qk 24 hg6 (qk 24 hg6 (zK 4 (fun ρ w=>∃x5,Has ρ [(1,(vp (some p1))),(2,(vp (some p2))),(4,(vp (some p3))),(24,(vb x1)),(32,(vb x5))]∧m_E_j5 p1 p2 p3 x1 x5 w K) ?_ ?_)))
 rintro ρ w ⟨x5,hH,h⟩
 refine zQ hH ?_
 obtain ⟨hg7,h⟩|⟨hg7,h⟩:=h.br
 refine q2 (vb true) (xT hg7) (zC ⟨true,hm,h⟩)
 refine q2 (vb x5) (xF hg7) (zC ⟨x5,hm,h⟩)
 obtain ⟨hg8,h⟩|⟨hg8,h⟩:=h.br
 refine qk 28 hg8 ?_
 obtain ⟨v7,hv13,h⟩:=h
 refine q4 28 hg8 (xl (isAgg3 _) hv13) (qk 28 hg8 (stq (v:=(vb (v7 != 0))) (wy 24 hg6) (xT hg8) (zC ⟨(v7 != 0),hm,h⟩)))
 refine sj3 28 hg8 (stq (v:=(vb false)) (wy 24 hg6) (xF hg8) (zC ⟨false,hm,h⟩))
 obtain ⟨hg9,h⟩|⟨hg9,h⟩:=h.br
 refine sj4 14 hg9 (sm (sm (sm (sj 14 hg9 (q2 (vb true) (xT hg9) (zC ⟨true,hm,h⟩))))))
 refine qk 14 hg9 ?_
 obtain ⟨v8,hv16,h⟩:=h
 refine q4 14 hg9 (xl (isAgg4 _) hv16) (qk 14 hg9 (qk 14 hg9 (zK 4 (fun ρ w=>∃x6,Has ρ [(1,(vp (some p1))),(2,(vp (some p2))),(4,(vp (some p3))),(14,(vb (!r1))),(22,(vb x6))]∧m_E_j6 p1 p2 r1 p3 x6 w K) ?_ ?_)))
 rintro ρ w ⟨x6,hH,h⟩
 refine zQ hH ?_
 obtain ⟨hg10,h⟩|⟨hg10,h⟩:=h.br
 refine q2 (vb true) (xT hg10) (zC ⟨true,hm,h⟩)
 refine q2 (vb x6) (xF hg10) (zC ⟨x6,hm,h⟩)
 obtain ⟨hg11,h⟩|⟨hg11,h⟩:=h.br
 refine qk 18 hg11 ?_
 obtain ⟨v9,hv15,h⟩:=h
 refine q4 18 hg11 (xl (isAgg3 _) hv15) (qk 18 hg11 (stq (v:=(vb (v9 != 0))) (wy 14 hg9) (xT hg11) (zC ⟨(v9 != 0),hm,h⟩)))
 refine sj3 18 hg11 (stq (v:=(vb false)) (wy 14 hg9) (xF hg11) (zC ⟨false,hm,h⟩))
def m_C1_j1 (p1 p2:Addr) (x1:Bool) (w:World) (K:Int→WP):Prop :=Br x1 (K 50 w) (∃v1,w.cell? (p1.add 1)=some (vb v1)∧Br v1 (∃v2,w.cell? (p2.add 2)=some (vi v2)∧Calls prog 152 #[(vi v2)] w (fun e w3=>∃r1,e=.returned (vb r1)∧Br (!r1) (K 50 w3) (∃v3,w3.cell? (p2.add 2)=some (vi v3)∧∃v4,w3.cell? (p2.add 1)=some (vi v4)∧Br (v3 == v4) (K 50 w3) (∃v5,w3.cell? (p2.add 4)=some (vs v5)∧Br (decide ((v5.size:Int)>64)) (K 1 w3) (K 0 w3))))) (∃v6,w.cell? (p2.add 4)=some (vs v6)∧Br (decide ((v6.size:Int)>64)) (K 1 w) (K 0 w)))
def m_C1 (sfrom1 sto1:Bool) (snum1 stext1:Bool) (skids1 aH:Int) (aI aJ aK:Int) (aL:ByteArray) (aM aN:Int) (w:World) (K:Int→WP):Prop :=∀p1 w1,New w (.cells #[(vb sfrom1),(vb sto1),(vb snum1),(vb stext1),(vi skids1)] 170) p1 w1→∀p2 w2,New w1 (.cells #[(vi aH),(vi aI),(vi aJ),(vu aK),(vs aL),(vi aM),(vi aN)] 103) p2 w2→∃v7,w2.cell? p1=some (vb v7)∧Br v7 (∃v8,w2.cell? (p2.add 1)=some (vi v8)∧Calls prog 152 #[(vi v8)] w2 (fun e w4=>∃r2,e=.returned (vb r2)∧m_C1_j1 p1 p2 (!r2) w4 K)) (m_C1_j1 p1 p2 false w2 K)
theorem w_C1 (sfrom1 sto1 snum1 stext1 skids1 aH aI aJ aK aL aM aN w K) (h:m_C1 sfrom1 sto1 snum1 stext1 skids1 aH aI aJ aK aL aM aN w K):
  Calls prog 109 #[(.agg #[(vb sfrom1),(vb sto1),(vb snum1),(vb stext1),(vi skids1)]),(.agg #[(vi aH),(vi aI),(vi aJ),(vu aK),(vs aL),(vi aM),(vi aN)])] w (fun e w'=>∃r3,e=.returned (vi r3)∧K r3 w'):=by
 refine cw (args:=[(Ak sfrom1 sto1 snum1 stext1 skids1),(Ae aH aI aJ aK aL aM aN)]) func109 ntmps109 (eg (sn (O:=(.cells #[(vb sfrom1),(vb sto1),(vb snum1),(vb stext1),(vi skids1)] 170)) xb ?_))
 intro p1 w1 hn2
 have h:=h p1 w1 hn2
 refine nw1 h xb fun p2 w2 h=>q (ln (zA (zL (zA (qG (fun ρ w=>∃x1,Has ρ [(2,(vp (some p1))),(3,(vp (some p2))),(5,(vb x1))]∧m_C1_j1 p1 p2 x1 w K) ?_ ?_)))))
 rintro ρ w ⟨x1,hH,h⟩
 refine zR hH (cbr' h (fun hc1 h=>?_) (fun hc1 h=>?_))
 refine zD (zN (jAI (t:=x1) (by kernel_rfl) hc1 (eg (q0 (vi 50) (ln (er (qU (vA (rs1 results109 ⟨50,rfl,h⟩)))))))))
 refine rg (q (ql (isAgg4 _) h fun v1 h=>q ?_))
 obtain ⟨hg1,h⟩|⟨hg1,h⟩:=h.br
 refine qk 16 hg1 ?_
 obtain ⟨v2,hv4,h⟩:=h
 refine q4 16 hg1 (xl (isAgg3 _) hv4) (vX (wy 16 hg1) (xc call152) (h.mono ?_))
 rintro e w3 ⟨r1,rfl,h⟩
 refine ⟨_,rfl,?_⟩
 refine qk 16 hg1 (qk 16 hg1 ?_)
 obtain ⟨hg2,h⟩|⟨hg2,h⟩:=h.br
 refine sj5 21 hg2 (stq (v:=(vb true)) (wy 16 hg1) (xT hg2) (q2 (vb true) (xT hg1) (q (ln (yC (by kernel_rfl) (zA (rg (q (ln (er (qU (vA (rs1 results109 ⟨50,rfl,h⟩)))))))))))))
 refine qk 21 hg2 ?_
 obtain ⟨v3,hv3,h⟩:=h
 refine q4 21 hg2 (xl (isAgg3 _) hv3) (qk 21 hg2 ?_)
 obtain ⟨v4,hv2,h⟩:=h
 refine q4 21 hg2 (xl (isAgg3 _) hv2) (qk 21 hg2 (stq (v:=(vb (v3 == v4))) (wy 16 hg1) (xF hg2) (q2 (vb (v3 == v4)) (xT hg1) (q (ln (cbr h ?_ ?_))))))<;>intro h
 refine eg (q (ln (er (qU (vA (rs1 results109 ⟨50,rfl,h⟩))))))
 refine eg (q (ql (isAgg9 _) h fun v5 h=>qc (ln (cbr h ?_ ?_))))<;>intro h
 refine eg (q (ln (er (qU (vA (rs1 results109 ⟨1,rfl,h⟩))))))
 refine zD (tG (zN (eg (q (ln (er (rs1 results109 ⟨0,rfl,h⟩)))))))
 refine sj5 16 hg1 (sm (sm (sm (sm (sm (sj 16 hg1 (q2 (vb false) (xF hg1) (q (ln (uA (by kernel_rfl) (eg (q0 (vp (some (p2.add 4))) (ql (isAgg9 _) h fun v6 h=>qc (ln (cbr h ?_ ?_)))))))))))))))<;>intro h
 refine eg (q (ln (er (qU (vA (rs1 results109 ⟨1,rfl,h⟩))))))
 refine zD (tG (zN (eg (q (ln (er (rs1 results109 ⟨0,rfl,h⟩)))))))
 refine rg (q (ql (isAgg4 _) h fun v7 h=>q ?_))
 obtain ⟨hg3,h⟩|⟨hg3,h⟩:=h.br
 refine qk 8 hg3 ?_
 obtain ⟨v8,hv7,h⟩:=h
 refine q4 8 hg3 (xl (isAgg3 _) hv7) (vX (wy 8 hg3) (xc call152) (h.mono ?_))
 rintro e w4 ⟨r2,rfl,h⟩
 refine ⟨_,rfl,?_⟩
 refine qk 8 hg3 (q2 (vb (!r2)) (xT hg3) (q (ln ⟨(!r2),hm,h⟩)))
 refine sj4 8 hg3 (q2 (vb false) (xF hg3) (q (ln ⟨false,hm,h⟩)))
def m_U_j1 (p1:Option Addr) (t1:Int) (x1:Bool) (w:World) (K:Bool→WP):Prop :=Br x1 (∃a1,p1=some a1∧∃v1:Sl,w.cell? a1=some v1.v∧K (decide (t1≤(v1.len:Int))) w) (K false w)
def m_U (p1:Option Addr) (t1:Int) (w:World) (K:Bool→WP):Prop :=Br (!(Option.isNone p1)) (m_U_j1 p1 t1 (decide (t1≥1)) w K) (m_U_j1 p1 t1 false w K)
theorem w_U (p1 t1 w K) (h:m_U p1 t1 w K):
  Calls prog 115 #[(vp p1),(vi t1)] w (fun e w'=>∃r1,e=.returned (vb r1)∧K r1 w'):=by
 refine cw (args:=[(vp p1),(vi t1)]) func115 ntmps115 (eg (q0 (vb false) (ln (eg (q0 (vp p1) (q2 (vb (!(Option.isNone p1))) (jRQ (by kernel_rfl) rfl underlying29) (q0 (vb (!(Option.isNone p1))) ?_)))))))
 refine zK 3 (fun ρ w=>∃x1,Has ρ [(0,(vp p1)),(1,(vi t1)),(10,(vb x1))]∧m_U_j1 p1 t1 x1 w K) ?_ ?_
 rintro ρ w ⟨x1,hH,h⟩
 refine zQ hH (q ?_)
 obtain ⟨hg1,h⟩|⟨hg1,h⟩:=h.br
 refine qk 11 hg1 (qk 11 hg1 ?_)
 obtain ⟨a1,hp1,h⟩:=h
 refine q4 11 hg1 (xn hp1) (qk 11 hg1 ?_)
 obtain ⟨v1,hv1,h⟩:=h
 refine q4 11 hg1 (xl (isAgg94 _) hv1) (qk 11 hg1 (qk 11 hg1 (q2 (vb (decide (t1≤(v1.len:Int)))) (xT hg1) (q (ln (er (rs1 results115 ⟨(decide (t1≤(v1.len:Int))),rfl,h⟩)))))))
 refine sj2 11 hg1 (sj5 11 hg1 (q2 (vb false) (xF hg1) (q (ln (er (rs1 results115 ⟨false,rfl,h⟩))))))
 obtain ⟨hg2,h⟩|⟨hg2,h⟩:=h.br
 refine qk 7 hg2 (qk 7 hg2 (q2 (vb (decide (t1≥1))) (xT hg2) (zC ⟨(decide (t1≥1)),hm,h⟩)))
 refine sj2 7 hg2 (q2 (vb false) (xF hg2) (zC ⟨false,hm,h⟩))
def m_R2 (kind1:Int) (w:World) (K:Bool→Bool→Bool→Bool→Int→Bool→WP):Prop :=∀p1 w1,New w (.cells #[(vb false),(vb false),(vb false),(vb false),(vi 0)] 170) p1 w1→Br (decide (kind1<1)) ((∀j,j<5→zW w1 (p1.add j))∧∀w2,w2=storeRow w1 p1 (Ah false false false false 0)→∃qfrom1 qto1 qnum1 qtext1 qkids1,Row w2 p1 (Ah qfrom1 qto1 qnum1 qtext1 qkids1)∧K qfrom1 qto1 qnum1 qtext1 qkids1 false w2) (Br (decide (kind1>9)) ((∀j,j<5→zW w1 (p1.add j))∧∀w3,w3=storeRow w1 p1 (Ah false false false false 0)→∃qfrom2 qto2 qnum2 qtext2 qkids2,Row w3 p1 (Ah qfrom2 qto2 qnum2 qtext2 qkids2)∧K qfrom2 qto2 qnum2 qtext2 qkids2 false w3) (Calls prog 180 #[] w1 (fun e w4=>∃r1:Array Value,e=.returned (.agg r1)∧∃efrom1 eto1 enum1 etext1 ekids1,(Instr.index 249 (.agg r1) (vi kind1)).run prog w4=.ok (.agg #[(vb efrom1),(vb eto1),(vb enum1),(vb etext1),(vi ekids1)]) w4∧(∀j,j<5→zW w4 (p1.add j))∧∀w5,w5=storeRow w4 p1 (Ah efrom1 eto1 enum1 etext1 ekids1)→∃qfrom3 qto3 qnum3 qtext3 qkids3,Row w5 p1 (Ah qfrom3 qto3 qnum3 qtext3 qkids3)∧K qfrom3 qto3 qnum3 qtext3 qkids3 true w5)))
theorem w_R2 (kind1 w K) (h:m_R2 kind1 w K):
  Calls prog 136 #[(vi kind1)] w (fun e w'=>∃rfrom1 rto1 rnum1 rtext1 rkids1 r2,e=.returned (.tuple #[(Ak rfrom1 rto1 rnum1 rtext1 rkids1),(vb r2)])∧K rfrom1 rto1 rnum1 rtext1 rkids1 r2 w'):=by
 refine cw (args:=[(vi kind1)]) func136 ntmps136 (eg (sn (O:=(.cells #[(vb false),(vb false),(vb false),(vb false),(vi 0)] 170)) (zH (zeroValue170 _) rfl) ?_))
 intro p1 w1 hn4
 have h:=h p1 w1 hn4
 refine q (ln (zA (eg (qc ?_))))
 obtain ⟨hg1,h⟩|⟨hg1,h⟩:=h.br
 refine sj2 6 hg1 (q2 (vb true) (xT hg1) (ln (yC (by kernel_rfl) (eg (q0 (Ak false false false false 0) (sro (sizeOf170 _) h fun w2 h=>q (ln (er (vA ?_)))))))))
 obtain ⟨qfrom1,qto1,qnum1,qtext1,qkids1,hv1,h⟩:=h
 refine gg2 results136 (rva (isAgg170 _) (sizeOf170 _) hv1) (rvU (vb false)) ⟨qfrom1,qto1,qnum1,qtext1,qkids1,false,rfl,h⟩
 refine qk 6 hg1 (qk 6 hg1 (q2 (vb (decide (kind1>9))) (xF hg1) (ln (cbr h ?_ ?_))))<;>intro h
 refine eg (q (sro (sizeOf170 _) h fun w3 h=>q (ln (er (vA ?_)))))
 obtain ⟨qfrom2,qto2,qnum2,qtext2,qkids2,hv2,h⟩:=h
 refine gg2 results136 (rva (isAgg170 _) (sizeOf170 _) hv2) (rvU (vb false)) ⟨qfrom2,qto2,qnum2,qtext2,qkids2,false,rfl,h⟩
 refine zD (zN (eg (sc call180 (h.mono fun e w4 ⟨r1,k,h⟩=>⟨_,k,?_⟩))))
 refine q ?_
 obtain ⟨efrom1,eto1,enum1,etext1,ekids1,hv4,h⟩:=h
 refine q2 (Ak efrom1 eto1 enum1 etext1 ekids1) (jCS (by kernel_rfl) (by kernel_rfl) hv4) (sro (sizeOf170 _) h fun w5 h=>q (ln (er ?_)))
 obtain ⟨qfrom3,qto3,qnum3,qtext3,qkids3,hv3,h⟩:=h
 refine gg2 results136 (rva (isAgg170 _) (sizeOf170 _) hv3) (rvU (vb true)) ⟨qfrom3,qto3,qnum3,qtext3,qkids3,true,rfl,h⟩
def m_F_l3 (p1:Option Addr) (s1:Sl) (size1 depth1 x1:Int) (wl1:World) (Kc3:Int→Int→Int→WP) (K:Int→Int→Int→WP):Prop :=Br (decide (x1<(s1.len:Int))) (∃a1:Addr,At s1 x1 1 a1∧∃v4,wl1.cell? a1=some (vi v4)∧Calls prog 115 #[(vp p1),(vi v4)] wl1 (fun e w6=>∃r2,e=.returned (vb r2)∧Br (!r2) (K 0 0 51 w6) (Calls prog 67 #[(vp p1),(vi v4)] w6 (fun e w7=>∃r3,e=.returned (vi r3)∧Calls prog 181 #[(vp p1),(vi v4)] w7 (fun e w8=>∃r4,e=.returned (vi r4)∧∃z1,(Builtin.max_ #[3,3] 3 #[(vi depth1),(vi r4)]).run prog w8=.ok (vi z1) w8∧Kc3 (q6.wrap (size1+r3)) z1 (q6.wrap (x1+1)) w8))))) (Br (decide (size1>4096)) (K 0 0 52 wl1) (Br (decide ((q6.wrap (depth1+1))>64)) (K 0 0 52 wl1) (K size1 (q6.wrap (depth1+1)) 0 wl1)))
def m_F_j2 (p1:Option Addr) (p2 p3:Addr) (e2:Int) (w:World) (K:Int→Int→Int→WP):Prop :=Br (e2 != 0) (K 0 0 e2 w) (∃v1,w.cell? (p2.add 5)=some (vi v1)∧∃v2,w.cell? (p2.add 6)=some (vi v2)∧∀p4 w5,New w (.cells #[(vi v1),(vi v2)] 23) p4 w5→∃v3,w5.cell? (p3.add 4)=some (vi v3)∧∃s1:Sl,(Instr.sliceAt 137 (Sl.mk (some p4) 2 2).v none (some (vi v3)) none).run prog w5=.ok s1.v w5∧∃(I1:Int→Int→Int→WP) (mu1:Int→Int→Int→World→Nat),I1 1 0 0 w5∧∀(size1 depth1 x1:Int) (wl1:World),I1 size1 depth1 x1 wl1→m_F_l3 p1 s1 size1 depth1 x1 wl1 (fun y'0 y'1 y'2 w'=>I1 y'0 y'1 y'2 w'∧mu1 y'0 y'1 y'2 w'<mu1 size1 depth1 x1 wl1) K)
def m_F_j1 (p1:Option Addr) (p2 p3:Addr) (e1:Int) (w:World) (K:Int→Int→Int→WP):Prop :=Br (e1 == 0) (∃vfrom1 vto1 vnum1 vtext1 vkids1,Row w p3 (Ah vfrom1 vto1 vnum1 vtext1 vkids1)∧∃aO aP aQ aR aS bX bY,Row w p2 (Ad aO aP aQ aR aS bX bY)∧Calls prog 109 #[(.agg #[(vb vfrom1),(vb vto1),(vb vnum1),(vb vtext1),(vi vkids1)]),(.agg #[(vi aO),(vi aP),(vi aQ),(vu aR),(vs aS),(vi bX),(vi bY)])] w (fun e w9=>∃r5,e=.returned (vi r5)∧m_F_j2 p1 p2 p3 r5 w9 K)) (m_F_j2 p1 p2 p3 e1 w K)
def m_F_j5 (p1:Option Addr) (p2:Addr) (r1:Int) (p3:Addr) (x2 x3:Bool) (w:World) (K:Int→Int→Int→WP):Prop :=Br (r1 == 0) (Br x2 (m_F_j1 p1 p2 p3 53 w K) (Br x3 (m_F_j1 p1 p2 p3 53 w K) (m_F_j1 p1 p2 p3 r1 w K))) (m_F_j1 p1 p2 p3 r1 w K)
def m_F_j4 (p1:Option Addr) (p2:Addr) (r1:Int) (p3:Addr) (x2:Bool) (w:World) (K:Int→Int→Int→WP):Prop :=Br (r1 == 0) (Br x2 (m_F_j1 p1 p2 p3 53 w K) (∃v6,w.cell? (p3.add 4)=some (vi v6)∧Br (decide (v6<2)) (∃v7,w.cell? (p2.add 6)=some (vi v7)∧m_F_j5 p1 p2 r1 p3 x2 (v7 != 0) w K) (m_F_j5 p1 p2 r1 p3 x2 false w K))) (m_F_j1 p1 p2 p3 r1 w K)
def m_F (p1:Option Addr) (aH aI:Int) (aJ aK:Int) (aL:ByteArray) (aM aN:Int) (w:World) (K:Int→Int→Int→WP):Prop :=∀p2 w1,New w (.cells #[(vi aH),(vi aI),(vi aJ),(vu aK),(vs aL),(vi aM),(vi aN)] 103) p2 w1→∃aA aB aC aD aE aF aG,Row w1 p2 (Ad aA aB aC aD aE aF aG)∧Calls prog 108 #[(.agg #[(vi aA),(vi aB),(vi aC),(vu aD),(vs aE),(vi aF),(vi aG)])] w1 (fun e w2=>∃rfrom1 rto1 rnum1 rtext1 rkids1 r1,e=.returned (.tuple #[(Ak rfrom1 rto1 rnum1 rtext1 rkids1),(vi r1)])∧∀p3 w3,New w2 (.cells #[(vb false),(vb false),(vb false),(vb false),(vi 0)] 170) p3 w3→(∀j,j<5→zW w3 (p3.add j))∧∀w4,w4=storeRow w3 p3 (Ah rfrom1 rto1 rnum1 rtext1 rkids1)→Br (r1 == 0) (∃v5,w4.cell? (p3.add 4)=some (vi v5)∧Br (decide (v5<1)) (∃v8,w4.cell? (p2.add 5)=some (vi v8)∧m_F_j4 p1 p2 r1 p3 (v8 != 0) w4 K) (m_F_j4 p1 p2 r1 p3 false w4 K)) (m_F_j1 p1 p2 p3 r1 w4 K))
theorem w_F (p1 aH aI aJ aK aL aM aN w K) (h:m_F p1 aH aI aJ aK aL aM aN w K):
  Calls prog 137 #[(vp p1),(.agg #[(vi aH),(vi aI),(vi aJ),(vu aK),(vs aL),(vi aM),(vi aN)])] w (fun e w'=>∃r6 r7 r8,e=.returned (.tuple #[(vi r6),(vi r7),(vi r8)])∧K r6 r7 r8 w'):=by
 refine cw (args:=[(vp p1),(Ae aH aI aJ aK aL aM aN)]) func137 ntmps137 (eg (sn (O:=(.cells #[(vi aH),(vi aI),(vi aJ),(vu aK),(vs aL),(vi aM),(vi aN)] 103)) xb ?_))
 intro p2 w1 hn4
 have h:=h p2 w1 hn4
 refine qc (ln (eg ?_))
 obtain ⟨aA,aB,aC,aD,aE,aF,aG,hv14,h⟩:=h
 refine qa (isAgg103 _) (sizeOf103 _) hv14 (sc call108 (h.mono fun e w2 ⟨rfrom1,rto1,rnum1,rtext1,rkids1,r1,k,h⟩=>⟨_,k,?_⟩))
 refine qc (nw1 h (zH (zeroValue170 _) rfl) fun p3 w3 h=>sro (sizeOf170 _) h fun w4 h=>q (ln (qG (fun ρ w=>∃e1,Has ρ [(0,(vp p1)),(3,(vp (some p2))),(7,(vp (some p3))),(8,(vi e1))]∧m_F_j1 p1 p2 p3 e1 w K) ?_ ?_)))
 rintro ρ w ⟨e1,hH,h⟩
 refine zR hH (qG (fun ρ w=>∃e2,Has ρ [(0,(vp p1)),(3,(vp (some p2))),(7,(vp (some p3))),(8,(vi e2))]∧m_F_j2 p1 p2 p3 e2 w K) ?_ ?_)
 rintro ρ w ⟨e2,hH,h⟩
 refine zR hH (zA (eg (qb (ln (cbr h ?_ ?_)))))<;>intro h
 refine eg (qd (ln (er (vA (jHY (.inl rfl) results137 (v:=(vi 0)) (by kernel_rfl) (v':=(vi 0)) (by kernel_rfl) (v'':=(vi e2)) (by kernel_rfl) ⟨0,0,e2,rfl,h⟩)))))
 refine zD (zN (eg (qb (ln (zA (eg (q (ql (isAgg23 _) h fun v1 h=>q (ql (isAgg23 _) h fun v2 h=>xI (O:=(.cells #[(vi v1),(vi v2)] 23)) (fun p=>(Sl.mk (some p) 2 2).v) (zJ rfl) (vI (vs:=#[(0,(vi v1)),(1,(vi v2))]) (by kernel_rfl) (by kernel_rfl)) ?_)))))))))
 intro p4 w5 hn2
 have h:=h p4 w5 hn2
 refine q (ql (isAgg3 _) h fun v3 h=>?_)
 obtain ⟨s1,hv4,h⟩:=h
 refine q2 s1.v (uJ (by kernel_rfl) (by kernel_rfl) (by kernel_rfl) (by kernel_rfl) hv4) (qb (ln (zL ?_)))
 obtain ⟨I1,mu1,h0,hr⟩:=h
 refine vR (σ:=Int×Int×Int×World) (fun s ρ w=>w=s.2.2.2∧Has ρ [(0,(vp p1)),(9,(vi s.1)),(10,(vi s.2.1)),(55,s1.v),(56,(vi (s1.len:Int))),(57,(vi s.2.2.1))]∧I1 s.1 s.2.1 s.2.2.1 s.2.2.2) (fun s=>mu1 s.1 s.2.1 s.2.2.1 s.2.2.2) (1,0,0,w5) ⟨rfl,hm,h0⟩ ?_
 rintro ⟨size1,depth1,x1,wl1⟩ ρ w ⟨hw,hH,hI⟩
 dsimp only at hw hH;subst w
 have h:=hr size1 depth1 x1 wl1 hI
 refine zR hH (eg (q (ln (zA (cbr h ?_ ?_)))))<;>intro h
 refine zD (zN (zA (zL (eg (qi (runUnderlying137 _) (sizeOf23 _) h fun a1 h=>ql (isAgg23 _) h fun v4 h=>q (ln (zA (eg (qb (sc call115 (h.mono fun e w6 ⟨r2,k,h⟩=>⟨_,k,?_⟩)))))))))))
 refine q (ln (cbr h ?_ ?_))<;>intro h
 refine eg (qc (ln (er (vA (qU (vA (vA (qU (vA (jHY (.inl rfl) results137 (v:=(vi 0)) (by kernel_rfl) (v':=(vi 0)) (by kernel_rfl) (v'':=(vi 51)) (by kernel_rfl) ⟨0,0,51,rfl,h⟩))))))))))
 refine zD (zN (eg (qc (sc call67 (h.mono fun e w7 ⟨r3,k,h⟩=>⟨_,k,?_⟩)))))
 refine qb (ln (rg (qc (sc call181 (h.mono fun e w8 ⟨r4,k,h⟩=>⟨_,k,?_⟩)))))
 obtain ⟨z1,hv1,h⟩:=h
 refine q2 (vi z1) (vL (args:=#[(vi depth1),(vi r4)]) (by kernel_rfl) (fun _=>rfl) hv1) (q (zC (tG (zN (rg (qb (ln ⟨((q6.wrap (size1+r3)),z1,(q6.wrap (x1+1)),w8),⟨rfl,hm,h.1⟩,h.2⟩)))))))
 refine vN (xH (xH (xB (zN (eg (q0 (vi depth1) (q0 (vi (q6.wrap (depth1+1))) (q0 (vi (q6.wrap (depth1+1))) (ln (zA (eg (qc ?_))))))))))))
 obtain ⟨hg1,h⟩|⟨hg1,h⟩:=h.br
 refine sj2 80 hg1 (q2 (vb true) (xT hg1) (ln (yC (by kernel_rfl) (eg (q0 (vi 0) (q0 (vi 0) (q0 (vi 52) (zC (zN (er (vA (jHY (.inl rfl) results137 (v:=(vi 0)) (by kernel_rfl) (v':=(vi 0)) (by kernel_rfl) (v'':=(vi 52)) (by kernel_rfl) ⟨0,0,52,rfl,h⟩))))))))))))
 refine qk 80 hg1 (qk 80 hg1 (q2 (vb (decide ((q6.wrap (depth1+1))>64))) (xF hg1) (ln (cbr h ?_ ?_))))<;>intro h
 refine eg (qc (ln (er (vA (jHY (.inl rfl) results137 (v:=(vi 0)) (by kernel_rfl) (v':=(vi 0)) (by kernel_rfl) (v'':=(vi 52)) (by kernel_rfl) ⟨0,0,52,rfl,h⟩)))))
 refine zD (zN (eg (q (qd (ln (er (jHY (.inl rfl) results137 (v:=(vi size1)) (by kernel_rfl) (v':=(vi (q6.wrap (depth1+1)))) (by kernel_rfl) (v'':=(vi 0)) (by kernel_rfl) ⟨size1,(q6.wrap (depth1+1)),0,rfl,h⟩)))))))
 refine eg (qb (ln (cbr h ?_ ?_)))<;>intro h
 refine rg ?_
 obtain ⟨vfrom1,vto1,vnum1,vtext1,vkids1,hv9,h⟩:=h
 refine qa (isAgg170 _) (sizeOf170 _) hv9 ?_
 obtain ⟨aO,aP,aQ,aR,aS,bX,bY,hv8,h⟩:=h
 refine qa (isAgg103 _) (sizeOf103 _) hv8 (sc call109 (h.mono fun e w9 ⟨r5,k,h⟩=>⟨_,k,?_⟩))
 refine q (ln ⟨r5,hm,h⟩)
 refine zD (zN ⟨e1,hm,h⟩)
 refine eg (qc ?_)
 obtain ⟨hg2,h⟩|⟨hg2,h⟩:=h.br
 refine qk 20 hg2 ?_
 obtain ⟨v5,hv13,h⟩:=h
 refine q4 20 hg2 (xl (isAgg3 _) hv13) (qk 20 hg2 (qk 20 hg2 (zK 4 (fun ρ w=>∃x2,Has ρ [(0,(vp p1)),(3,(vp (some p2))),(7,(vp (some p3))),(8,(vi r1)),(20,(vb (r1 == 0))),(28,(vb x2))]∧m_F_j4 p1 p2 r1 p3 x2 w K) ?_ ?_)))
 rintro ρ w ⟨x2,hH,h⟩
 refine zQ hH ?_
 obtain ⟨hg3,h⟩|⟨hg3,h⟩:=h.br
 refine qk 20 hg3 ?_
 obtain ⟨hg4,h⟩|⟨hg4,h⟩:=h.br
 refine sj4 29 hg4 (sm (sm (sm (sj 29 hg4 (stq (v:=(vb true)) (wy 20 hg3) (xT hg4) (q2 (vb true) (xT hg3) (ln (yC (by kernel_rfl) (rg (q0 (vi 53) (ln ⟨53,hm,h⟩)))))))))))
 refine qk 29 hg4 ?_
 obtain ⟨v6,hv11,h⟩:=h
 refine q4 29 hg4 (xl (isAgg3 _) hv11) (qk 29 hg4 (qk 29 hg4 (zK 4 (fun ρ w=>∃x3,Has ρ [(0,(vp p1)),(3,(vp (some p2))),(7,(vp (some p3))),(8,(vi r1)),(20,(vb (r1 == 0))),(29,(vb x2)),(37,(vb x3))]∧m_F_j5 p1 p2 r1 p3 x2 x3 w K) ?_ ?_)))
 rintro ρ w ⟨x3,hH,h⟩
 refine zQ hH ?_
 obtain ⟨hg5,h⟩|⟨hg5,h⟩:=h.br
 obtain ⟨hg6,h⟩|⟨hg6,h⟩:=h.br
 refine stq (v:=(vb true)) (wy 20 hg5) (xT hg6) (q2 (vb true) (xT hg5) (ln (yC (by kernel_rfl) (rg (q0 (vi 53) (ln ⟨53,hm,h⟩))))))
 refine stq (v:=(vb x3)) (wy 20 hg5) (xF hg6) (q2 (vb x3) (xT hg5) (ln (cbr h ?_ ?_)))<;>intro h
 refine rg (q (ln ⟨53,hm,h⟩))
 refine zD (zN ⟨r1,hm,h⟩)
 refine sj 20 hg5 (q2 (vb false) (xF hg5) (ln (uA (by kernel_rfl) (zD (zN ⟨r1,hm,h⟩)))))
 obtain ⟨hg7,h⟩|⟨hg7,h⟩:=h.br
 refine qk 33 hg7 ?_
 obtain ⟨v7,hv10,h⟩:=h
 refine q4 33 hg7 (xl (isAgg23 _) hv10) (qk 33 hg7 (stq (v:=(vb (v7 != 0))) (wy 29 hg4) (xT hg7) (zC ⟨(v7 != 0),hm,h⟩)))
 refine sj3 33 hg7 (stq (v:=(vb false)) (wy 29 hg4) (xF hg7) (zC ⟨false,hm,h⟩))
 refine sj 20 hg3 (sm (sm (sm (sm (sm (sm (sm (sm (sj 20 hg3 (q2 (vb false) (xF hg3) (zC (zN (uA (by kernel_rfl) (zD (zN ⟨r1,hm,h⟩)))))))))))))))
 obtain ⟨hg8,h⟩|⟨hg8,h⟩:=h.br
 refine qk 24 hg8 ?_
 obtain ⟨v8,hv12,h⟩:=h
 refine q4 24 hg8 (xl (isAgg23 _) hv12) (qk 24 hg8 (stq (v:=(vb (v8 != 0))) (wy 20 hg2) (xT hg8) (zC ⟨(v8 != 0),hm,h⟩)))
 refine sj3 24 hg8 (stq (v:=(vb false)) (wy 20 hg2) (xF hg8) (zC ⟨false,hm,h⟩))
 refine sj4 20 hg2 (sm (sm (sm (sj2 20 hg2 (sm (sm (sm (sm (sm (sm (sm (sm (sj 20 hg2 (q2 (vb false) (xF hg2) (ln (uA (by kernel_rfl) (zD (zN ⟨r1,hm,h⟩))))))))))))))))))
def m_S2 (p1:Option Addr) (t1:Int) (w:World) (K:Value→WP):Prop :=∀p2 w1,New w (.cells #[(vp p1)] 29) p2 w1→∀p3 w2,New w1 (.cells #[(vi t1)] 23) p3 w2→K (.func (.func 198) #[] #[(vp (some p2)),(vp (some p3))]) w2
theorem w_S2 (p1 t1 w K) (h:m_S2 p1 t1 w K):
  Calls prog 139 #[(vp p1),(vi t1)] w (fun e w'=>∃r1:Value,e=.returned r1∧K r1 w'):=by
 refine cw (args:=[(vp p1),(vi t1)]) func139 ntmps139 (eg (sn (O:=(.cells #[(vp p1)] 29)) xb ?_))
 intro p2 w1 hn2
 have h:=h p2 w1 hn2
 refine nw1 h xb fun p3 w2 h=>q (ln (eg (qb (ln (er (rs1 results139 ⟨(.func (.func 198) #[] #[(vp (some p2)),(vp (some p3))]),rfl,h⟩))))))
def m_T2 (n1:Int) (w:World) (K:Bool→WP):Prop :=Br (decide (n1≥0)) (K (decide (n1<16)) w) (K false w)
theorem w_T2 (n1 w K) (h:m_T2 n1 w K):
  Calls prog 152 #[(vi n1)] w (fun e w'=>∃r1,e=.returned (vb r1)∧K r1 w'):=by
 refine cw (args:=[(vi n1)]) func152 ntmps152 (eg (q0 (vb false) (ln (eg (q0 (vi n1) (q0 (vb (decide (n1≥0))) (q0 (vb (decide (n1≥0))) ?_)))))))
 obtain ⟨hg1,h⟩|⟨hg1,h⟩:=h.br
 refine qk 5 hg1 (qk 5 hg1 (q2 (vb (decide (n1<16))) (xT hg1) (q (ln (er (rs1 results152 ⟨(decide (n1<16)),rfl,h⟩))))))
 refine sj2 5 hg1 (q2 (vb false) (xF hg1) (q (ln (er (rs1 results152 ⟨false,rfl,h⟩)))))
def m_U2  (w:World) (K:(Array Value)→WP):Prop :=∀p1 w1,New w (.cells #[(vb false),(vb false),(vb false),(vb false),(vi 0),(vb false),(vb false),(vb false),(vb false),(vi 0),(vb false),(vb false),(vb false),(vb false),(vi 0),(vb false),(vb false),(vb false),(vb false),(vi 0),(vb false),(vb false),(vb false),(vb false),(vi 0),(vb false),(vb false),(vb false),(vb false),(vi 0),(vb false),(vb false),(vb false),(vb false),(vi 0),(vb false),(vb false),(vb false),(vb false),(vi 0),(vb false),(vb false),(vb false),(vb false),(vi 0),(vb false),(vb false),(vb false),(vb false),(vi 0)] 249) p1 w1→(∀j,j<50→zW w1 (p1.add j))∧∀w2,w2=storeRow w1 p1 (Al false false false false 0 true false false false 0 false false true false 0 false false false true 0 false false false false 2 false false false false 1 true false false false 0 true false false false 1 true true false false 1 true true false false 1)→∃q1:Array Value,(q1.size=50∧Row w2 p1 q1.toList)∧K q1 w2
theorem w_U2  (w:World) (K:(Array Value)→WP) (h:m_U2  w K) :
  Calls prog 180 #[] w (fun e w'=>∃r1:Array Value,e=.returned (.agg r1)∧K r1 w'):=by
 refine cw (args:=[]) func180 ntmps180 (eg (sn (O:=(.cells #[(vb false),(vb false),(vb false),(vb false),(vi 0),(vb false),(vb false),(vb false),(vb false),(vi 0),(vb false),(vb false),(vb false),(vb false),(vi 0),(vb false),(vb false),(vb false),(vb false),(vi 0),(vb false),(vb false),(vb false),(vb false),(vi 0),(vb false),(vb false),(vb false),(vb false),(vi 0),(vb false),(vb false),(vb false),(vb false),(vi 0),(vb false),(vb false),(vb false),(vb false),(vi 0),(vb false),(vb false),(vb false),(vb false),(vi 0),(vb false),(vb false),(vb false),(vb false),(vi 0)] 249)) (zH (zeroValue249 _) rfl) ?_))
 intro p1 w1 hn2
 have h:=h p1 w1 hn2
 refine ln (eg (qd (qd (qb (sro (sizeOf249 _) h fun w2 h=>ln (er ?_))))))
 obtain ⟨q1,hv1,h⟩:=h
 refine gg1 results180 (RV.cellAr (A:=p1) (vs:=q1) (by kernel_rfl) (isAgg249 _) (sizeOf249 _) hv1) ⟨q1,rfl,h⟩
def m_V2 (p1:Option Addr) (t1:Int) (w:World) (K:Int→WP):Prop :=Calls prog 115 #[(vp p1),(vi t1)] w (fun e w1=>∃r1,e=.returned (vb r1)∧Br (!r1) (K 0 w1) (∃a1,p1=some a1∧∃v1:Sl,w1.cell? a1=some v1.v∧∃a2:Addr,At v1 (q6.wrap (t1 - 1)) 9 a2∧∃v2,w1.cell? (a2.add 8)=some (vi v2)∧K v2 w1))
theorem w_V2 (p1 t1 w K) (h:m_V2 p1 t1 w K):
  Calls prog 181 #[(vp p1),(vi t1)] w (fun e w'=>∃r2,e=.returned (vi r2)∧K r2 w'):=by
 refine cw (args:=[(vp p1),(vi t1)]) func181 ntmps181 (eg (q0 (vi 0) (ln (zA (eg (q0 (vp p1) (q0 (vi t1) ?_)))))))
 refine sc call115 (h.mono fun e w1 ⟨r1,k,h⟩=>⟨_,k,?_⟩)
 refine q (ln (cbr h ?_ ?_))<;>intro h
 refine eg (q (ln (er (vA (rs1 results181 ⟨0,rfl,h⟩)))))
 refine zD (zN (eg (q (qm h fun a1 h=>q (ql (isAgg94 _) h fun v1 h=>qb (qi (runUnderlying94 _) (sizeOf177 _) h fun a2 h=>q (ql (isAgg3 _) h fun v2 h=>q (ln (er (rs1 results181 ⟨v2,rfl,h⟩))))))))))
def m_W2 (p1:Option Addr) (t1:Int) (w:World) (K:Sl→WP):Prop :=∀p2 w1,New w (.cells #[(vp p1)] 29) p2 w1→∀p3 w2,New w1 (.cells #[Sl.nil.v] 137) p3 w2→∀p4 w3,New w2 (.map #[] 0) p4 w3→∀p5 w4,New w3 (.cells #[(.map none)] 205) p5 w4→zW w4 p5∧∀w5,w5=w4.setCell p5 (.map (some p4.block))→∀p6 w6,New w5 (.cells #[(.nilFunc:Value)] 267) p6 w6→zW w6 p6∧∀w7,w7=w6.setCell p6 (.func (.func 231) #[] #[(vp (some p5)),(vp (some p2)),(vp (some p6)),(vp (some p3))])→∃v1,w7.cell? p2=some (vp v1)∧Calls prog 115 #[(vp v1),(vi t1)] w7 (fun e w8=>∃r1,e=.returned (vb r1)∧Br r1 (∃v2:Value,w8.cell? p6=some v2∧∃(f1:FuncId) (fs1 cs1:Array Value),v2=.func (.func f1) fs1 cs1∧(∀args w,(callFunc f1 args).run prog w=.ok (.enter f1 args) w)∧Calls prog f1 (fs1++#[(vi t1)]++cs1) w8 (fun e w9=>e=.returned (.tuple #[])∧∃v3:Sl,w9.cell? p3=some v3.v∧K v3 w9)) (∃v4:Sl,w8.cell? p3=some v4.v∧K v4 w8))
theorem w_W2 (p1 t1 w K) (h:m_W2 p1 t1 w K):
  Calls prog 199 #[(vp p1),(vi t1)] w (fun e w'=>∃r2:Sl,e=.returned r2.v∧K r2 w'):=by
 refine cw (args:=[(vp p1),(vi t1)]) func199 ntmps199 (eg (sn (O:=(.cells #[(vp p1)] 29)) xb ?_))
 intro p2 w1 hn7
 have h:=h p2 w1 hn7
 refine q (ln (eg (nw1 h (zH (zeroValue137 _) rfl) fun p3 w2 h=>ln (eg (nw4 (fun p=>.map (some p.block)) h fun p4 w3 h=>nw1 h (zH (zeroValue205 _) rfl) fun p5 w4 h=>st1 (sizeOf205 _) h fun w5 h=>ln (eg (nw1 h (zH (zeroValue267 _) rfl) fun p6 w6 h=>ln (eg (q (st1 (sizeOf267 _) h fun w7 h=>ln (zA (eg (ql (isAgg29 _) h fun v1 h=>q (sc call115 (h.mono fun e w8 ⟨r1,k,h⟩=>⟨_,k,?_⟩)))))))))))))))
 refine ln (cbr h ?_ ?_)<;>intro h
 refine rg (ql (isAgg267 _) h fun v2 h=>q ?_)
 obtain ⟨f1,fs1,cs1,hp3,h⟩:=h
 obtain ⟨hf1,h⟩:=h
 refine vX (zJ rfl) (jDZ (fs:=fs1) (caps:=cs1) (args:=#[(vi t1)]) (by kernel_rfl) hp3 hf1 (by kernel_rfl) rfl) (h.mono ?_)
 rintro e w9 ⟨rfl,h⟩
 refine ⟨_,rfl,?_⟩
 refine ln (eg (ql (isAgg137 _) h fun v3 h=>q (ln (er (rs1 results199 ⟨v3,rfl,h⟩)))))
 refine zD (zN (eg (ql (isAgg137 _) h fun v4 h=>q (ln (er (rs1 results199 ⟨v4,rfl,h⟩))))))
def m_X2 (p1:Option Addr) (aH aI:Int) (aJ aK:Int) (aL:ByteArray) (aM aN:Int) (w:World) (K:Int→Bool→WP):Prop :=∀p2 w1,New w (.cells #[(vi aH),(vi aI),(vi aJ),(vu aK),(vs aL),(vi aM),(vi aN)] 103) p2 w1→Br (Option.isNone p1) (K 0 false w1) (∀w2,w2=w1.drew→∃a1,p1=some a1∧∃v1:Option Nat,w2.cell? (a1.add 1)=some (.map v1)∧∃aA aB aC aD aE aF aG,Row w2 p2 (Ad aA aB aC aD aE aF aG)∧∃v2 ok1,(Instr.lookup 93 (.map v1) (.agg #[(vi aA),(vi aB),(vi aC),(vu aD),(vs aE),(vi aF),(vi aG)]) true).run prog w2=.ok (.tuple #[(vi v2),(vb ok1)]) w2∧K v2 ok1 w2)
theorem w_X2 (p1 aH aI aJ aK aL aM aN w K) (h:m_X2 p1 aH aI aJ aK aL aM aN w K):
  Calls prog 216 #[(vp p1),(.agg #[(vi aH),(vi aI),(vi aJ),(vu aK),(vs aL),(vi aM),(vi aN)])] w (fun e w'=>∃r1 r2,e=.returned (.tuple #[(vi r1),(vb r2)])∧K r1 r2 w'):=by
 refine cw (args:=[(vp p1),(Ae aH aI aJ aK aL aM aN)]) func216 ntmps216 (eg (sn (O:=(.cells #[(vi aH),(vi aI),(vi aJ),(vu aK),(vs aL),(vi aM),(vi aN)] 103)) xb ?_))
 intro p2 w1 hn1
 have h:=h p2 w1 hn1
 refine qb (ln (zA (eg (q (q2 (vb (Option.isNone p1)) (yY (by kernel_rfl) rfl underlying29) (ln (cbr h ?_ ?_)))))))<;>intro h
 refine eg (qb (ln (er (vA (tE (.inl rfl) results216 (v:=(vi 0)) (by kernel_rfl) (v':=(vb false)) (by kernel_rfl) ⟨0,false,rfl,h⟩)))))
 refine zD (zN (zA (qD (by kernel_rfl) (by kernel_rfl) (by kernel_rfl) (by kernel_rfl) ?_)))
 intro w2 hw2
 have h:=h w2 hw2
 refine qq 0 (vp p1) Kp0 (qg 1 ?_)
 obtain ⟨a1,hp1,h⟩:=h
 refine sxQ Kp1 (zJ rfl) rfl (xn hp1) (qq 2 (vp (some (a1.add 1))) Kp2 (qg 3 ?_))
 obtain ⟨v1,hv3,h⟩:=h
 refine sxQ Kp3 (zJ rfl) rfl (xl (isAgg93 _) hv3) (qg 4 ?_)
 obtain ⟨aA,aB,aC,aD,aE,aF,aG,hv2,h⟩:=h
 refine sxQ (v:=(Ae aA aB aC aD aE aF aG)) Kp4 (zJ rfl) rfl (xa p2 (Ad aA aB aC aD aE aF aG) (isAgg103 _) (sizeOf103 _) hv2) (qg 5 ?_)
 obtain ⟨v2,ok1,hv1,h⟩:=h
 refine sxQ (v:=(.tuple #[(vi v2),(vb ok1)])) Kp5 (zJ rfl) rfl (yZ (by kernel_rfl) (by kernel_rfl) hv1) (qq 6 (.tuple #[(vi v2),(vb ok1)]) Kp6 (qq 7 (vi v2) Kp7 (qq 8 (vb ok1) Kp8 (qq 9 (vi v2) Kp9 (qq 10 (vb ok1) (zG (S8 (zB (zB zF)))) (wn (zN (eg (qb (qb (ln (er (tE (.inl rfl) results216 (v:=(vi v2)) (by kernel_rfl) (v':=(vb ok1)) (by kernel_rfl) ⟨v2,ok1,rfl,h⟩)))))))))))))
def m_J1_l1 (t1:Int) (cap3 cap4:Addr) (r1:Sl) (x1:Int) (wl1:World) (Kc1:Int→WP) (K:WP):Prop :=Br (decide (x1<(r1.len:Int))) (∃a1:Addr,At r1 x1 1 a1∧∃v6,wl1.cell? a1=some (vi v6)∧∃v7:Value,wl1.cell? cap3=some v7∧∃(f1:FuncId) (fs1 cs1:Array Value),v7=.func (.func f1) fs1 cs1∧(∀args w,(callFunc f1 args).run prog w=.ok (.enter f1 args) w)∧Calls prog f1 (fs1++#[(vi v6)]++cs1) wl1 (fun e w3=>e=.returned (.tuple #[])∧Kc1 (q6.wrap (x1+1)) w3)) (∃v8:Sl,wl1.cell? cap4=some v8.v∧∀p1 w4,New wl1 (.cells #[(vi t1)] 23) p1 w4→∃s1:Sl,∃w5:World,(Builtin.append_ #[137,137] 137 #[v8.v,(Sl.mk (some p1) 1 1).v]).run prog w4=.ok s1.v w5∧zW w5 cap4∧∀w6,w6=w5.setCell cap4 s1.v→K w6)
def m_J1 (t1:Int) (cap1 cap2:Addr) (cap3 cap4:Addr) (w:World) (K:WP):Prop :=∃v1:Option Nat,w.cell? cap1=some (.map v1)∧∃v2,(Instr.lookup 205 (.map v1) (vi t1) false).run prog w=.ok (vi v2) w∧Br (decide (v2>0)) (K w) (∃v3:Option Nat,w.cell? cap1=some (.map v3)∧∃v4,(Instr.lookup 205 (.map v3) (vi t1) false).run prog w=.ok (vi v4) w∧∃w1:World,(Instr.mapUpdate 205 (.map v3) (vi t1) (vi (q6.wrap (v4+1)))).run prog w=.ok () w1∧∃v5,w1.cell? cap2=some (vp v5)∧Calls prog 84 #[(vp v5),(vi t1)] w1 (fun e w2=>∃r1:Sl,e=.returned r1.v∧∃(I1:Int→WP) (mu1:Int→World→Nat),I1 0 w2∧∀(x1:Int) (wl1:World),I1 x1 wl1→m_J1_l1 t1 cap3 cap4 r1 x1 wl1 (fun y'0 w'=>I1 y'0 w'∧mu1 y'0 w'<mu1 x1 wl1) K))
theorem w_J1 (t1 cap1 cap2 cap3 cap4 w K) (h:m_J1 t1 cap1 cap2 cap3 cap4 w K):
  Calls prog 231 #[(vi t1),(vp (some cap1)),(vp (some cap2)),(vp (some cap3)),(vp (some cap4))] w (fun e w'=>e=.returned (.tuple #[])∧K  w'):=by
 refine cw (args:=[(vi t1),(vp (some cap1)),(vp (some cap2)),(vp (some cap3)),(vp (some cap4))]) func231 ntmps231 (zA (eg ?_))
 refine ql (isAgg205 _) h fun v1 h=>q ?_
 obtain ⟨v2,hv10,h⟩:=h
 refine q2 (vi v2) (yZ (by kernel_rfl) (by kernel_rfl) hv10) (q (ln (cbr h ?_ ?_)))<;>intro h
 refine er (vA (jHZ (.inl rfl) results231 ⟨rfl,h⟩))
 refine zD (zN (eg (ql (isAgg205 _) h fun v3 h=>q ?_)))
 obtain ⟨v4,hv8,h⟩:=h
 refine q2 (vi v4) (yZ (by kernel_rfl) (by kernel_rfl) hv8) (q ?_)
 obtain ⟨w1,hv7,h⟩:=h
 refine yI (zJ rfl) (tP (by kernel_rfl) (by kernel_rfl) (by kernel_rfl) hv7) (ln (zA (eg (ql (isAgg29 _) h fun v5 h=>q (sc call84 (h.mono fun e w2 ⟨r1,k,h⟩=>⟨_,k,?_⟩))))))
 refine qb (ln (zL ?_))
 obtain ⟨I1,mu1,h0,hr⟩:=h
 refine vR (σ:=Int×World) (fun s ρ w=>w=s.2∧Has ρ [(0,(vi t1)),(3,(vp (some cap3))),(4,(vp (some cap4))),(18,r1.v),(19,(vi (r1.len:Int))),(20,(vi s.1))]∧I1 s.1 s.2) (fun s=>mu1 s.1 s.2) (0,w2) ⟨rfl,hm,h0⟩ ?_
 rintro ⟨x1,wl1⟩ ρ w ⟨hw,hH,hI⟩
 dsimp only at hw hH;subst w
 have h:=hr x1 wl1 hI
 refine zR hH (eg (q (ln (zA (cbr h ?_ ?_)))))<;>intro h
 refine zD (zN (zA (zL (eg (qi (runUnderlying137 _) (sizeOf23 _) h fun a1 h=>ql (isAgg23 _) h fun v6 h=>q (ln (rg (ql (isAgg267 _) h fun v7 h=>q ?_))))))))
 obtain ⟨f1,fs1,cs1,hp1,h⟩:=h
 obtain ⟨hf1,h⟩:=h
 refine vX (zJ rfl) (jDZ (fs:=fs1) (caps:=cs1) (args:=#[(vi v6)]) (by kernel_rfl) hp1 hf1 (by kernel_rfl) rfl) (h.mono ?_)
 rintro e w3 ⟨rfl,h⟩
 refine ⟨_,rfl,?_⟩
 refine zC (tG (zN (rg (qb (ln ⟨((q6.wrap (x1+1)),w3),⟨rfl,hm,h.1⟩,h.2⟩)))))
 refine vN (xH (xH (xB (zN (rg (ql (isAgg137 _) h fun v8 h=>q (xI (O:=(.cells #[(vi t1)] 23)) (fun p=>(Sl.mk (some p) 1 1).v) (zJ rfl) (vI (vs:=#[(0,(vi t1))]) (by kernel_rfl) (by kernel_rfl)) ?_)))))))
 intro p1 w4 hn2
 have h:=h p1 w4 hn2
 obtain ⟨s1,w5,hv4,h⟩:=h
 refine st (v:=s1.v) (zJ rfl) (vL (args:=#[v8.v,(Sl.mk (some p1) 1 1).v]) (by kernel_rfl) (fun _=>rfl) hv4) (st1 (sizeOf137 _) h fun w6 h=>zC (jHZ (.inr rfl) results231 ⟨rfl,h⟩))
end Go.Proofs
end
section
namespace Go.Sp
structure Node where
 kind:Int
 frm:Int
 to:Int
 num:Int
 text:ByteArray
 a:Int
 b:Int
deriving DecidableEq
structure Shape where
 frm:Bool
 to:Bool
 num:Bool
 text:Bool
 kids:Int
deriving DecidableEq
def noShape:Shape:=⟨false,false,false,false,0⟩
def shapeOf (k:Int):Shape :=
 if k=1 then ⟨true,false,false,false,0⟩ else if k=2 then ⟨false,false,true,false,0⟩ else if k=3 then ⟨false,false,false,true,0⟩
 else if k=4 then ⟨false,false,false,false,2⟩ else if k=5 then ⟨false,false,false,false,1⟩ else if k=6 then ⟨true,false,false,false,0⟩
 else if k=7 then ⟨true,false,false,false,1⟩ else if k=8 then ⟨true,true,false,false,1⟩ else if k=9 then ⟨true,true,false,false,1⟩ else noShape
def isKind (k:Int):Bool:=decide (1≤k) && decide (k≤9)
def xY (n:Int):Bool:=decide (0≤n) && decide (n<16)
def zZ (n:Node):Int :=
 let s:=shapeOf n.kind
 if !isKind n.kind || (!s.frm && n.frm != 0) || (!s.to && n.to != 0) || (!s.num && n.num != 0) || (!s.text && !decide (n.text=⟨#[]⟩)) then 53 else 0
def zX (s:Shape) (n:Node):Int :=
 if (s.frm && !xY n.frm) || (s.to && (!xY n.to || n.to == n.frm)) then 50 else if n.text.size>64 then 1 else 0
end Go.Sp
end
section
open Go Go.SE
namespace Go.Proofs
open Tryz
attribute [local irreducible] Calls
theorem jNA (n:Int) (w:World):Calls prog 152 #[.int .i64 n] w (fun e w'=>∃r,e=.returned (.bool r)∧(r=Sp.xY n∧w'=w)):=by
 refine w_T2 n w (fun r w'=>r=Sp.xY n∧w'=w) ?_;unfold m_T2;refine ⟨fun h=>⟨?_,rfl⟩,fun h=>⟨?_,rfl⟩⟩
 ·have:0≤n:=by simpa using h
  simp [Sp.xY,this]
 ·have:¬ 0≤n:=by simpa using h
  simp [Sp.xY,this]
theorem jNB (s1 s2 s3 s4:Bool) (s5 k f t u:Int) (x:ByteArray) (a b:Int) (w:World) :
  Calls prog 109 #[.agg #[.bool s1,.bool s2,.bool s3,.bool s4,.int .i64 s5],.agg #[.int .i64 k,.int .i64 f,.int .i64 t,.int .u64 u,.string x,.int .i64 a,.int .i64 b]] w
   (fun e w'=>∃r,e=.returned (.int .i64 r)∧(r=Sp.zX ⟨s1,s2,s3,s4,s5⟩ ⟨k,f,t,u,x,a,b⟩∧Pure w w')):=by
 refine w_C1 _ _ _ _ _ _ _ _ _ _ _ _ w (fun r w'=>r=Sp.zX ⟨s1,s2,s3,s4,s5⟩ ⟨k,f,t,u,x,a,b⟩∧Pure w w') ?_
 unfold m_C1
 intro p1 w1 h1 p2 w2 h2
 have b1:=(Box.of_new h1).pure (Ext.new h2)
 have b2:=Box.of_new h2
 have E:Pure w w2:=(Ext.new h1).trans (Ext.new h2)
 have J:∀c:Bool,c=(s1 && !Sp.xY f)→m_C1_j1 p1 p2 c w2 (fun r w'=>r=Sp.zX ⟨s1,s2,s3,s4,s5⟩ ⟨k,f,t,u,x,a,b⟩∧Pure w w'):=by
  intro c hc;unfold m_C1_j1;refine ⟨fun h=>⟨?_,E⟩,fun h=>⟨_,b1.cell rfl,fun h'=>⟨_,b2.cell rfl,?_⟩,fun h'=>⟨_,b2.cell rfl,fun h3=>⟨?_,E⟩,fun h3=>⟨?_,E⟩⟩⟩⟩
  ·rw [hc] at h;simp [Sp.zX,h]
  ·refine (jNA _ _).mono ?_;rintro _ _ ⟨r,rfl,rfl,rfl⟩;rw [hc] at h;refine ⟨_,rfl,fun h2=>⟨?_,E⟩,fun h2=>⟨_,b2.cell rfl,_,b2.cell rfl,fun h3=>⟨?_,E⟩,fun h3=>⟨_,b2.cell rfl,fun h4=>⟨?_,E⟩,fun h4=>⟨?_,E⟩⟩⟩⟩
   ·simp [Sp.zX,h',h2]
   ·simp [Sp.zX,h',h3]
   ·simp only [Sp.zX,h,h',h3];simp at h2 h4;simp [h2];omega
   ·simp only [Sp.zX,h,h',h3];simp at h2 h4;simp [h2];omega
  ·rw [hc] at h;simp only [Sp.zX,h,h'];simp at h3;simp;omega
  ·rw [hc] at h;simp only [Sp.zX,h,h'];simp at h3;simp;omega
 refine ⟨_,b1.cell0,fun h=>⟨_,b2.cell rfl,?_⟩,fun h=>J _ (by simp [h])⟩
 refine (jNA _ _).mono ?_
 rintro _ _ ⟨r,rfl,rfl,rfl⟩
 exact ⟨_,rfl,J _ (by simp [h])⟩
def jKR:Array Value:=#[.bool false,.bool false,.bool false,.bool false,.int .i64 0,.bool true,.bool false,.bool false,.bool false,.int .i64 0,.bool false,.bool false,.bool true,.bool false,.int .i64 0,.bool false,.bool false,.bool false,.bool true,.int .i64 0,.bool false,.bool false,.bool false,.bool false,.int .i64 2,.bool false,.bool false,.bool false,.bool false,.int .i64 1,.bool true,.bool false,.bool false,.bool false,.int .i64 0,.bool true,.bool false,.bool false,.bool false,.int .i64 1,.bool true,.bool true,.bool false,.bool false,.int .i64 1,.bool true,.bool true,.bool false,.bool false,.int .i64 1]
theorem jTF (w:World):Calls prog 180 #[] w (fun e w'=>∃r,e=.returned (.agg r)∧(r=jKR∧Pure w w')):=by
 refine w_U2 w (fun r w'=>r=jKR∧Pure w w') ?_;unfold m_U2;intro p1 w1 h1;have E1:Pure w w1:=Ext.new h1;have hp:=New.own (Ext.refl w) h1;have b1:=Box.of_newA h1;clear h1;refine bx 50 b1 (by kernel_rfl) (by kernel_rfl) (fun w' b E=>?_);refine ⟨jKR,⟨by kernel_rfl,b.row_eq (by kernel_rfl)⟩,rfl,E1.own hp E⟩
theorem jJU (k:Int) (w:World):Calls prog 136 #[.int .i64 k] w (fun e w'=>∃r1:Bool,∃r2:Bool,∃r3:Bool,∃r4:Bool,∃r5:Int,∃r:Bool,e=.returned (.tuple #[.agg #[.bool r1,.bool r2,.bool r3,.bool r4,.int .i64 r5],.bool r])∧(((⟨r1,r2,r3,r4,r5⟩:Sp.Shape)=Sp.shapeOf k∧r=Sp.isKind k)∧Pure w w')):=by
 refine w_R2 k w (fun r1 r2 r3 r4 r5 r w'=>((⟨r1,r2,r3,r4,r5⟩:Sp.Shape)=Sp.shapeOf k∧r=Sp.isKind k)∧Pure w w') ?_;unfold m_R2;intro p1 w1 h1;have E1:Pure w w1:=Ext.new h1;have b1:=Box.of_new h1;have hp:=New.own (Ext.refl w) h1;refine ⟨fun h=>bx 5 b1 rfl rfl (fun w' b E=>⟨_,_,_,_,_,b.row,⟨?_,?_⟩,E1.own hp E⟩),fun h=>⟨fun h2=>bx 5 b1 rfl rfl (fun w' b E=>⟨_,_,_,_,_,b.row,⟨?_,?_⟩,E1.own hp E⟩),fun h2=>?_⟩⟩
 ·have:k<1:=by simpa using h
  simp only [Sp.shapeOf,Sp.noShape];repeat rw [if_neg (by omega)]
 ·have:k<1:=by simpa using h
  simp [Sp.isKind];omega
 ·have:9<k:=by simpa using h2
  simp only [Sp.shapeOf,Sp.noShape];repeat rw [if_neg (by omega)]
 ·have:9<k:=by simpa using h2
  simp [Sp.isKind];omega
 ·have h3:¬ k<1:=by simpa using h
  have h4:¬ 9<k:=by simpa using h2
  refine (jTF _).mono ?_;rintro _ w4 ⟨_,rfl,rfl,E4⟩;refine ⟨_,rfl,?_⟩;have b4:=b1.pure E4;have E5:Pure w w4:=E1.trans E4;have hk:k=1∨k=2∨k=3∨k=4∨k=5∨k=6∨k=7∨k=8∨k=9:=by omega
  rcases hk with rfl | rfl | rfl | rfl | rfl | rfl | rfl | rfl | rfl
  ·exact ⟨true,false,false,false,0,by kernel_rfl,bx 5 b4 rfl rfl (fun w' b E=>⟨_,_,_,_,_,b.row,⟨by decide,by decide⟩,E5.own hp E⟩)⟩
  ·exact ⟨false,false,true,false,0,by kernel_rfl,bx 5 b4 rfl rfl (fun w' b E=>⟨_,_,_,_,_,b.row,⟨by decide,by decide⟩,E5.own hp E⟩)⟩
  ·exact ⟨false,false,false,true,0,by kernel_rfl,bx 5 b4 rfl rfl (fun w' b E=>⟨_,_,_,_,_,b.row,⟨by decide,by decide⟩,E5.own hp E⟩)⟩
  ·exact ⟨false,false,false,false,2,by kernel_rfl,bx 5 b4 rfl rfl (fun w' b E=>⟨_,_,_,_,_,b.row,⟨by decide,by decide⟩,E5.own hp E⟩)⟩
  ·exact ⟨false,false,false,false,1,by kernel_rfl,bx 5 b4 rfl rfl (fun w' b E=>⟨_,_,_,_,_,b.row,⟨by decide,by decide⟩,E5.own hp E⟩)⟩
  ·exact ⟨true,false,false,false,0,by kernel_rfl,bx 5 b4 rfl rfl (fun w' b E=>⟨_,_,_,_,_,b.row,⟨by decide,by decide⟩,E5.own hp E⟩)⟩
  ·exact ⟨true,false,false,false,1,by kernel_rfl,bx 5 b4 rfl rfl (fun w' b E=>⟨_,_,_,_,_,b.row,⟨by decide,by decide⟩,E5.own hp E⟩)⟩
  ·exact ⟨true,true,false,false,1,by kernel_rfl,bx 5 b4 rfl rfl (fun w' b E=>⟨_,_,_,_,_,b.row,⟨by decide,by decide⟩,E5.own hp E⟩)⟩
  ·exact ⟨true,true,false,false,1,by kernel_rfl,bx 5 b4 rfl rfl (fun w' b E=>⟨_,_,_,_,_,b.row,⟨by decide,by decide⟩,E5.own hp E⟩)⟩
theorem jRB (k f t u:Int) (x:ByteArray) (a b:Int) (w:World) :
  Calls prog 108 #[.agg #[.int .i64 k,.int .i64 f,.int .i64 t,.int .u64 u,.string x,.int .i64 a,.int .i64 b]] w
   (fun e w'=>∃r1:Bool,∃r2:Bool,∃r3:Bool,∃r4:Bool,∃r5:Int,∃r:Int,e=.returned (.tuple #[.agg #[.bool r1,.bool r2,.bool r3,.bool r4,.int .i64 r5],.int .i64 r])∧(((⟨r1,r2,r3,r4,r5⟩:Sp.Shape)=Sp.shapeOf k∧r=Sp.zZ ⟨k,f,t,u,x,a,b⟩)∧Pure w w')):=by
 suffices key:∀K:Bool→Bool→Bool→Bool→Int→Int→WP,(∀r1 r2 r3 r4 r5 r w',((⟨r1,r2,r3,r4,r5⟩:Sp.Shape)=Sp.shapeOf k∧r=Sp.zZ ⟨k,f,t,u,x,a,b⟩)∧Pure w w'→K r1 r2 r3 r4 r5 r w')→m_E k f t u x a b w K from
  w_E _ _ _ _ _ _ _ w _ (key _ (fun _ _ _ _ _ _ _ h=>h))
 intro K hK
 unfold m_E
 intro p1 w1 h1 p2 w2 h2
 have a1:=(Box.of_new h1).pure (Ext.new h2)
 have a2:=Box.of_new h2
 have E2:Pure w w2:=(Ext.new h1).trans (Ext.new h2)
 have o2:=New.own (Ext.new h1:Pure w w1) h2
 have n12:p1.block≠p2.block:=New.ne h2 (Box.of_new h1).blk
 refine ⟨_,a1.cell0,?_⟩
 refine (jJU _ _).mono ?_
 rintro _ w3 ⟨s1,s2,s3,s4,s5,ok,rfl,⟨hs,hok⟩,E3⟩
 refine ⟨_,_,_,_,_,_,rfl,?_⟩
 intro p3 w4 h3
 have E4:Pure w w4:=(E2.trans E3).trans (Ext.new h3)
 have o3:=New.own (E2.trans E3) h3
 have n13:p1.block≠p3.block:=New.ne h3 (a1.pure E3).blk
 have n23:p2.block≠p3.block:=New.ne h3 (a2.pure E3).blk
 refine bx 5 (Box.of_new h3) rfl rfl (fun w5 b3 E=>?_)
 have b1:=((a1.pure E3).pure (Ext.new h3)).ext E n13
 have b2:=((a2.pure E3).pure (Ext.new h3)).ext E n23
 have E5:=E4.own o3 E
 clear E E4 E3 E2 a1 a2 h1 h2 h3
 have fin : ∀ v : Int, v = Sp.zZ ⟨k, f, t, u, x, a, b⟩ → (∀ j, j < 5 → zW w5 (p2.add j)) ∧ ∀ w', w' = storeRow w5 p2 [.bool s1, .bool s2, .bool s3, .bool s4, .int .i64 s5] →
   ∃q1:Bool,∃q2:Bool,∃q3:Bool,∃q4:Bool,∃q5:Int,Row w' p2 [.bool q1,.bool q2,.bool q3,.bool q4,.int .i64 q5]∧K q1 q2 q3 q4 q5 v w':=fun v hv =>
  bx 5 b2 rfl rfl (fun w' b E=>⟨_,_,_,_,_,b.row,hK _ _ _ _ _ _ _ ⟨⟨hs,hv⟩,E5.own o2 E⟩⟩)
 obtain ⟨e1,e2,e3,e4,e5⟩:s1=(Sp.shapeOf k).frm∧s2=(Sp.shapeOf k).to∧s3=(Sp.shapeOf k).num∧s4=(Sp.shapeOf k).text∧s5=(Sp.shapeOf k).kids:=by rw [← hs];simp
 have J3:∀c:Bool,c=(!ok || (!s1 && f != 0) || (!s2 && t != 0) || (!s3 && u != 0))→m_E_j3 p1 p2 p3 c w5 K:=by
  intro c hc;unfold m_E_j3;refine ⟨fun h=>⟨_,_,_,_,_,b3.row,fin _ ?_⟩,fun h=>⟨_,b3.cell rfl,fun h4=>⟨_,b1.cell rfl,fun h5=>⟨_,_,_,_,_,b3.row,fin _ ?_⟩,fun h5=>⟨_,_,_,_,_,b3.row,fin _ ?_⟩⟩,fun h4=>⟨_,_,_,_,_,b3.row,fin _ ?_⟩⟩⟩
  ·rw [h] at hc;simp only [Sp.zZ,← e1,← e2,← e3,← e4,← hok,← hc];simp
  ·rw [h] at hc;simp only [Sp.zZ,← e1,← e2,← e3,← e4,← hok,← hc];simp at h4 h5;simp [h4,h5]
  ·rw [h] at hc;simp only [Sp.zZ,← e1,← e2,← e3,← e4,← hok,← hc];simp at h4 h5;simp [h4,h5]
  ·rw [h] at hc;simp only [Sp.zZ,← e1,← e2,← e3,← e4,← hok,← hc];simp at h4;simp [h4]
 have J2:∀c:Bool,c=(!ok || (!s1 && f != 0) || (!s2 && t != 0))→m_E_j2 p1 p2 p3 c w5 K:=by
  intro c hc;have J4:∀d:Bool,d=(!s3 && u != 0)→m_E_j4 p1 p2 p3 c d w5 K:=fun d hd=>⟨fun h=>J3 _ (by rw [← hc,h];rfl),fun h=>J3 _ (by rw [← hc,h];simpa using hd)⟩;exact ⟨fun h=>J3 _ (by rw [← hc,h];rfl),fun h=>⟨_,b3.cell rfl,fun h4=>⟨_,b1.cell rfl,J4 _ (by rw [h4];rfl)⟩,fun h4=>J4 _ (by rw [h4];rfl)⟩⟩
 have J1:∀c:Bool,c=(!ok || (!s1 && f != 0))→m_E_j1 p1 p2 p3 c w5 K:=by
  intro c hc;have J5:∀d:Bool,d=(!s2 && t != 0)→m_E_j5 p1 p2 p3 c d w5 K:=fun d hd=>⟨fun h=>J2 _ (by rw [← hc,h];rfl),fun h=>J2 _ (by rw [← hc,h];simpa using hd)⟩;exact ⟨fun h=>J2 _ (by rw [← hc,h];rfl),fun h=>⟨_,b3.cell rfl,fun h4=>⟨_,b1.cell rfl,J5 _ (by rw [h4];rfl)⟩,fun h4=>J5 _ (by rw [h4];rfl)⟩⟩
 have J6:∀d:Bool,d=(!s1 && f != 0)→m_E_j6 p1 p2 ok p3 d w5 K:=fun d hd=>⟨fun h=>J1 _ (by rw [h];rfl),fun h=>J1 _ (by rw [h];simpa using hd)⟩
 exact ⟨fun h=>J1 _ (by rw [h];rfl),fun h=>⟨_,b3.cell0,fun h4=>⟨_,b1.cell rfl,J6 _ (by rw [h4];rfl)⟩,fun h4=>J6 _ (by rw [h4];rfl)⟩⟩
end Go.Proofs
end
section
namespace Go.Sp
structure Ent where
 node:Node
 size:Int
 depth:Int
deriving DecidableEq
abbrev Pool:=List Ent
def inP (L:Pool) (t:Int):Bool:=decide (1≤t) && decide (t≤L.length)
def get (L:Pool) (t:Int):Option Ent:=if inP L t then L[(t - 1).toNat]? else none
def sizeOf (L:Pool) (t:Int):Int:=((get L t).map (·.size)).getD 0
def depthOf (L:Pool) (t:Int):Int:=((get L t).map (·.depth)).getD 0
def jDM:Node:=⟨0,0,0,0,⟨#[]⟩,0,0⟩
def nodeOf (L:Pool) (t:Int):Node:=((get L t).map (·.node)).getD jDM
def zM (n:Node):List Int:=[n.a,n.b].take (shapeOf n.kind).kids.toNat
def check (L:Pool) (n:Node):Int×Int×Int :=
 let s:=shapeOf n.kind
 if zZ n≠0 then (0,0,zZ n)
 else if (decide (s.kids<1) && n.a != 0) || (decide (s.kids<2) && n.b != 0) then (0,0,53)
 else if zX s n≠0 then (0,0,zX s n)
 else if (zM n).any (fun t=>!inP L t) then (0,0,51)
 else
  let sz:=1+((zM n).map (sizeOf L)).sum
  let d:=(zM n).foldl (fun d t=>max d (depthOf L t)) 0+1
  if sz>4096∨d>64 then (0,0,52) else (sz,d,0)
def find (L:Pool) (n:Node):Option Nat:=L.findIdx? (fun e=>e.node=n)
def make (L:Pool) (n:Node):Int×Int×Pool :=
 let c:=check L n
 if c.2.2≠0 then (0,c.2.2,L)
 else match find L n with
  | some i=>(i+1,0,L)
  | none=>if 65536≤L.length then (0,6,L) else (L.length+1,0,L++[⟨n,c.1,c.2.1⟩])
structure Ok (L:Pool):Prop where
 few:L.length≤65536
 nodup:(L.map (·.node)).Nodup
 size:∀e∈L,1≤e.size∧e.size≤4096
 depth:∀e∈L,1≤e.depth∧e.depth≤64
theorem vF {L:Pool} {t:Int}:inP L t=true↔1≤t∧t≤L.length:=by simp [inP]
theorem jCM {L:Pool} {t:Int} (h:inP L t=true):∃e,get L t=some e∧e∈L∧∃hi:(t - 1).toNat<L.length,L[(t - 1).toNat]=e:=by
 obtain ⟨h1,h2⟩:=vF.1 h;have hi:(t - 1).toNat<L.length:=by omega
 exact ⟨L[(t - 1).toNat],by simp [get,h],List.getElem_mem hi,hi,rfl⟩
theorem uN {L:Pool} {t:Int} (h:inP L t=false):get L t=none:=by simp [get,h]
theorem Ok.sizeOf {L:Pool} (h:Ok L) (t:Int):0≤sizeOf L t∧sizeOf L t≤4096:=by
 cases ht:inP L t with
 | true=>obtain ⟨e,he,hm,_⟩:=jCM ht;have:=h.size e hm;simp [Sp.sizeOf,he];omega
 | false=>simp [Sp.sizeOf,uN ht]
theorem Ok.depthOf {L:Pool} (h:Ok L) (t:Int):0≤depthOf L t∧depthOf L t≤64:=by
 cases ht:inP L t with
 | true=>obtain ⟨e,he,hm,_⟩:=jCM ht;have:=h.depth e hm;simp [Sp.depthOf,he];omega
 | false=>simp [Sp.depthOf,uN ht]
theorem Ok.nil:Ok []:=⟨by simp,by simp,by simp,by simp⟩
theorem uL (k:Int):(shapeOf k).kids=0∨(shapeOf k).kids=1∨(shapeOf k).kids=2:=by
 unfold shapeOf noShape;repeat' split
 all_goals simp
end Go.Sp
end
section
open Go Go.SE
namespace Go.Proofs
open Tryz
attribute [local irreducible] Calls
def tF (n:Sp.Node):List Value:=[.int .i64 n.kind,.int .i64 n.frm,.int .i64 n.to,.int .u64 n.num,.string n.text,.int .i64 n.a,.int .i64 n.b]
def jOP (e:Sp.Ent):List Value:=tF e.node++[.int .i64 e.size,.int .i64 e.depth]
def jDW (n:Sp.Node):Value:=.agg (tF n).toArray
def tV (L:Sp.Pool):List (Value×Value):=L.zipIdx.map fun p=>(jDW p.1.node,.int .i64 (p.2+1:Nat))
structure PoolS (w:World) (p:Addr) (L:Sp.Pool) (s:Sl) (m:Nat):Prop where
 box:Box w p [s.v,.map (some m)] 96
 rows:Rws w 177 9 s (L.map jOP)
 map:CMap w m (tV L)
 n1:m≠p.block
 n2:¬ s.blk p.block
 n3:¬ s.blk m
def zT (w:World) (p:Addr) (L:Sp.Pool) (F:NP):Prop:=∃s m,PoolS w p L s m∧∀b,F b↔(b=p.block∨s.blk b∨b=m)
theorem zT.ext {G:NP} {w w':World} {p:Addr} {L:Sp.Pool} {F:NP} (h:zT w p L F) (hE:Ext G w w') (hd:∀b,F b→¬ G b):zT w' p L F:=by
 obtain ⟨s,m,h,hF⟩:=h;exact ⟨s,m,⟨h.box.ext hE (hd _ ((hF _).2 (.inl rfl))),h.rows.ext hE (fun b hb=>hd _ ((hF _).2 (.inr (.inl hb)))),h.map.ext hE (hd _ ((hF _).2 (.inr (.inr rfl)))),h.n1,h.n2,h.n3⟩,hF⟩
theorem zT.pure {w w':World} {p:Addr} {L:Sp.Pool} {F:NP} (h:zT w p L F) (hE:Pure w w'):zT w' p L F:=h.ext hE (fun _ _ h=>h)
theorem zT.lt {w:World} {p:Addr} {L:Sp.Pool} {F:NP} (h:zT w p L F) {b:Nat} (hb:F b):b<w.heap.size:=by
 obtain ⟨s,m,h,hF⟩:=h;rcases (hF b).1 hb with rfl | hb | rfl
 ·exact h.box.lt
 ·exact h.rows.lt hb
 ·exact h.map.lt
theorem i64 {n:Int} (h:-9223372036854775808≤n) (h':n≤9223372036854775807):IntKind.i64.wrap n=n:=IntWalk.i64_in n ⟨h,h'⟩
theorem c_in (p:Addr) (t:Int) (w:World) {L:Sp.Pool} {F:NP} (hP:zT w p L F):Calls prog 115 #[.pointer (some p),.int .i64 t] w (fun e w'=>∃r,e=.returned (.bool r)∧(r=Sp.inP L t∧w=w')):=by
 obtain ⟨s,m,h,_⟩:=hP;refine w_U (some p) t w (fun r w'=>r=Sp.inP L t∧w=w') ?_;unfold m_U;have hl:(s.len:Int)=L.length:=by rw [h.rows.len];simp
 refine Br.t rfl ⟨fun h1=>⟨p,rfl,s,h.box.cell0,?_,rfl⟩,fun h1=>⟨?_,rfl⟩⟩
 ·have:1≤t:=by simpa using h1
  simp [Sp.inP,hl,this]
 ·have:¬ 1≤t:=by simpa using h1
  simp [Sp.inP,this]
theorem PoolS.at {w:World} {p:Addr} {L:Sp.Pool} {s:Sl} {m:Nat} (h:PoolS w p L s m) {t:Int} (ht:Sp.inP L t=true) (hok:Sp.Ok L):∃a e,At s (IntKind.i64.wrap (t - 1)) 9 a∧Row w a (jOP e)∧s.blk a.block∧Sp.get L t=some e:=by
 obtain ⟨h1,h2⟩:=Sp.vF.1 ht;obtain ⟨e,hg,_,hi,he⟩:=Sp.jCM ht;have:=hok.few;rw [i64 (by omega) (by omega)];obtain ⟨a,hat,hr,hb⟩:=h.rows.at (i:=t - 1) (by omega) (by simpa using hi);exact ⟨a,e,hat,(by rw [List.getElem_map,he] at hr;exact hr),hb,hg⟩
theorem jTZ (p:Addr) (t:Int) (w:World) {L:Sp.Pool} {F:NP} (hP:zT w p L F) (hok:Sp.Ok L):Calls prog 67 #[.pointer (some p),.int .i64 t] w (fun e w'=>∃r,e=.returned (.int .i64 r)∧(r=Sp.sizeOf L t∧w=w')):=by
 refine w_O2 (some p) t w (fun r w'=>r=Sp.sizeOf L t∧w=w') ?_;unfold m_O2;refine (c_in p t w hP).mono ?_;rintro _ _ ⟨_,rfl,rfl,rfl⟩;obtain ⟨s,m,h,_⟩:=hP;refine ⟨_,rfl,fun h1=>⟨?_,rfl⟩,fun h1=>?_⟩
 ·simp [Sp.sizeOf,Sp.uN (show Sp.inP L t=false by simpa using h1)]
 ·obtain ⟨a,e,hat,hr,_,hg⟩:=h.at (show Sp.inP L t=true by simpa using h1) hok;exact ⟨p,rfl,s,h.box.cell0,a,hat,e.size,hr 7 (by simp [jOP,tF]),by simp [Sp.sizeOf,hg],rfl⟩
theorem jVQ (p:Addr) (t:Int) (w:World) {L:Sp.Pool} {F:NP} (hP:zT w p L F) (hok:Sp.Ok L):Calls prog 181 #[.pointer (some p),.int .i64 t] w (fun e w'=>∃r,e=.returned (.int .i64 r)∧(r=Sp.depthOf L t∧w=w')):=by
 refine w_V2 (some p) t w (fun r w'=>r=Sp.depthOf L t∧w=w') ?_;unfold m_V2;refine (c_in p t w hP).mono ?_;rintro _ _ ⟨_,rfl,rfl,rfl⟩;obtain ⟨s,m,h,_⟩:=hP;refine ⟨_,rfl,fun h1=>⟨?_,rfl⟩,fun h1=>?_⟩
 ·simp [Sp.depthOf,Sp.uN (show Sp.inP L t=false by simpa using h1)]
 ·obtain ⟨a,e,hat,hr,_,hg⟩:=h.at (show Sp.inP L t=true by simpa using h1) hok;exact ⟨p,rfl,s,h.box.cell0,a,hat,e.depth,hr 8 (by simp [jOP,tF]),by simp [Sp.depthOf,hg],rfl⟩
theorem jKF (p:Addr) (t:Int) (w:World) {L:Sp.Pool} {F:NP} (hP:zT w p L F) (hok:Sp.Ok L):Calls prog 61 #[.pointer (some p),.int .i64 t] w
  (fun e w'=>∃k:Int,∃f:Int,∃t':Int,∃u:Int,∃x:ByteArray,∃a:Int,∃b:Int,∃r:Bool,e=.returned (.tuple #[.agg #[.int .i64 k,.int .i64 f,.int .i64 t',.int .u64 u,.string x,.int .i64 a,.int .i64 b],.bool r])∧(((⟨k,f,t',u,x,a,b⟩:Sp.Node)=Sp.nodeOf L t∧r=Sp.inP L t)∧Pure w w')):=by
 refine w_W1 (some p) t w (fun k f t' u x a b r w'=>((⟨k,f,t',u,x,a,b⟩:Sp.Node)=Sp.nodeOf L t∧r=Sp.inP L t)∧Pure w w') ?_
 unfold m_W1
 intro p1 w1 h1
 have E1:Pure w w1:=Ext.new h1
 have b1:=Box.of_new h1
 have hp:=New.own (Ext.refl w) h1
 refine (c_in p t w1 (hP.pure E1)).mono ?_
 rintro _ _ ⟨_,rfl,rfl,rfl⟩
 obtain ⟨s,m,h,_⟩:=hP.pure E1
 refine ⟨_,rfl,fun h1=>bx 7 b1 rfl rfl (fun w' b E=>⟨_,_,_,_,_,_,_,b.row,⟨?_,?_⟩,E1.own hp E⟩),fun h1=>?_⟩
 ·simp [Sp.nodeOf,Sp.uN (show Sp.inP L t=false by simpa using h1),Sp.jDM]
 ·symm;simpa using h1
 ·have ht:Sp.inP L t=true:=by simpa using h1
  obtain ⟨a,e,hat,hr,_,hg⟩:=h.at ht hok
  have hn:Row w1 a (tF e.node):=fun i hi=>by
   have:=hr i (by simp [jOP];omega);rw [this];unfold jOP;rw [List.getElem?_append_left hi]
  exact ⟨p,rfl,s,h.box.cell0,a,hat,_,_,_,_,_,_,_,hn,bx 7 b1 rfl rfl (fun w' b E=>⟨_,_,_,_,_,_,_,b.row,⟨by simp [Sp.nodeOf,hg],ht.symm⟩,E1.own hp E⟩)⟩
theorem jMI (p:Addr) (k:Int) (w:World) (hk:k=0∨k=1∨k=2):(Instr.sliceAt 137 (Sl.mk (some p) 2 2).v .none (some (.int .i64 k)) .none).run prog w=.ok (Sl.mk (some p) k.toNat 2).v w:=by
 rcases hk with rfl | rfl | rfl <;> kernel_rfl
theorem jVP (p:Addr) (k f t u:Int) (x:ByteArray) (a b:Int) (w:World) {L:Sp.Pool} {F:NP} (hP:zT w p L F) (hok:Sp.Ok L) :
  Calls prog 137 #[.pointer (some p),.agg #[.int .i64 k,.int .i64 f,.int .i64 t,.int .u64 u,.string x,.int .i64 a,.int .i64 b]] w
   (fun e w'=>∃r1:Int,∃r2:Int,∃r3:Int,e=.returned (.tuple #[.int .i64 r1,.int .i64 r2,.int .i64 r3])∧((r1,r2,r3)=Sp.check L ⟨k,f,t,u,x,a,b⟩∧Pure w w')):=by
 suffices key:∀K:Int→Int→Int→WP,(∀r1 r2 r3 w',(r1,r2,r3)=Sp.check L ⟨k,f,t,u,x,a,b⟩∧Pure w w'→K r1 r2 r3 w')→m_F (some p) k f t u x a b w K from
  w_F _ _ _ _ _ _ _ _ w _ (key _ (fun _ _ _ _ h=>h))
 intro K hK
 unfold m_F
 intro p2 w1 h1
 have b1:=Box.of_new h1
 have E1:Pure w w1:=Ext.new h1
 refine ⟨_,_,_,_,_,_,_,b1.row,?_⟩
 refine (jRB _ _ _ _ _ _ _ _).mono ?_
 rintro _ w2 ⟨s1,s2,s3,s4,s5,pe,rfl,⟨hs,hpe⟩,E2⟩
 refine ⟨_,_,_,_,_,_,rfl,?_⟩
 intro p3 w3 h3
 have b2:=(b1.pure E2).pure (Ext.new h3)
 have n23:p2.block≠p3.block:=New.ne h3 (b1.pure E2).blk
 have E3:Pure w w3:=(E1.trans E2).trans (Ext.new h3)
 have o3:=New.own (E1.trans E2) h3
 refine bx 5 (Box.of_new h3) rfl rfl (fun w4 b3 E=>?_)
 have b2:=b2.ext E n23
 have E4:Pure w w4:=E3.own o3 E
 clear E E3 E2 E1 b1 h1 h3
 have hsh:Sp.shapeOf k=⟨s1,s2,s3,s4,s5⟩:=hs.symm
 have hk5:s5=0∨s5=1∨s5=2:=by have:=Sp.uL k;rw [hsh] at this;exact this
 generalize hn:(⟨k,f,t,u,x,a,b⟩:Sp.Node)=n at *
 have hnk:n.kind=k:=by rw [← hn]
 have hna:n.a=a:=by rw [← hn]
 have hnb:n.b=b:=by rw [← hn]
 have J2:∀e2 w',Pure w4 w'→(e2≠0→Sp.check L n=(0,0,e2))→(e2=0→pe=0∧((decide (s5<1) && a != 0) || (decide (s5<2) && b != 0))=false∧Sp.zX ⟨s1,s2,s3,s4,s5⟩ n=0)→m_F_j2 (some p) p2 p3 e2 w' K:=by
  intro e2 w' E' hne heq;have b2:=b2.pure E';have b3:=b3.pure E';have E5:=E4.trans E';have hP':=hP.pure E5;unfold m_F_j2;refine ⟨fun h=>hK _ _ _ _ ⟨(hne (by simpa using h)).symm,E5⟩,fun h=>⟨_,b2.cell rfl,_,b2.cell rfl,?_⟩⟩;intro p4 w5 h5;obtain ⟨hp0,hc0,hf0⟩:=heq (by simpa using h);have b4:=Box.of_new h5;have E6:=E5.trans (Ext.new h5);have hP6:=hP.pure E6;refine ⟨_,(b3.pure (Ext.new h5)).cell rfl,_,jMI p4 s5 w5 hk5,?_⟩;have hks:Sp.zM n=[a,b].take s5.toNat:=by simp [Sp.zM,hnk,hsh,hna,hnb]
  have hlen:(Sp.zM n).length=s5.toNat:=by rw [hks];rcases hk5 with rfl | rfl | rfl <;> rfl
  have hget:∀j (hj:j<(Sp.zM n).length),w5.cell? (p4.add (j*1))=some (.int .i64 (Sp.zM n)[j]):=by
   intro j hj;have hj2:j<s5.toNat:=by omega
   have:(Sp.zM n)[j]=[a,b][j]'(by simp;omega):=by simp only [hks,List.getElem_take]
   rw [this,Nat.mul_one];refine b4.cell ?_;have h2:j=0∨j=1:=by omega
   rcases h2 with rfl | rfl <;> rfl
  have hrest:Sp.check L n=if (Sp.zM n).any (fun t=>!Sp.inP L t) then (0,0,51) else if 1+((Sp.zM n).map (Sp.sizeOf L)).sum>4096∨(Sp.zM n).foldl (fun d t=>max d (Sp.depthOf L t)) 0+1>64 then (0,0,52) else (1+((Sp.zM n).map (Sp.sizeOf L)).sum,(Sp.zM n).foldl (fun d t=>max d (Sp.depthOf L t)) 0+1,0):=by
   unfold Sp.check;simp only [hnk,hsh,hna,hnb,← hpe,hp0,hc0,hf0];simp
  generalize hkk:Sp.zM n=ks at *;have hl2:ks.length≤2:=by omega
  have hsum:∀j,0≤((ks.take j).map (Sp.sizeOf L)).sum∧((ks.take j).map (Sp.sizeOf L)).sum≤4096*(ks.take j).length:=by
   intro j;generalize ks.take j=l;induction l with
   | nil=>simp
   | cons y l ih=>have:=hok.sizeOf y;simp only [List.map_cons,List.sum_cons,List.length_cons];omega
  have hdep:∀(l:List Int) (d:Int),0≤d→d≤64→0≤l.foldl (fun d t=>max d (Sp.depthOf L t)) d∧l.foldl (fun d t=>max d (Sp.depthOf L t)) d≤64:=by
   intro l;induction l with
   | nil=>intro d h1 h2;exact ⟨h1,h2⟩
   | cons y l ih=>intro d h1 h2;have:=hok.depthOf y;exact ih (max d (Sp.depthOf L y)) (by omega) (by omega)
  refine ⟨fun sz d x w'=>∃j:Nat,x=j∧j≤ks.length∧sz=1+((ks.take j).map (Sp.sizeOf L)).sum∧d=(ks.take j).foldl (fun d t=>max d (Sp.depthOf L t)) 0∧(ks.take j).any (fun t=>!Sp.inP L t)=false∧w5=w',fun _ _ x _=>(2 - x).toNat,⟨0,rfl,Nat.zero_le _,by simp,by simp,by simp,rfl⟩,?_⟩;rintro sz d _ _ ⟨j,rfl,hj,rfl,rfl,hin,rfl⟩;unfold m_F_l3;have hs1:=hsum j;have hd1:=hdep (ks.take j) 0 (by omega) (by omega);have htl:(ks.take j).length≤2:=by rw [List.length_take];omega
  refine ⟨fun h=>?_,fun h=>?_⟩
  ·have hlt:j<ks.length:=by have h:=of_decide_eq_true h;simp only at h;omega
   refine ⟨p4.add (j*1),⟨by omega,of_decide_eq_true h,p4,rfl,by simp⟩,ks[j],hget j hlt,?_⟩;have htk:ks.take (j+1)=ks.take j++[ks[j]]:=List.take_succ_eq_append_getElem hlt;refine (c_in p _ w5 hP6).mono ?_;rintro _ _ ⟨_,rfl,rfl,rfl⟩;refine ⟨_,rfl,fun h=>?_,fun h=>?_⟩
   ·refine hK _ _ _ _ ⟨?_,E6⟩;rw [hrest,if_pos];exact List.any_eq_true.2 ⟨ks[j],List.getElem_mem hlt,h⟩
   ·refine (jTZ p _ w5 hP6 hok).mono ?_;rintro _ _ ⟨_,rfl,rfl,rfl⟩;refine ⟨_,rfl,?_⟩;refine (jVQ p _ w5 hP6 hok).mono ?_;rintro _ _ ⟨_,rfl,rfl,rfl⟩;refine ⟨_,rfl,_,run_max_int2 _ _ _ _ _ _ _,⟨j+1,?_,hlt,?_,?_,?_,rfl⟩,?_⟩
    ·rw [i64 (by omega) (by omega)];omega
    ·have:=hok.sizeOf ks[j];rw [i64 (by omega) (by omega),htk,List.map_append,List.sum_append];simp only [List.map_cons,List.map_nil,List.sum_cons,List.sum_nil];omega
    ·rw [htk,List.foldl_append];simp only [List.foldl_cons,List.foldl_nil];split <;> omega
    ·rw [htk,List.any_append,hin];simpa using h
    ·show (2 - IntKind.i64.wrap ((j:Int)+1)).toNat<(2 - (j:Int)).toNat;rw [i64 (by omega) (by omega)];omega
  ·have hge:j=ks.length:=by have h:=of_decide_eq_false h;simp only at h;omega
   subst hge;rw [List.take_length] at hs1 hd1 hin ⊢;have hlt:(ks.length:Int)≤2:=by omega
   refine ⟨fun h=>hK _ _ _ _ ⟨?_,E6⟩,fun h=>?_⟩
   ·rw [hrest,hin,if_neg (by simp),if_pos (.inl (by simpa using h))]
   ·rw [i64 (by omega) (by omega)];refine ⟨fun h'=>hK _ _ _ _ ⟨?_,E6⟩,fun h'=>hK _ _ _ _ ⟨?_,E6⟩⟩
    ·rw [hrest,hin,if_neg (by simp),if_pos (.inr (by simpa using h'))]
    ·rw [hrest,hin,if_neg (by simp),if_neg (by simp at h h';omega)]
 have J1:∀e1,(e1≠0→Sp.check L n=(0,0,e1))→(e1=0→pe=0∧((decide (s5<1) && a != 0) || (decide (s5<2) && b != 0))=false)→m_F_j1 (some p) p2 p3 e1 w4 K:=by
  intro e1 hne heq;unfold m_F_j1;refine ⟨fun h=>⟨_,_,_,_,_,b3.row,_,_,_,_,_,_,_,b2.row,?_⟩,fun h=>J2 _ _ (Ext.refl _) hne (fun e=>by rw [e] at h;cases h)⟩;obtain ⟨hp0,hc0⟩:=heq (by simpa using h);refine (jNB _ _ _ _ _ _ _ _ _ _ _ _ _).mono ?_;rintro _ w9 ⟨_,rfl,rfl,E9⟩;rw [hn];refine ⟨_,rfl,J2 _ _ E9 (fun hf=>?_) (fun hf=>⟨hp0,hc0,hf⟩)⟩;unfold Sp.check;simp only [hnk,hsh,hna,hnb,← hpe,hp0,hc0];simp [hf]
 have J53:pe=0→((decide (s5<1) && a != 0) || (decide (s5<2) && b != 0))=true→m_F_j1 (some p) p2 p3 53 w4 K:=fun hp0 hc=>J1 53 (fun _=>by
  unfold Sp.check;simp only [hnk,hsh,hna,hnb,← hpe,hp0,hc];simp) (fun e=>by cases e)
 have Jpe:pe≠0→m_F_j1 (some p) p2 p3 pe w4 K:=fun hp=>J1 pe (fun _=>by
  unfold Sp.check;simp only [← hpe];rw [if_pos hp]) (fun e=>absurd e hp)
 have J5:∀x2 x3,x2=(decide (s5<1) && a != 0)→x3=(decide (s5<2) && b != 0)→m_F_j5 (some p) p2 pe p3 x2 x3 w4 K:=by
  intro x2 x3 h2 h3;unfold m_F_j5;refine ⟨fun h=>⟨fun hx=>J53 (by simpa using h) (by rw [← h2,hx];rfl),fun hx=>⟨fun hy=>J53 (by simpa using h) (by rw [← h2,← h3,hy];simp),fun hy=>J1 pe (fun e=>absurd (by simpa using h) e) (fun e=>⟨e,by rw [← h2,← h3,hx,hy];rfl⟩)⟩⟩,fun h=>Jpe (by simpa using h)⟩
 have J4:∀x2,x2=(decide (s5<1) && a != 0)→m_F_j4 (some p) p2 pe p3 x2 w4 K:=by
  intro x2 h2;unfold m_F_j4;refine ⟨fun h=>⟨fun hx=>J53 (by simpa using h) (by rw [← h2,hx];rfl),fun hx=>⟨_,b3.cell rfl,fun h5=>⟨_,b2.cell rfl,J5 _ _ h2 (by rw [h5];rfl)⟩,fun h5=>J5 _ _ h2 (by rw [h5];rfl)⟩⟩,fun h=>Jpe (by simpa using h)⟩
 exact ⟨fun h=>⟨_,b3.cell rfl,fun h5=>⟨_,b2.cell rfl,J4 _ (by rw [h5];rfl)⟩,fun h5=>J4 _ (by rw [h5];rfl)⟩,fun h=>Jpe (by simpa using h)⟩
def jKI (v:Value):Prop:=∃n,v=jDW n
theorem jHN {n n':Sp.Node}:jDW n=jDW n'↔n=n':=by
 constructor
 ·intro h;cases n;cases n';simp [jDW,tF] at h;simp [h]
 ·rintro rfl;rfl
theorem jHH (n:Sp.Node):Instr.sameBits 10000 (jDW n) (jDW n)=true:=by
 have h:∀d,Instr.sameBits (d+1) (jDW n) (jDW n)=true:=fun d=>by
  have e:(n.text == n.text)=true:=by rw [beq_toListBytes];simp
  cases d <;> simp [Instr.sameBits,jDW,tF,e]
 exact h 9999
theorem jAL:KeyOK prog 103 jKI:=by
 refine KeyOK.of_struct underlying103 ?_ ?_ ?_
 ·rintro _ ⟨n,rfl⟩ em w;kernel_rfl
 ·rintro _ _ w ⟨n,rfl⟩ ⟨n',rfl⟩;refine ⟨decide (n=n'),?_,by simp only [jHN,decide_eq_true_eq];exact eq_comm⟩;obtain ⟨k,f,t,u,x,a,b⟩:=n;obtain ⟨k',f',t',u',x',a',b'⟩:=n';simp [Op.equal,Op.maxDepth,go_sem,jKQ,jDW,tF]
  repeat' split
  all_goals simp_all
 ·rintro _ ⟨n,rfl⟩;exact jHH n
theorem jEX:SlType prog 94 177 9 (16*5):=by
 refine ⟨underlying94,⟨t177,_,by kernel_rfl,(by kernel_rfl:t177.zero=some (.agg #[.int .i64 0,.int .i64 0,.int .i64 0,.int .u64 0,.string ⟨#[]⟩,.int .i64 0,.int .i64 0,.int .i64 0,.int .i64 0])),by kernel_rfl,by kernel_rfl,rfl⟩,by omega⟩
theorem jMQ {L:Sp.Pool} {i:Nat} {n:Sp.Node} {v:Value} (h:(tV L)[i]?=some (jDW n,v)):∃e,L[i]?=some e∧e.node=n∧v=.int .i64 (i+1:Nat):=by
 simp only [tV,List.getElem?_map,List.getElem?_zipIdx,Option.map_map,Option.map_eq_some_iff] at h;obtain ⟨e,he,h⟩:=h;simp only [Function.comp,Prod.mk.injEq] at h;exact ⟨e,he,jHN.1 h.1,by rw [← h.2];simp⟩
theorem jMP {L:Sp.Pool} {n:Sp.Node} (h:∀q∈tV L,q.1≠jDW n):∀e∈L,e.node≠n:=by
 intro e he hn;obtain ⟨i,hi,rfl⟩:=List.mem_iff_getElem.1 he;refine h (jDW L[i].node,.int .i64 (i+1:Nat)) ?_ (by rw [hn]);exact List.mem_map.2 ⟨(L[i],i),by rw [List.mem_zipIdx_iff_getElem?];simp [hi],rfl⟩
theorem jCF {L:Sp.Pool}:∀q∈tV L,jKI q.1:=by
 intro q hq;obtain ⟨x,_,rfl⟩:=List.mem_map.1 hq;exact ⟨_,rfl⟩
theorem jPW (L:Sp.Pool) (e:Sp.Ent):tV (L++[e])=tV L++[(jDW e.node,.int .i64 (L.length+1:Nat))]:=by
 simp [tV,List.zipIdx_append]
theorem jQL {L:Sp.Pool} (hok:Sp.Ok L) {i:Nat} {e:Sp.Ent} (h:L[i]?=some e):Sp.find L e.node=some i:=by
 obtain ⟨hi,rfl⟩:=List.getElem?_eq_some_iff.1 h;unfold Sp.find;rw [List.findIdx?_eq_some_iff_getElem];refine ⟨hi,by simp,fun j hj=>?_⟩;have hnd:=hok.nodup;simp only [decide_eq_true_eq];intro e;exact List.pairwise_iff_getElem.1 hnd j i (by simp;omega) (by simpa using hi) hj (by simpa using e)
theorem find_none {L:Sp.Pool} {n:Sp.Node} (h:∀e∈L,e.node≠n):Sp.find L n=none:=by
 unfold Sp.find;rw [List.findIdx?_eq_none_iff];intro e he;simpa using h e he
theorem jRJ (p:Addr) (k f t u:Int) (x:ByteArray) (a b:Int) (w:World) {L:Sp.Pool} {F:NP} (hP:zT w p L F) (hok:Sp.Ok L) :
  Calls prog 97 #[.pointer (some p),.agg #[.int .i64 k,.int .i64 f,.int .i64 t,.int .u64 u,.string x,.int .i64 a,.int .i64 b]] w
   (fun e w'=>∃r1:Int,∃r2:Int,e=.returned (.tuple #[.int .i64 r1,.int .i64 r2])∧((r1,r2)=((Sp.make L ⟨k,f,t,u,x,a,b⟩).1,(Sp.make L ⟨k,f,t,u,x,a,b⟩).2.1)∧∃F',zT w' p (Sp.make L ⟨k,f,t,u,x,a,b⟩).2.2 F'∧Ext F w w'∧∀b,F' b→F b∨w.heap.size≤b)):=by
 suffices key:∀K:Int→Int→WP,(∀r1 r2 w',((r1,r2)=((Sp.make L ⟨k,f,t,u,x,a,b⟩).1,(Sp.make L ⟨k,f,t,u,x,a,b⟩).2.1)∧∃F',zT w' p (Sp.make L ⟨k,f,t,u,x,a,b⟩).2.2 F'∧Ext F w w'∧∀b,F' b→F b∨w.heap.size≤b)→K r1 r2 w')→m_C2 (some p) k f t u x a b w K from
  w_C2 _ _ _ _ _ _ _ _ w _ (key _ (fun _ _ _ h=>h))
 intro K hK
 unfold m_C2
 intro p2 w1 h1
 have b1:=Box.of_new h1
 have E1:Pure w w1:=Ext.new h1
 have o2:¬ F p2.block:=fun h=>by have:=hP.lt h;have:=h1.at_size;omega
 refine Br.f rfl ⟨_,_,_,_,_,_,_,b1.row,?_⟩
 refine (jVP p k f t u x a b w1 (hP.pure E1) hok).mono ?_
 rintro _ w2 ⟨sz,dp,er,rfl,hck,E2⟩
 refine ⟨_,_,_,rfl,?_⟩
 generalize hn:(⟨k,f,t,u,x,a,b⟩:Sp.Node)=n at *
 have E3:Pure w w2:=E1.trans E2
 have same:∀w',Pure w w'→∃F',zT w' p L F'∧Ext F w w'∧∀b,F' b→F b∨w.heap.size≤b:=fun w' E=>⟨F,hP.pure E,E.pure,fun _ h=>.inl h⟩
 refine ⟨fun h=>hK _ _ _ ?_,fun h=>?_⟩
 ·have he:er≠0:=by simpa using h
  have:Sp.make L n=(0,er,L):=by unfold Sp.make;simp [← hck,he]
  rw [this];exact ⟨rfl,same _ E3⟩
 ·have he:er=0:=by simpa using h
  subst he
  intro w3 hw3
  have E4:Pure w w3:=by rw [hw3];exact E3.trans (Ext.drew w2)
  have b3:=(b1.pure E2).pure (show Pure w2 w3 by rw [hw3];exact Ext.drew w2)
  clear hw3
  obtain ⟨s,m,hS,hF⟩:=hP.pure E4
  refine ⟨p,rfl,_,hS.box.cell (i:=1) rfl,_,_,_,_,_,_,_,b3.row,?_⟩
  have hkey:(Value.agg #[.int .i64 k,.int .i64 f,.int .i64 t,.int .u64 u,.string x,.int .i64 a,.int .i64 b])=jDW n:=by rw [← hn];rfl
  rw [hkey]
  rcases hS.map.lookup (P:=prog) (T:=93) (E:=23) underlying93 jAL jCF ⟨n,rfl⟩ (zeroValue23 _) true with ⟨hnot,hrun⟩ | ⟨i,v,hi,hrun⟩
  ·refine ⟨_,_,hrun,Br.f rfl ⟨p,rfl,s,hS.box.cell0,?_⟩⟩
   have hno:=jMP hnot
   have hfn:=find_none hno
   have hlen:(s.len:Int)=L.length:=by rw [hS.rows.len];simp
   refine ⟨fun h=>hK _ _ _ ?_,fun h=>?_⟩
   ·have h2:65536≤L.length:=by have h:=of_decide_eq_true h;omega
    have:Sp.make L n=(0,6,L):=by unfold Sp.make;simp [← hck,hfn,h2]
    rw [this];exact ⟨rfl,same _ E4⟩
   ·have h2:¬ 65536≤L.length:=by have h:=of_decide_eq_false h;omega
    have hmk:Sp.make L n=((L.length:Int)+1,0,L++[⟨n,sz,dp⟩]):=by unfold Sp.make;simp [← hck,hfn,h2]
    refine ⟨fun w'=>w'.cell? p=some s.v∧Row w' p2 (tF n),⟨?_,?_⟩,?_⟩
    ·exact Ext.cell (F:=None) (Ext.drew w3) hS.box.cell0 id
    ·rw [← hn];exact Ext.row (F:=None) (Ext.drew w3) b3.row id
    intro w4 hw4
    have E5:Pure w3 w4:=by rw [hw4];exact Ext.drew w3
    clear hw4
    have hS4:PoolS w4 p L s m:=by
     exact ⟨hS.box.pure E5,hS.rows.pure E5,hS.map.ext E5 id,hS.n1,hS.n2,hS.n3⟩
    have b4:=b3.pure E5
    refine ⟨p,rfl,s,fun w' h=>h.1,k,f,t,u,x,a,b,fun w' h=>by have:=h.2;rw [← hn] at this;exact this,?_⟩
    intro p3 w5 h5
    have E6:Pure w4 w5:=Ext.new h5
    have o3:w.heap.size≤p3.block:=New.own (E4.trans E5) h5
    have b5:=Box.of_new h5
    have hrows5:=hS4.rows.pure E6
    have hbox5:=hS4.box.pure E6
    have hmap5:CMap w5 m (tV L):=hS4.map.ext E6 id
    have b45:=b4.pure E6
    have hrow:Row w5 p3 (jOP ⟨n,sz,dp⟩):=by rw [← hn];exact b5.row
    refine ⟨⟨hbox5.cell0,by rw [← hn];exact b45.row⟩,?_⟩
    obtain ⟨s1,w6,hr6,hrows6,E7,hb6⟩:=hrows5.append (P:=prog) (ty:=94) jEX (c:=1) hrow (by simp [jOP,tF]) (by simp [jOP,tF,vY]) (by simp;omega) (by simp [maxLen];omega)
    have nb:∀b,s.blk b→b≠p2.block:=fun b hb e=>o2 (by rw [← e];exact (hF b).2 (.inr (.inl hb)))
    have hbox6:=hbox5.ext E7 hS.n2
    have hmap6:=hmap5.ext E7 hS.n3
    have b6:=b45.ext E7 (fun h=>nb _ h rfl)
    refine ⟨s1,w6,hr6,⟨hbox6.cell0,by rw [← hn];exact b6.row⟩,p,rfl,hbox6.canW0 (by simp),?_⟩
    intro w7 hw7
    have hbox7:Box w7 p [s1.v,.map (some m)] 96:=by rw [hw7];exact hbox6.set0
    have E8:Ext (·=p.block) w6 w7:=by rw [hw7];exact Ext.setCell p _
    clear hw7
    have hs1p:¬ s1.blk p.block:=fun h=>(hb6 _ h).elim hS.n2 (fun h=>by have:=hbox5.lt;omega)
    have hs1m:¬ s1.blk m:=fun h=>(hb6 _ h).elim hS.n3 (fun h=>by have:=hmap5.lt;omega)
    have hrows7:=hrows6.ext E8 (fun b hb e=>hs1p (by rw [← e];exact hb))
    have hmap7:=hmap6.ext E8 hS.n1
    have b7:=b6.ext E8 (fun e=>o2 (by rw [e];exact (hF _).2 (.inl rfl)))
    have hl1:(s1.len:Int)=L.length+1:=by rw [hrows6.len];simp
    refine ⟨p,rfl,s1,hbox7.cell0,?_⟩
    refine ⟨fun w'=>w'.cell? (p.add 1)=some (.map (some m))∧Row w' p2 (tF n),⟨?_,?_⟩,?_⟩
    ·exact Ext.cell (F:=None) (Ext.drew w7) (hbox7.cell (i:=1) rfl) id
    ·rw [← hn];exact Ext.row (F:=None) (Ext.drew w7) b7.row id
    intro w8 hw8
    have E9:Pure w7 w8:=by rw [hw8];exact Ext.drew w7
    clear hw8
    refine ⟨p,rfl,some m,fun w' h=>h.1,k,f,t,u,x,a,b,fun w' h=>by have:=h.2;rw [← hn] at this;exact this,?_⟩
    rw [hkey,hl1]
    have hmap8:CMap w8 m (tV L):=hmap7.ext E9 id
    obtain ⟨w9,hr9,hmap9,E10⟩:=hmap8.insert (P:=prog) (v:=.int .i64 ((L.length:Int)+1)) underlying93 jAL jCF ⟨n,rfl⟩ hnot
    refine ⟨w9,hr9,hK _ _ _ ?_⟩
    rw [hmk]
    have hbox9:=(hbox7.pure E9).ext E10 (fun e=>hS.n1 e.symm)
    have hrows9:=(hrows7.pure E9).ext E10 (fun b hb e=>hs1m (by rw [← e];exact hb))
    refine ⟨rfl,fun b=>b=p.block∨s1.blk b∨b=m,⟨s1,m,⟨hbox9,?_,?_,hS.n1,hs1p,hs1m⟩,fun _=>Iff.rfl⟩,?_,?_⟩
    ·simpa using hrows9
    ·rw [jPW];simpa using hmap9
    ·have hF':∀b,F b↔(b=p.block∨s.blk b∨b=m):=hF
     have Ea:Ext F w w5:=((E4.trans E5).trans E6).pure
     have Eb:Ext F w w6:=Ea.trans' E7 (fun i _ h=>(hF' i).2 (.inr (.inl h)))
     have Ec:Ext F w w7:=Eb.trans' E8 (fun i _ h=>(hF' i).2 (.inl h))
     have Ed:Ext F w w8:=Ec.thenPure E9
     exact Ed.trans' E10 (fun i _ h=>(hF' i).2 (.inr (.inr h)))
    ·intro b hb
     rcases hb with rfl | hb | rfl
     ·exact .inl ((hF _).2 (.inl rfl))
     ·rcases hb6 b hb with h | h
      ·exact .inl ((hF _).2 (.inr (.inl h)))
      ·right;have:=((E4.trans E5).trans E6).size;omega
     ·exact .inl ((hF _).2 (.inr (.inr rfl)))
  ·obtain ⟨e,he,hen,rfl⟩:=jMQ hi
   refine ⟨_,_,hrun,Br.t rfl (hK _ _ _ ?_)⟩
   have hfd:=jQL hok he
   rw [hen] at hfd
   have:Sp.make L n=((i:Int)+1,0,L):=by unfold Sp.make;simp [← hck,hfd]
   rw [this];exact ⟨by simp,same _ E4⟩
end Go.Proofs
end
section
namespace Go.Sp
inductive Tree where
 | mk (k f t u:Int) (x:ByteArray) (kids:List Tree)
def Tree.kids:Tree→List Tree | .mk _ _ _ _ _ ks=>ks
def Tree.node:Tree→Node | .mk k f t u x _=>⟨k,f,t,u,x,0,0⟩
theorem Tree.ind {P:Tree→Prop} (h:∀k f t u x (ks:List Tree),(∀i (hi:i<ks.length),P ks[i])→P (.mk k f t u x ks)) (t:Tree):P t:=by
 refine Tree.rec (motive_1:=P) (motive_2:=fun ks=>∀i (hi:i<ks.length),P ks[i]) ?_ ?_ ?_ t
 ·intro k f t u x ks ih;exact h _ _ _ _ _ _ ih
 ·intro i hi;simp at hi
 ·intro t ks ht hks i hi;cases i with
  | zero=>exact ht
  | succ i=>exact hks i (by simpa using hi)
def uH (n:Node) (len:Nat):Int :=
 let e:=if zZ n=0 then if (len:Int)≠(shapeOf n.kind).kids then 53 else 0 else zZ n
 if e=0 then zX (shapeOf n.kind) n else e
mutual
def qT (inside seen:Int):Tree→Int×Int
 | .mk k f t u x ks=>if 4096≤seen then (52,seen) else if 64≤inside then (52,seen) else vV (inside+1) (uH ⟨k,f,t,u,x,0,0⟩ ks.length) (seen+1) ks
def vV (inside e seen:Int):List Tree→Int×Int
 | []=>(e,seen)
 | t :: ts=>if e=0 then vV inside (qT inside seen t).1 (qT inside seen t).2 ts else (e,seen)
end
mutual
def grow (L:Pool):Tree→Int×Int×Pool
 | .mk k f t u x ks=>vP ⟨k,f,t,u,x,0,0⟩ 0 L ks
def vP (n:Node) (i:Nat) (L:Pool):List Tree→Int×Int×Pool
 | []=>make L n
 | t :: ts=>if (grow L t).2.1≠0 then (0,(grow L t).2.1,(grow L t).2.2) else vP (if i=0 then { n with a:=(grow L t).1 } else { n with b:=(grow L t).1 }) (i+1) (grow L t).2.2 ts
end
def of (L:Pool) (t:Tree):Int×Int×Pool :=
 if (qT 0 0 t).1≠0 then (0,(qT 0 0 t).1,L)
 else if (grow L t).2.1≠0 then (0,(grow L t).2.1,L) else ((grow L t).1,0,(grow L t).2.2)
theorem jGS (L:Pool) (n:Node):∃M,(make L n).2.2=L++M:=by
 unfold make;simp only;by_cases hc:(check L n).2.2=0
 ·simp only [hc];rw [if_neg (by simp)];split
  ·exact ⟨[],by simp⟩
  ·split
   ·exact ⟨[],by simp⟩
   ·exact ⟨_,rfl⟩
 ·rw [if_pos hc];exact ⟨[],by simp⟩
theorem jTA {L:Pool} {n:Node} (hok:Ok L) (h:(check L n).2.2=0):1≤(check L n).1∧(check L n).1≤4096∧1≤(check L n).2.1∧(check L n).2.1≤64:=by
 unfold check at h ⊢;simp only at h ⊢;by_cases h1:zZ n≠0
 ·rw [if_pos h1] at h;exact absurd h h1
 rw [if_neg h1] at h ⊢;split at h
 ·simp at h
 rename_i h2;rw [if_neg h2];by_cases h3:zX (shapeOf n.kind) n≠0
 ·rw [if_pos h3] at h;exact absurd h h3
 rw [if_neg h3] at h ⊢;split at h
 ·simp at h
 rename_i h4;rw [if_neg h4];split at h
 ·simp at h
 rename_i h5;rw [if_neg h5];have hs:∀l:List Int,0≤(l.map (sizeOf L)).sum:=by
  intro l;induction l with
  | nil=>simp
  | cons y l ih=>have:=hok.sizeOf y;simp only [List.map_cons,List.sum_cons];omega
 have hd:∀(l:List Int) (d:Int),0≤d→0≤l.foldl (fun d t=>max d (depthOf L t)) d:=by
  intro l;induction l with
  | nil=>intro d h;exact h
  | cons y l ih=>intro d h;exact ih (max d (depthOf L y)) (by omega)
 have:=hs (zM n);have:=hd (zM n) 0 (by omega);simp only;omega
theorem jLG {L:Pool} (hok:Ok L) (n:Node):Ok (make L n).2.2:=by
 by_cases hc:(check L n).2.2=0
 ·have:=jTA hok hc;unfold make;simp only [hc];rw [if_neg (by simp)];split
  ·exact hok
  ·rename_i hf;split
   ·exact hok
   ·rename_i hl;refine ⟨by simp;omega,?_,?_,?_⟩
    ·rw [List.map_append,List.nodup_append];refine ⟨hok.nodup,by simp,?_⟩;intro a ha b hb;simp only [List.map_cons,List.map_nil,List.mem_singleton] at hb;subst hb;obtain ⟨e,he,rfl⟩:=List.mem_map.1 ha;unfold find at hf;rw [List.findIdx?_eq_none_iff] at hf;simpa using hf e he
    ·intro e he;rcases List.mem_append.1 he with h | h
     ·exact hok.size e h
     ·simp only [List.mem_singleton] at h;subst h;simp;omega
    ·intro e he;rcases List.mem_append.1 he with h | h
     ·exact hok.depth e h
     ·simp only [List.mem_singleton] at h;subst h;simp;omega
 ·unfold make;simp only;rw [if_pos hc];exact hok
theorem jAM (t:Tree):∀L,Ok L→Ok (grow L t).2.2∧∃M,(grow L t).2.2=L++M:=by
 induction t using Tree.ind with
 | h k f t u x ks ih =>
  have:∀(ks:List Tree),(∀i (hi:i<ks.length),∀L,Ok L→Ok (grow L ks[i]).2.2∧∃M,(grow L ks[i]).2.2=L++M)→∀n i L,Ok L→Ok (vP n i L ks).2.2∧∃M,(vP n i L ks).2.2=L++M:=by
   intro ks;induction ks with
   | nil=>intro _ n i L h;unfold vP;exact ⟨jLG h n,jGS L n⟩
   | cons t ts iht =>
    intro hh n i L h
    have h0:=hh 0 (by simp) L h
    simp only [List.getElem_cons_zero] at h0
    unfold vP
    split
    ·exact h0
    ·obtain ⟨ho,M,hM⟩:=h0
     have:=iht (fun i hi=>hh (i+1) (by simpa using hi)) (if i=0 then { n with a:=(grow L t).1 } else { n with b:=(grow L t).1 }) (i+1) (grow L t).2.2 ho
     refine ⟨this.1,?_⟩
     obtain ⟨M2,hM2⟩:=this.2
     exact ⟨M++M2,by rw [hM2,hM,List.append_assoc]⟩
  intro L h
  unfold grow
  exact this ks ih _ _ L h
def tX (n:Int):Prop:=0≤n∧n<18446744073709551616
inductive NumT:Tree→Prop
 | mk (k f t u:Int) (x:ByteArray) (ks:List Tree) (own:tX u) (kids:∀i (hi:i<ks.length),NumT ks[i]):NumT (.mk k f t u x ks)
end Go.Sp
end
section
open Go Go.SE
namespace Go.Proofs
open Tryz
attribute [local irreducible] Calls
def qX (t:Sp.Tree) (s:Sl):List Value:=[.int .i64 t.node.kind,.int .i64 t.node.frm,.int .i64 t.node.to,.int .u64 t.node.num,.string t.node.text,s.v]
inductive TreeAt (S:NP) (w:World):Sl→Sp.Tree→Prop
 | mk (k f t u : Int) (x : ByteArray) (ks : List Sp.Tree) (s : Sl) (rs : Nat → Sl) (len : s.len = ks.length) (fit : ks.length ≤ 9223372036854775807)
   (row:∀i (h:i<ks.length),∃a,At s i 6 a∧S a.block∧Row w a (qX ks[i] (rs i))) (kid:∀i (h:i<ks.length),TreeAt S w (rs i) ks[i]):TreeAt S w s (.mk k f t u x ks)
theorem TreeAt.ext {S F:NP} {w w':World} {s:Sl} {t:Sp.Tree} (h:TreeAt S w s t) (hE:Ext F w w') (hd:∀b,S b→¬ F b):TreeAt S w' s t:=by
 induction h with
 | mk k f t u x ks s rs len fit row kid ih =>
  exact .mk k f t u x ks s rs len fit (fun i h=>let ⟨a,h1,h2,h3⟩:=row i h;⟨a,h1,h2,hE.row h3 (hd _ h2)⟩) ih
theorem TreeAt.pure {S:NP} {w w':World} {s:Sl} {t:Sp.Tree} (h:TreeAt S w s t) (hE:Pure w w'):TreeAt S w' s t:=h.ext hE (fun _ _ h=>h)
theorem TreeAt.mono {S S':NP} {w:World} {s:Sl} {t:Sp.Tree} (h:TreeAt S w s t) (hd:∀b,S b→S' b):TreeAt S' w s t:=by
 induction h with
 | mk k f t u x ks s rs len fit row kid ih =>
  exact .mk k f t u x ks s rs len fit (fun i h=>let ⟨a,h1,h2,h3⟩:=row i h;⟨a,h1,hd _ h2,h3⟩) ih
theorem TreeAt.lt {S:NP} {w:World} {s:Sl} {t:Sp.Tree} (h:TreeAt S w s t):TreeAt (fun b=>S b∧b<w.heap.size) w s t:=by
 induction h with
 | mk k f t u x ks s rs len fit row kid ih =>
  refine .mk k f t u x ks s rs len fit (fun i h=>let ⟨a,h1,h2,h3⟩:=row i h;⟨a,h1,⟨h2,?_⟩,h3⟩) ih
  have:=h3 0 (by simp [qX])
  unfold World.cell? at this
  refine Classical.byContradiction fun hge=>?_
  have:w.heap[(a.add 0).block]?=none:=by rw [zU];exact Array.getElem?_eq_none (by omega)
  simp_all [qX]
theorem jMY (k f t u:Int) (x:ByteArray) (s:Sl) (w:World) :
  Calls prog 107 #[.agg #[.int .i64 k,.int .i64 f,.int .i64 t,.int .u64 u,.string x,s.v]] w
   (fun e w'=>∃k':Int,∃f':Int,∃t':Int,∃u':Int,∃x':ByteArray,∃a:Int,∃b:Int,e=.returned (.agg #[.int .i64 k',.int .i64 f',.int .i64 t',.int .u64 u',.string x',.int .i64 a,.int .i64 b])∧((⟨k',f',t',u',x',a,b⟩:Sp.Node)=⟨k,f,t,u,x,0,0⟩∧Pure w w')):=by
 refine w_Q2 _ _ _ _ _ _ w (fun k' f' t' u' x' a b w'=>(⟨k',f',t',u',x',a,b⟩:Sp.Node)=⟨k,f,t,u,x,0,0⟩∧Pure w w') ?_
 unfold m_Q2
 intro p1 w1 h1 p2 w2 h2
 have E1:Pure w w1:=Ext.new h1
 have b1:=(Box.of_new h1).pure (Ext.new h2)
 refine ⟨_,b1.cell0,_,b1.cell rfl,_,b1.cell rfl,_,b1.cell rfl,_,b1.cell rfl,?_⟩
 exact bx 7 (Box.of_new h2) rfl rfl (fun w' b E=>⟨_,_,_,_,_,_,_,b.row,rfl,(E1.trans (Ext.new h2)).own (New.own E1 h2) E⟩)
theorem jGT (t:Sp.Tree):∀i n:Int,0≤n→0≤(Sp.qT i n t).2:=by
 induction t using Sp.Tree.ind with
 | h k f t u x ks ih =>
  have:∀(ks:List Sp.Tree),(∀i (hi:i<ks.length),∀j n:Int,0≤n→0≤(Sp.qT j n ks[i]).2)→∀i e n:Int,0≤n→0≤(Sp.vV i e n ks).2:=by
   intro ks;induction ks with
   | nil=>intro _ i e n h;simpa [Sp.vV] using h
   | cons t ts iht =>
    intro hh i e n h
    unfold Sp.vV
    split
    ·exact iht (fun i hi=>hh (i+1) (by simpa using hi)) _ _ _ (hh 0 (by simp) i n h)
    ·exact h
  intro i n h
  unfold Sp.qT
  split
  ·exact h
  ·split
   ·exact h
   ·exact this ks ih _ _ _ (by omega)
theorem jCI {ks:List Sp.Tree} {j:Nat} (hj:j<ks.length) (i n:Int):Sp.vV i 0 n (ks.drop j)=Sp.vV i (Sp.qT i n ks[j]).1 (Sp.qT i n ks[j]).2 (ks.drop (j+1)):=by
 rw [List.drop_eq_getElem_cons hj,Sp.vV,if_pos rfl]
theorem jDN {ks:List Sp.Tree} {e:Int} (h:e≠0) (i n:Int):Sp.vV i e n ks=(e,n):=by
 cases ks <;> simp [Sp.vV,h]
theorem jVN {S:NP} (q:Addr) (hq:¬ S q.block) (T:TypeId) (t:Sp.Tree):∀(s:Sl) (inside seen:Int) (w:World),0≤inside→0≤seen→TreeAt S w s t→Box w q [.int .i64 seen] T →
  Calls prog 54 #[.agg (qX t s).toArray,.int .i64 inside,.pointer (some q)] w
   (fun e w'=>∃r:Int,e=.returned (.int .i64 r)∧(r=(Sp.qT inside seen t).1∧Box w' q [.int .i64 (Sp.qT inside seen t).2] T∧Ext (·=q.block) w w')):=by
 induction t using Sp.Tree.ind with
 | h k f t u x ks ih =>
 intro s inside seen w hi0 hn0 hT hB
 suffices key:∀K:Int→WP,(∀r w',(r=(Sp.qT inside seen (.mk k f t u x ks)).1∧Box w' q [.int .i64 (Sp.qT inside seen (.mk k f t u x ks)).2] T∧Ext (·=q.block) w w')→K r w')→m_L k f t u x s inside (some q) w K from
  w_L _ _ _ _ _ _ _ _ w _ (key _ (fun _ _ h=>h))
 intro K hK
 unfold m_L
 intro p1 w1 h1
 have b1:=Box.of_new h1
 have E1:Pure w w1:=Ext.new h1
 have n1:q.block≠p1.block:=New.ne h1 hB.blk
 have hB1:=hB.pure E1
 have hT1:=hT.pure E1
 refine ⟨q,rfl,seen,hB1.cell0,fun h=>?_,fun h=>⟨fun h'=>?_,fun h'=>?_⟩⟩
 ·have h:=of_decide_eq_true h
  have:Sp.qT inside seen (.mk k f t u x ks)=(52,seen):=by rw [Sp.qT,if_pos (by omega)]
  rw [this] at hK;exact hK _ _ ⟨rfl,hB1,E1.pure⟩
 ·have h:=of_decide_eq_false h;have h':=of_decide_eq_true h'
  have:Sp.qT inside seen (.mk k f t u x ks)=(52,seen):=by rw [Sp.qT,if_neg (by omega),if_pos (by omega)]
  rw [this] at hK;exact hK _ _ ⟨rfl,hB1,E1.pure⟩
 have h:=of_decide_eq_false h;have h':=of_decide_eq_false h'
 have hsp:Sp.qT inside seen (.mk k f t u x ks)=Sp.vV (inside+1) (Sp.uH ⟨k,f,t,u,x,0,0⟩ ks.length) (seen+1) ks:=by rw [Sp.qT,if_neg (by omega),if_neg (by omega)]
 rw [hsp] at hK
 unfold m_L_j1
 refine ⟨q,rfl,seen,hB1.cell0,q,rfl,hB1.canW0 (by simp),?_⟩
 rw [i64 (n:=seen+1) (by omega) (by omega)]
 intro w2 hw2
 have hB2:Box w2 q [.int .i64 (seen+1)] T:=by rw [hw2];exact hB1.set0
 have E12:Ext (·=q.block) w1 w2:=by rw [hw2];exact Ext.setCell q _
 clear hw2
 have b2:=b1.ext E12 (fun e=>n1 e.symm)
 have hT2:=hT1.ext E12 (fun b hb e=>hq (e▸hb))
 have E2:Ext (·=q.block) w w2:=E1.pure.trans E12
 refine ⟨_,_,_,_,_,_,b2.row,?_⟩
 refine (jMY _ _ _ _ _ _ w2).mono ?_
 rintro _ w3 ⟨k',f',t',u',x',a',b',rfl,hn,E23⟩
 cases hn
 refine ⟨_,_,_,_,_,_,_,rfl,?_⟩
 intro p2 w4 h4
 have n2:p1.block≠p2.block:=New.ne h4 (b2.pure E23).blk
 have E24:Pure w2 w4:=E23.trans (Ext.new h4)
 have o2:=New.own E23 h4
 refine bx 7 (Box.of_new h4) rfl rfl (fun w5 c2 E45=>?_)
 have E25:Pure w2 w5:=E24.own o2 E45
 refine ⟨_,_,_,_,_,_,_,c2.row,?_⟩
 refine (jRB _ _ _ _ _ _ _ w5).mono ?_
 rintro _ w6 ⟨s1,s2,s3,s4,s5,pe,rfl,⟨hs,hpe⟩,E56⟩
 refine ⟨_,_,_,_,_,_,rfl,?_⟩
 intro p3 w7 h7
 have n3:p2.block≠p3.block:=New.ne h7 (c2.pure E56).blk
 have E27:Pure w2 w7:=(E25.trans E56).trans (Ext.new h7)
 have o3:=New.own (E25.trans E56) h7
 refine bx 5 (Box.of_new h7) rfl rfl (fun w8 c3 E78=>?_)
 have E28:Pure w2 w8:=E27.own o3 E78
 have d2:=((c2.pure E56).pure (Ext.new h7)).ext E78 n3
 have d1:=b2.pure E28
 have hB8:=hB2.pure E28
 have hT8:=hT2.pure E28
 have E8:Ext (·=q.block) w w8:=E2.thenPure E28
 clear E78 E27 E56 E25 E45 E24 E23 E12 c2 b2 b1 hT2 hT1 hB1 h1 h4 h7
 have hlen:s.len=ks.length:=by cases hT;assumption
 have hfit:ks.length≤9223372036854775807:=by cases hT;assumption
 have hsh:Sp.shapeOf k=⟨s1,s2,s3,s4,s5⟩:=hs.symm
 have J3:∀e w',Pure w8 w'→e=Sp.uH ⟨k,f,t,u,x,0,0⟩ ks.length→m_L_j3 inside (some q) p1 e w' K:=by
  intro e w' E hown;rw [← hown] at hK;unfold m_L_j3;refine ⟨fun e i w'=>∃j:Nat,i=j∧j≤ks.length∧∃n:Int,0≤n∧Ext (·=q.block) w8 w'∧Box w' q [.int .i64 n] T∧Sp.vV (inside+1) e n (ks.drop j)=Sp.vV (inside+1) (Sp.uH ⟨k,f,t,u,x,0,0⟩ ks.length) (seen+1) ks,fun _ i _=>((ks.length:Int) - i).toNat,⟨0,rfl,Nat.zero_le _,seen+1,by omega,E.pure,hB8.pure E,by rw [hown];rfl⟩,?_⟩;rintro e1 _ wl ⟨j,rfl,hj,n,hn,El,hBl,heq⟩;unfold m_L_l4;have dl:=d1.ext El (fun e=>n1 e.symm);have hTl:=hT8.ext El (fun b hb e=>hq (e▸hb));rw [← hown] at heq;have fin:∀n',Sp.vV (inside+1) e ((seen:Int)+1) ks=(e1,n')→n'=n→K e1 wl:=by
   rintro n' h rfl;refine hK _ _ ⟨by rw [h],by rw [h];exact hBl,E8.trans El⟩
  refine ⟨s,dl.cell rfl,fun hlt=>⟨fun he=>?_,fun he=>?_⟩,fun hlt=>?_⟩
  ·have hlt:j<ks.length:=by have h:=of_decide_eq_true hlt;omega
   have he:e1=0:=by simpa using he
   subst he;cases hTl with
   | mk _ _ _ _ _ _ _ rs len fit row kid =>
   obtain ⟨a,hat,ha,hr⟩:=row j hlt;refine ⟨s,dl.cell rfl,a,hat,_,_,_,_,_,rs j,hr,?_⟩;rw [i64 (n:=inside+1) (by omega) (by omega)];refine (ih j hlt (rs j) (inside+1) n wl (by omega) hn (kid j hlt) hBl).mono ?_;rintro _ w9 ⟨r,rfl,rfl,hB9,E9⟩;rw [jCI hlt] at heq;refine ⟨_,rfl,⟨j+1,?_,hlt,_,jGT _ _ _ hn,El.trans E9,hB9,by rw [← hown];exact heq⟩,?_⟩
   ·rw [i64 (by omega) (by omega)];omega
   ·show ((ks.length:Int) - IntKind.i64.wrap ((j:Int)+1)).toNat<((ks.length:Int) - (j:Int)).toNat;rw [i64 (by omega) (by omega)];omega
  ·have he:e1≠0:=by simpa using he
   rw [jDN he] at heq;exact fin _ heq.symm rfl
  ·have hge:j=ks.length:=by have h:=of_decide_eq_false hlt;omega
   rw [hge,List.drop_length,Sp.vV] at heq;exact fin _ heq.symm rfl
 have J2:∀e1,e1=(if pe=0 then if (ks.length:Int)≠s5 then 53 else 0 else pe)→m_L_j2 inside (some q) p1 p2 p3 e1 w8 K:=by
  intro e1 he1;have hown:Sp.uH ⟨k,f,t,u,x,0,0⟩ ks.length=if e1=0 then Sp.zX ⟨s1,s2,s3,s4,s5⟩ ⟨k,f,t,u,x,0,0⟩ else e1:=by
   unfold Sp.uH;simp only [hsh,← hpe,he1]
  unfold m_L_j2;refine ⟨fun h=>⟨_,_,_,_,_,c3.row,_,_,_,_,_,_,_,d2.row,?_⟩,fun h=>J3 _ _ (Ext.refl _) ?_⟩
  ·have h:e1=0:=by simpa using h
   refine (jNB _ _ _ _ _ _ _ _ _ _ _ _ _).mono ?_;rintro _ w9 ⟨_,rfl,rfl,E9⟩;exact ⟨_,rfl,J3 _ _ E9 (by rw [hown,if_pos h])⟩
  ·have h:e1≠0:=by simpa using h
   rw [hown,if_neg h]
 refine ⟨fun h=>⟨s,d1.cell rfl,s5,c3.cell rfl,fun h5=>J2 _ ?_,fun h5=>J2 _ ?_⟩,fun h=>J2 _ ?_⟩
 ·have h:pe=0:=by simpa using h
  have h5:(s.len:Int)≠s5:=by simpa using h5
  rw [if_pos h,if_pos (by omega)]
 ·have h:pe=0:=by simpa using h
  have h5:(s.len:Int)=s5:=by simpa using h5
  rw [if_pos h,if_neg (by omega),h]
 ·have h:pe≠0:=by simpa using h
  rw [if_neg h]
theorem jRI (w:World):Calls prog 11 #[] w (fun e w'=>∃r:Option Addr,e=.returned (.pointer r)∧∃p,r=some p∧Pure w w'∧∃F,zT w' p [] F∧∀b,F b→w.heap.size≤b):=by
 refine w_M2 w (fun r w'=>∃p,r=some p∧Pure w w'∧∃F,zT w' p [] F∧∀b,F b→w.heap.size≤b) ?_;unfold m_M2;intro p1 w1 h1 p2 w2 h2;have E1:Pure w w1:=Ext.new h1;have m2:CMap w2 p1.block []:=(CMap.of_new h1).ext (Ext.new h2:Pure w1 w2) id;have n12:p1.block≠p2.block:=New.ne h2 h1.block_new;refine ⟨p2,rfl,E1.trans (Ext.new h2),fun b=>b=p2.block∨Sl.nil.blk b∨b=p1.block,⟨Sl.nil,p1.block,⟨Box.of_new h2,by simpa using Rws.nil _ _ _,by simpa [tV] using m2,n12,?_,?_⟩,fun _=>Iff.rfl⟩,?_⟩
 ·rintro ⟨a,h,_⟩;cases h
 ·rintro ⟨a,h,_⟩;cases h
 ·rintro b (rfl | ⟨a,h,_⟩ | rfl)
  ·exact New.own E1 h2
  ·cases h
  ·exact New.own (Ext.refl w) h1
theorem jPV (L:Sp.Pool) (n:Nat):tV (L.take n)=(tV L).take n:=by
 apply List.ext_getElem?;intro i;simp only [tV,List.getElem?_map,List.getElem?_zipIdx,List.getElem?_take];split <;> simp
theorem jSI (L:Sp.Pool):(tV L).map (·.1)=(L.map (·.node)).map jDW:=by
 apply List.ext_getElem?;intro i;simp only [tV,List.getElem?_map,List.getElem?_zipIdx];cases L[i]? <;> simp
theorem c_cut (p:Addr) (n:Nat) (w:World) {L:Sp.Pool} {F:NP} (hP:zT w p L F) (hok:Sp.Ok L) (hn:n≤L.length) :
  Calls prog 56 #[.pointer (some p),.int .i64 n] w (fun e w'=>e=.returned (.tuple #[])∧zT w' p (L.take n) F∧Ext F w w'):=by
 suffices key:∀K:WP,(∀w',zT w' p (L.take n) F∧Ext F w w'→K w')→m_I1 (some p) n w K from
  w_I1 _ _ w _ (key _ (fun _ h=>h))
 intro K hK
 unfold m_I1
 obtain ⟨s,m,hS,hF⟩:=hP
 have hfew:=hok.few
 have hcap:s.len≤s.cap:=by
  have:=hS.rows.len;rcases hS.rows.own with ⟨rfl,_⟩ | ⟨g,cur,_,_,hc,_⟩
  ·simp [Sl.nil]
  ·omega
 obtain ⟨s1,hr1,hl1⟩:=hS.rows.lst.lo (P:=prog) jEX hcap (k:=.i64) (n:=n) (by omega) (by simpa using hn)
 have hlen1:s1.len=L.length - n:=by rw [hl1.len];simp
 refine ⟨p,rfl,s,hS.box.cell0,s1,hr1,?_⟩
 refine ⟨fun x w'=>∃j:Nat,x=j∧j≤L.length - n∧Ext (·=m) w w'∧CMap w' m ((tV L).take n++(tV L).drop (n+j)),fun x _=>((L.length:Int) - x).toNat,⟨0,rfl,Nat.zero_le _,Ext.refl w,by simpa using hS.map⟩,?_⟩
 rintro _ wl ⟨j,rfl,hj,El,hml⟩
 have hboxl:=hS.box.ext El hS.n1.symm
 have hrowsl:=hS.rows.ext El (fun b hb e=>hS.n3 (e▸hb))
 unfold m_I1_l1
 refine ⟨fun h=>?_,fun h=>?_⟩
 ·have hlt:n+j<L.length:=by have h:=of_decide_eq_true h;omega
  have hll:=hl1.ext El (fun b hb e=>hS.n3 (e▸hb))
  obtain ⟨a,hat,_,hrow⟩:=hll.at_ j (by simp;omega)
  generalize he:L[n+j]=e at *
  have hrow':Row wl a (jOP e):=by
   have:((L.map jOP).drop ((n:Int).toNat))[j]'(by simp;omega)=jOP e:=by simp [he]
   rw [this] at hrow;exact hrow
  obtain ⟨nd,sz,dp⟩:=e
  obtain ⟨k,f,t,u,x,a1,b1⟩:=nd
  refine ⟨a,hat,_,_,_,_,_,_,_,_,_,hrow',?_⟩
  intro p2 w1 h1
  have E1:Pure wl w1:=Ext.new h1
  have o1:=New.own (Ext.refl wl) h1
  refine bx 9 (Box.of_new h1) rfl rfl (fun w2 b2 E=>?_)
  have E2:Pure wl w2:=E1.own o1 E
  refine ⟨fun w'=>w'.cell? (p.add 1)=some (.map (some m))∧Row w' p2 (tF ⟨k,f,t,u,x,a1,b1⟩),⟨(hboxl.pure (E2.thenPure (Ext.drew w2))).cell (i:=1) rfl,?_⟩,?_⟩
  ·have : Row w2 p2 (tF ⟨k, f, t, u, x, a1, b1⟩) := fun i hi => by
    have:=b2.row i (by simp [tF] at hi ⊢;omega);rw [this];have h7:i<7:=by simpa [tF] using hi
    have:i=0∨i=1∨i=2∨i=3∨i=4∨i=5∨i=6:=by omega
    rcases this with rfl | rfl | rfl | rfl | rfl | rfl | rfl <;> rfl
   exact Ext.row (F:=None) (Ext.drew w2) this id
  intro w3 hw3
  have E3:Pure wl w3:=by rw [hw3];exact E2.thenPure (Ext.drew w2)
  clear hw3
  refine ⟨p,rfl,some m,fun w' h=>h.1,k,f,t,u,x,a1,b1,fun w' h=>h.2,?_⟩
  have hm3:=hml.ext E3 id
  have hpl:(tV L).length=L.length:=by simp [tV]
  have hget:(tV L)[n+j]?=some (jDW ⟨k,f,t,u,x,a1,b1⟩,.int .i64 (n+j+1:Nat)):=by
   simp only [tV,List.getElem?_map,List.getElem?_zipIdx,List.getElem?_eq_getElem hlt,he];simp
  have hidx:((tV L).take n++(tV L).drop (n+j))[n]?=some (jDW ⟨k,f,t,u,x,a1,b1⟩,.int .i64 (n+j+1:Nat)):=by
   have e0:n+j+(n - ((tV L).take n).length)=n+j:=by rw [List.length_take];omega
   rw [List.getElem?_append_right (by rw [List.length_take];omega),List.getElem?_drop,e0,hget]
  have hnd:((tV L).map (·.1)).Nodup:=by
   rw [jSI,List.nodup_iff_pairwise_ne,List.pairwise_map];exact hok.nodup.imp (fun h e=>h (jHN.1 e))
  have hsub:List.Sublist ((tV L).take n++(tV L).drop (n+j)) (tV L):=by
   conv=>rhs;rw [← List.take_append_drop n (tV L)]
   refine (List.Sublist.refl _).append ?_;have e0:(tV L).drop (n+j)=((tV L).drop n).drop j:=by rw [List.drop_drop]
   rw [e0];exact List.drop_sublist _ _
  have hnd2:(((tV L).take n++(tV L).drop (n+j)).map (·.1)).Nodup:=hnd.sublist (hsub.map _)
  obtain ⟨w4,hr4,hm4,E4⟩:=hm3.delete (P:=prog) (Q:=103) (z:=0) underlying93 jAL (fun q hq=>jCF q (hsub.subset hq)) ⟨_,rfl⟩ hidx (fun i u hi=>by
   obtain ⟨hi1,hi2⟩:=List.getElem?_eq_some_iff.1 hi;obtain ⟨hn1,hn2⟩:=List.getElem?_eq_some_iff.1 hidx;refine Classical.byContradiction fun hne=>?_;have hne:=List.pairwise_iff_getElem.1 hnd2;rcases Nat.lt_or_gt_of_ne ‹_› with hlt | hlt
   ·exact hne i n (by simpa using hi1) (by simpa using hn1) hlt (by rw [List.getElem_map,List.getElem_map,hi2,hn2])
   ·exact hne n i (by simpa using hn1) (by simpa using hi1) hlt (by rw [List.getElem_map,List.getElem_map,hi2,hn2]))
  refine ⟨w4,hr4,⟨j+1,?_,by omega,(El.trans E3.pure).trans E4,?_⟩,?_⟩
  ·rw [i64 (by omega) (by omega)];omega
  ·rw [List.eraseIdx_append_of_length_le (by rw [List.length_take];omega)] at hm4
   have:n - ((tV L).take n).length=0:=by rw [List.length_take];omega
   rw [this] at hm4
   have hd:((tV L).drop (n+j)).eraseIdx 0=(tV L).drop (n+(j+1)):=by
    rw [List.drop_eq_getElem_cons (by omega)];simp;rfl
   rw [hd] at hm4;exact hm4
  ·show ((L.length:Int) - IntKind.i64.wrap ((j:Int)+1)).toNat<((L.length:Int) - (j:Int)).toNat
   rw [i64 (by omega) (by omega)];omega
 ·have hge:n+j=L.length:=by have h:=of_decide_eq_false h;omega
  have hpl:(tV L).length=L.length:=by simp [tV]
  rw [hge,← hpl,List.drop_length,List.append_nil] at hml
  obtain ⟨s2,hr2,hrows2,hb2⟩:=hrowsl.hi (P:=prog) jEX (k:=.i64) (n:=n) (by omega) (by simpa using hn)
  refine ⟨p,rfl,s,hboxl.cell0,s2,hr2,p,rfl,hboxl.canW0 (by simp),?_⟩
  rintro w5 hw5
  have hbox5:Box w5 p [s2.v,.map (some m)] 96:=by rw [hw5];exact hboxl.set0
  have E5:Ext (·=p.block) wl w5:=by rw [hw5];exact Ext.setCell p _
  clear hw5
  refine hK _ ⟨⟨s2,m,⟨hbox5,?_,?_,hS.n1,fun h=>hS.n2 ((hb2 _).1 h),fun h=>hS.n3 ((hb2 _).1 h)⟩,fun b=>by rw [hF b,hb2 b]⟩,?_⟩
  ·have:=hrows2.ext E5 (fun b hb e=>hS.n2 (by rw [← e];exact (hb2 _).1 hb))
   simpa using this
  ·rw [jPV];exact hml.ext E5 hS.n1
  ·exact (El.mono (fun i _ h=>(hF i).2 (.inr (.inr h)))).trans' E5 (fun i _ h=>(hF i).2 (.inl h))
theorem jFQ {n:Sp.Node} {i:Nat} {L:Sp.Pool} {t:Sp.Tree} {ts:List Sp.Tree} (h:(Sp.grow L t).2.1≠0):Sp.vP n i L (t :: ts)=(0,(Sp.grow L t).2.1,(Sp.grow L t).2.2):=by rw [Sp.vP,if_pos h]
theorem jDP {n:Sp.Node} {i:Nat} {L:Sp.Pool} {t:Sp.Tree} {ts:List Sp.Tree} (h:(Sp.grow L t).2.1=0):Sp.vP n i L (t :: ts)=Sp.vP (if i=0 then { n with a:=(Sp.grow L t).1 } else { n with b:=(Sp.grow L t).1 }) (i+1) (Sp.grow L t).2.2 ts:=by rw [Sp.vP,if_neg (by simp [h])]
def Sp.Tree.two (t:Sp.Tree):Prop:=Sp.Tree.rec (motive_1:=fun _=>Prop) (motive_2:=fun _=>Prop) (fun _ _ _ _ _ ks h=>ks.length≤2∧h) True (fun _ _ h1 h2=>h1∧h2) t
def jIK:List Sp.Tree→Prop
 | []=>True
 | t :: ts=>Sp.Tree.two t∧jIK ts
theorem jPA {k f t u:Int} {x:ByteArray} {ks:List Sp.Tree}:Sp.Tree.two (.mk k f t u x ks)↔ks.length≤2∧jIK ks:=by
 have:∀ks:List Sp.Tree,(Sp.Tree.rec_1 (motive_1:=fun _=>Prop) (motive_2:=fun _=>Prop) (fun _ _ _ _ _ ks h=>ks.length≤2∧h) True (fun _ _ h1 h2=>h1∧h2) ks:Prop)=jIK ks:=by
  intro ks;induction ks with
  | nil=>rfl
  | cons t ts ih=>show (Sp.Tree.two t∧_)=(Sp.Tree.two t∧_);rw [ih]
 show (ks.length≤2∧_)↔_;rw [this]
theorem jGK {ks:List Sp.Tree} (h:jIK ks) {i:Nat} (hi:i<ks.length):Sp.Tree.two ks[i]:=by
 induction ks generalizing i with
 | nil=>simp at hi
 | cons t ts ih =>
  cases i with
  | zero=>exact h.1
  | succ i=>exact ih h.2 (by simpa using hi)
theorem c_grow {S:NP} (p:Addr) (t:Sp.Tree):∀(s:Sl) (w:World) (L:Sp.Pool) (F:NP),Sp.Tree.two t→TreeAt S w s t→zT w p L F→Sp.Ok L→(∀b,F b→¬ S b)→(∀b,S b→b<w.heap.size) →
  Calls prog 55 #[.pointer (some p),.agg (qX t s).toArray] w
   (fun e w'=>∃r1:Int,∃r2:Int,e=.returned (.tuple #[.int .i64 r1,.int .i64 r2])∧((r1,r2)=((Sp.grow L t).1,(Sp.grow L t).2.1)∧∃F',zT w' p (Sp.grow L t).2.2 F'∧Ext F w w'∧∀b,F' b→F b∨w.heap.size≤b)):=by
 induction t using Sp.Tree.ind with
 | h k f t u x ks ih =>
 intro s w L F h2 hT hP hok hFS hSw
 suffices key:∀K:Int→Int→WP,(∀r1 r2 w',((r1,r2)=((Sp.grow L (.mk k f t u x ks)).1,(Sp.grow L (.mk k f t u x ks)).2.1)∧∃F',zT w' p (Sp.grow L (.mk k f t u x ks)).2.2 F'∧Ext F w w'∧∀b,F' b→F b∨w.heap.size≤b)→K r1 r2 w')→m_H1 (some p) k f t u x s w K from
  w_H1 _ _ _ _ _ _ _ w _ (key _ (fun _ _ _ h=>h))
 intro K hK
 obtain ⟨hk2,hall⟩:=jPA.1 h2
 unfold m_H1
 intro p2 w1 h1
 have b1:=Box.of_new h1
 have E1:Pure w w1:=Ext.new h1
 refine ⟨_,_,_,_,_,_,b1.row,?_⟩
 refine (jMY _ _ _ _ _ _ w1).mono ?_
 rintro _ w2 ⟨k',f',t',u',x',a',b',rfl,hn,E12⟩
 cases hn
 refine ⟨_,_,_,_,_,_,_,rfl,?_⟩
 intro p3 w3 h3
 have E3:Pure w w3:=(E1.trans E12).trans (Ext.new h3)
 have o3:=New.own (E1.trans E12) h3
 have n23:p2.block≠p3.block:=New.ne h3 (b1.pure E12).blk
 refine bx 7 (Box.of_new h3) rfl rfl (fun w4 b3 E34=>?_)
 have E4:Pure w w4:=E3.own o3 E34
 have b2:=((b1.pure E12).pure (Ext.new h3)).ext E34 n23
 intro p4 w5 h5
 have E5:Pure w w5:=E4.trans (Ext.new h5)
 have o4:=New.own E4 h5
 have n34:p3.block≠p4.block:=New.ne h5 b3.blk
 have c3:=b3.pure (Ext.new h5:Pure w4 w5)
 have c4:=Box.of_new h5
 have c2:=b2.pure (Ext.new h5:Pure w4 w5)
 refine ⟨s,c2.cell rfl,?_⟩
 have hsp:Sp.grow L (.mk k f t u x ks)=Sp.vP ⟨k,f,t,u,x,0,0⟩ 0 L ks:=by rw [Sp.grow]
 rw [hsp] at hK
 have hlen:s.len=ks.length:=by cases hT;assumption
 refine ⟨fun i w'=>∃j:Nat,i=j∧j≤ks.length∧∃(nd:Sp.Node) (L':Sp.Pool) (F':NP),Sp.vP ⟨k,f,t,u,x,0,0⟩ 0 L ks=Sp.vP nd j L' (ks.drop j)∧Sp.Ok L'∧zT w' p L' F'∧(∀b,F' b→F b∨w.heap.size≤b)∧¬ F' p3.block∧¬ F' p4.block∧Ext F w w'∧Box w' p3 (tF nd) 103∧Box w' p4 [.pointer (some (p3.add 5)),.pointer (some (p3.add 6))] 174,fun i _=>((ks.length:Int) - i).toNat,
  ⟨0,rfl,Nat.zero_le _,⟨k,f,t,u,x,0,0⟩,L,F,by simp,hok,hP.pure E5,fun b h=>.inl h,fun h=>by have:=hP.lt h;omega,fun h=>by have:=hP.lt h;omega,E5.pure,c3,c4⟩,?_⟩
 rintro _ wl ⟨j,rfl,hj,nd,L',F',heq,hok',hPl,hF',hn3,hn4,El,d3,d4⟩
 unfold m_H1_l1
 refine ⟨fun h=>?_,fun h=>?_⟩
 ·have hlt:j<ks.length:=by have h:=of_decide_eq_true h;omega
  have hTl:TreeAt S wl s (.mk k f t u x ks):=hT.ext El (fun b hs hf=>hFS b hf hs)
  have hkid:∀i (h:i<ks.length),∃a r,At s i 6 a∧Row wl a (qX ks[i] r)∧TreeAt S wl r ks[i]:=by
   cases hTl with
   | mk _ _ _ _ _ _ _ rs len fit row kid=>exact fun i h=>let ⟨a,h1,_,h3⟩:=row i h;⟨a,rs i,h1,h3,kid i h⟩
  obtain ⟨a,r,hat,hrow,hTk⟩:=hkid j hlt
  refine ⟨a,hat,_,_,_,_,_,r,hrow,?_⟩
  intro p5 w6 h6
  have o5:=New.own (Ext.refl wl) h6
  refine bx 6 (Box.of_new h6) rfl rfl (fun w7 b5 E67=>?_)
  have E7:Pure wl w7:=Ext.own (Ext.new h6) o5 E67
  refine ⟨_,_,_,_,_,r,b5.row,?_⟩
  have hsz:w.heap.size≤wl.heap.size:=El.size
  refine (ih j hlt r w7 L' F' (jGK hall hlt) (hTk.pure E7) (hPl.pure E7) hok' (fun b hb hs=>(hF' b hb).elim (fun h=>hFS b h hs) (fun h=>by have:=hSw b hs;omega)) (fun b hs=>by have:=hSw b hs;have:=E7.size;omega)).mono ?_
  rintro _ w8 ⟨r1,r2,rfl,hr,F8,hP8,E8,hF8⟩
  have e1:r1=(Sp.grow L' ks[j]).1:=congrArg Prod.fst hr
  have e2:r2=(Sp.grow L' ks[j]).2.1:=congrArg Prod.snd hr
  rw [List.drop_eq_getElem_cons hlt] at heq
  have hF8':∀b,F8 b→F b∨w.heap.size≤b:=fun b hb=>(hF8 b hb).elim (hF' b) (fun h=>by right;have:=E7.size;omega)
  have Ew8:Ext F w w8:=(El.thenPure E7).trans' E8 (fun i hi h=>(hF' i h).elim id (fun h=>by omega))
  refine ⟨_,_,rfl,fun h=>?_,fun h=>?_⟩
  ·have h:(Sp.grow L' ks[j]).2.1≠0:=by rw [← e2];simpa using h
   rw [jFQ h] at heq
   refine hK _ _ _ ?_
   rw [heq];exact ⟨by rw [e2],F8,hP8,Ew8,hF8'⟩
  ·have h:(Sp.grow L' ks[j]).2.1=0:=by rw [← e2];simpa using h
   rw [jDP h] at heq
   have q3:=(d3.pure E7).ext E8 hn3
   have q4:=(d4.pure E7).ext E8 hn4
   have hs7:wl.heap.size≤w7.heap.size:=E7.size
   have n38:¬ F8 p3.block:=fun h=>(hF8 _ h).elim hn3 (fun h=>by have:=(d3.pure E7).lt;omega)
   have n48:¬ F8 p4.block:=fun h=>(hF8 _ h).elim hn4 (fun h=>by have:=(d4.pure E7).lt;omega)
   have hok8:=(Sp.jAM ks[j] L' hok').1
   have fin : ∀ (w9 : World) (nd' : Sp.Node), nd' = (if j = 0 then { nd with a := (Sp.grow L' ks[j]).1 } else { nd with b := (Sp.grow L' ks[j]).1 }) → Box w9 p3 (tF nd') 103 → Ext (· = p3.block) w8 w9 →
     (∃j':Nat,IntKind.i64.wrap ((j:Int)+1)=j'∧j'≤ks.length∧∃(nd:Sp.Node) (L':Sp.Pool) (F':NP),Sp.vP ⟨k,f,t,u,x,0,0⟩ 0 L ks=Sp.vP nd j' L' (ks.drop j')∧Sp.Ok L'∧zT w9 p L' F'∧(∀b,F' b→F b∨w.heap.size≤b)∧¬ F' p3.block∧¬ F' p4.block∧Ext F w w9∧Box w9 p3 (tF nd) 103∧Box w9 p4 [.pointer (some (p3.add 5)),.pointer (some (p3.add 6))] 174)∧((ks.length:Int) - IntKind.i64.wrap ((j:Int)+1)).toNat<((ks.length:Int) - (j:Int)).toNat:=by
    intro w9 nd' hnd B9 E9
    rw [i64 (by omega) (by omega)]
    refine ⟨⟨j+1,by omega,hlt,nd',_,F8,by rw [heq,hnd],hok8,hP8.ext E9 (fun b hb e=>n38 (e▸hb)),hF8',n38,n48,Ew8.trans' E9 (fun i hi h=>by subst h;omega),B9,q4.ext E9 n34.symm⟩,by omega⟩
   have hj2:j=0∨j=1:=by omega
   rcases hj2 with rfl | rfl
   ·refine ⟨p4,⟨by omega,by simp,p4,rfl,rfl⟩,some (p3.add 5),q4.cell0,p3.add 5,rfl,q3.canW (by simp [tF]),?_⟩
    intro w9 hw9
    refine fin w9 _ rfl ?_ ?_
    ·rw [hw9,e1];exact q3.set 5 _
    ·rw [hw9];have:=Ext.setCell (w:=w8) (p3.add 5) (.int .i64 r1);rw [zU] at this;exact this
   ·refine ⟨p4.add 1,⟨by omega,by simp,p4,rfl,rfl⟩,some (p3.add 6),q4.cell rfl,p3.add 6,rfl,q3.canW (by simp [tF]),?_⟩
    intro w9 hw9
    refine fin w9 _ rfl ?_ ?_
    ·rw [hw9,e1];exact q3.set 6 _
    ·rw [hw9];have:=Ext.setCell (w:=w8) (p3.add 6) (.int .i64 r1);rw [zU] at this;exact this
 ·have hge:j=ks.length:=by have h:=of_decide_eq_false h;omega
  rw [hge,List.drop_length,Sp.vP] at heq
  obtain ⟨k0,f0,t0,u0,x0,a0,b0⟩:=nd
  refine ⟨_,_,_,_,_,_,_,d3.row,?_⟩
  refine (jRJ p k0 f0 t0 u0 x0 a0 b0 wl hPl hok').mono ?_
  rintro _ w9 ⟨r1,r2,rfl,hr,F9,hP9,E9,hF9⟩
  have hsz:w.heap.size≤wl.heap.size:=El.size
  refine ⟨_,_,rfl,hK _ _ _ ?_⟩
  rw [heq]
  exact ⟨hr,F9,hP9,El.trans' E9 (fun i hi h=>(hF' i h).elim id (fun h=>by omega)),fun b hb=>(hF9 b hb).elim (hF' b) (fun h=>by right;omega)⟩
theorem jJE (t:Sp.Tree):∀i n:Int,(Sp.qT i n t).1=0→Sp.Tree.two t:=by
 induction t using Sp.Tree.ind with
 | h k f t u x ks ih =>
  have hA:∀(ks:List Sp.Tree),(∀i (hi:i<ks.length),∀j n:Int,(Sp.qT j n ks[i]).1=0→Sp.Tree.two ks[i])→∀i e n:Int,(Sp.vV i e n ks).1=0→e=0∧jIK ks:=by
   intro ks;induction ks with
   | nil=>intro _ i e n h;exact ⟨by simpa [Sp.vV] using h,trivial⟩
   | cons t ts iht =>
    intro hh i e n h
    unfold Sp.vV at h
    split at h
    ·rename_i he
     have:=iht (fun i hi=>hh (i+1) (by simpa using hi)) _ _ _ h
     exact ⟨he,hh 0 (by simp) i n this.1,this.2⟩
    ·rename_i he;exact absurd h he
  intro i n h
  unfold Sp.qT at h
  split at h
  ·cases h
  ·split at h
   ·cases h
   ·have:=hA ks ih _ _ _ h
    refine jPA.2 ⟨?_,this.2⟩
    have ho:=this.1
    unfold Sp.uH at ho
    simp only at ho
    have hk:=Sp.uL k
    by_cases hp:Sp.zZ ⟨k,f,t,u,x,0,0⟩=0
    ·rw [if_pos hp] at ho
     by_cases hl:(ks.length:Int)≠(Sp.shapeOf k).kids
     ·rw [if_pos hl] at ho;simp at ho
     ·omega
    ·rw [if_neg hp,if_neg hp] at ho;exact absurd ho hp
theorem c_Of {S:NP} (p:Addr) (t:Sp.Tree) (s:Sl) (w:World) {L:Sp.Pool} {F:NP} (hT:TreeAt S w s t) (hP:zT w p L F) (hok:Sp.Ok L) (hFS:∀b,F b→¬ S b) (hSw:∀b,S b→b<w.heap.size) :
  Calls prog 13 #[.pointer (some p),.agg (qX t s).toArray] w
   (fun e w'=>∃r1:Int,∃r2:Int,e=.returned (.tuple #[.int .i64 r1,.int .i64 r2])∧((r1,r2)=((Sp.of L t).1,(Sp.of L t).2.1)∧∃F',zT w' p (Sp.of L t).2.2 F'∧Ext F w w'∧∀b,F' b→F b∨w.heap.size≤b)):=by
 obtain ⟨k,f,to,u,x,ks⟩:=t
 suffices key:∀K:Int→Int→WP,(∀r1 r2 w',((r1,r2)=((Sp.of L (.mk k f to u x ks)).1,(Sp.of L (.mk k f to u x ks)).2.1)∧∃F',zT w' p (Sp.of L (.mk k f to u x ks)).2.2 F'∧Ext F w w'∧∀b,F' b→F b∨w.heap.size≤b)→K r1 r2 w')→m_B2 (some p) k f to u x s w K from
  w_B2 _ _ _ _ _ _ _ w _ (key _ (fun _ _ _ h=>h))
 intro K hK
 unfold m_B2
 intro p2 w1 h1
 have b1:=Box.of_new h1
 have E1:Pure w w1:=Ext.new h1
 refine Br.f rfl ?_
 intro p3 w2 h2
 have E2:Pure w w2:=E1.trans (Ext.new h2)
 have o3:=New.own E1 h2
 have c3:=Box.of_new h2
 have n23:p2.block≠p3.block:=New.ne h2 b1.blk
 refine ⟨c3.canW0 (by simp),?_⟩
 intro w3 hw3
 have c3':Box w3 p3 [.int .i64 0] 3:=by rw [hw3];exact c3.set0
 have E23:Ext (·=p3.block) w2 w3:=by rw [hw3];exact Ext.setCell p3 _
 clear hw3
 have E3:Pure w w3:=E2.own o3 E23
 have b3:=(b1.pure (Ext.new h2:Pure w1 w2)).ext E23 n23
 refine ⟨_,_,_,_,_,s,b3.row,?_⟩
 generalize ht:Sp.Tree.mk k f to u x ks=t at *
 have htr:(Value.agg #[.int .i64 k,.int .i64 f,.int .i64 to,.int .u64 u,.string x,s.v])=.agg (qX t s).toArray:=by rw [← ht];rfl
 rw [htr]
 refine (jVN p3 (fun h=>by have:=hSw _ h;omega) _ t s 0 0 w3 (by omega) (by omega) (hT.pure E3) c3').mono ?_
 rintro _ w4 ⟨r1,rfl,rfl,_,E34⟩
 have E4:Pure w w4:=E3.own o3 E34
 have b4:=b3.ext E34 n23
 have same:∀w',Pure w w'→∃F',zT w' p L F'∧Ext F w w'∧∀b,F' b→F b∨w.heap.size≤b:=fun w' E=>⟨F,hP.pure E,E.pure,fun _ h=>.inl h⟩
 refine ⟨_,rfl,fun h=>?_,fun h=>?_⟩
 ·have h:(Sp.qT 0 0 t).1≠0:=by simpa using h
  have:Sp.of L t=(0,(Sp.qT 0 0 t).1,L):=by rw [Sp.of,if_pos h]
  refine hK _ _ _ ?_
  rw [this];exact ⟨rfl,same _ E4⟩
 ·have h:(Sp.qT 0 0 t).1=0:=by simpa using h
  have hP4:=hP.pure E4
  obtain ⟨s0,m0,hS0,hF0⟩:=id hP4
  have hl0:s0.len=L.length:=by rw [hS0.rows.len];simp
  refine ⟨p,rfl,s0,hS0.box.cell0,_,_,_,_,_,s,b4.row,?_⟩
  rw [htr]
  refine (c_grow p t s w4 L F (jJE t _ _ h) (hT.pure E4) hP4 hok hFS (fun b hb=>by have:=hSw b hb;have:=E4.size;omega)).mono ?_
  rintro _ w5 ⟨r1,r2,rfl,hr,F5,hP5,E45,hF5⟩
  have e1:r1=(Sp.grow L t).1:=congrArg Prod.fst hr
  have e2:r2=(Sp.grow L t).2.1:=congrArg Prod.snd hr
  have hs4:w.heap.size≤w4.heap.size:=E4.size
  have E5:Ext F w w5:=E4.pure.trans E45
  have hF5':∀b,F5 b→F b∨w.heap.size≤b:=fun b hb=>(hF5 b hb).elim .inl (fun h=>.inr (by omega))
  refine ⟨_,_,rfl,fun h'=>?_,fun h'=>?_⟩
  ·have h':(Sp.grow L t).2.1≠0:=by rw [← e2];simpa using h'
   obtain ⟨hok5,M,hM⟩:=Sp.jAM t L hok
   rw [hl0]
   refine (c_cut p L.length w5 hP5 hok5 (by rw [hM];simp)).mono ?_
   rintro _ w6 ⟨rfl,hP6,E56⟩
   have:Sp.of L t=(0,(Sp.grow L t).2.1,L):=by rw [Sp.of,if_neg (by simp [h]),if_pos h']
   refine ⟨rfl,hK _ _ _ ?_⟩
   rw [this]
   rw [hM,List.take_left] at hP6
   exact ⟨by rw [e2],F5,hP6,E5.trans' E56 (fun i hi h=>(hF5' i h).elim id (fun h=>by omega)),hF5'⟩
  ·have h':(Sp.grow L t).2.1=0:=by rw [← e2];simpa using h'
   have:Sp.of L t=((Sp.grow L t).1,0,(Sp.grow L t).2.2):=by rw [Sp.of,if_neg (by simp [h]),if_neg (by simp [h'])]
   refine hK _ _ _ ?_
   rw [this]
   exact ⟨by rw [e1],F5,hP5,E5,hF5'⟩
end Go.Proofs
end
