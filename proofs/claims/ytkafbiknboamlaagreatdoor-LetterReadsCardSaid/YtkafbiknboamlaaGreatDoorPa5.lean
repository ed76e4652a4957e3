import Derived.Test.YtkafbiknboamlaaGreatDoorProg
import Derived.KernelRfl
import Derived.Test.YtkafbiknboamlaaGreatDoorPa2
import Derived.Test.YtkafbiknboamlaaGreatDoorPa4
import Derived.Laws.IdiomStrings
import Init.Data.Nat
import Derived.Recover
section
open Go Go.SE
open Go.IntKind renaming i64 → q6
namespace Go.Proofs
open Tryz
set_option maxRecDepth 100000
set_option maxHeartbeats 4000000
attribute [local irreducible] wpL wpX opE wpE Calls
def m_K1_l1 (aI:Sl) (most1 n1 i1:Int) (w0:World) (Hl1:NP) (wl1:World) (Kc1:Int→Int→NP→WP) (K:Int→WP):Prop :=Br ((decide (i1<(aI.len:Int))) && (decide (n1≤most1))) (∃a1:Addr,At aI i1 6 a1∧∀H2 w2,Hst w0 Hl1 wl1 H2 w2→∃aN aO aP aQ aR bD,Row w2 a1 (Ab aN aO aP aQ aR bD)∧Calls prog 10 #[(.agg #[(vi aN),(vi aO),(vi aP),(vu aQ),(vs aR),bD.v]),(vi (q6.wrap (most1 - n1)))] w2 (fun e w3=>∃r1,e=.returned (vi r1)∧Kept H2 w2 w3∧Kc1 (q6.wrap (n1+r1)) (q6.wrap (i1+1)) H2 w3)) (∀H2 w2,Hst w0 Hl1 wl1 H2 w2→K n1 w2)
def m_K1 (aD aE:Int) (aF aG:Int) (aH:ByteArray) (aI:Sl) (most1:Int) (w0:World) (K:Int→WP):Prop :=∀H1 w1,Hst w0 None w0 H1 w1→∃(I1:Int→Int→NP→WP) (mu1:Int→Int→World→Nat),I1 1 0 H1 w1∧∀(n1 i1:Int) (Hl1:NP) (wl1:World),Hst w0 Hl1 wl1 Hl1 wl1→I1 n1 i1 Hl1 wl1→m_K1_l1 aI most1 n1 i1 w0 Hl1 wl1 (fun y'0 y'1 H' w'=>I1 y'0 y'1 H' w'∧mu1 y'0 y'1 w'<mu1 n1 i1 wl1) K
theorem w_K1 (aD aE aF aG aH aI most1 w0 K) (h:m_K1 aD aE aF aG aH aI most1 w0 K):
  Calls prog 10 #[(.agg #[(vi aD),(vi aE),(vi aF),(vu aG),(vs aH),aI.v]),(vi most1)] w0 (fun e w'=>∃r2,e=.returned (vi r2)∧K r2 w'):=by
 refine cw (args:=[(Aa aD aE aF aG aH aI),(vi most1)]) func10 ntmps10 ?_
 obtain ⟨hs,hb⟩:=st0 w0
 refine eg (nw3 (Ab aD aE aF aG aH aI) 28 hs hb xb fun p1 w1 H1 hs hb=>q (ln (eg (q (ln (zA (eg (q (ln (zL ?_))))))))))
 have ⟨h,hs⟩:=hs.hr (h H1 w1)
 obtain ⟨I1,mu1,h0,hr⟩:=h
 refine vR (σ:=Int×Int×NP×World) (fun s ρ w=>w=s.2.2.2∧Has ρ [(1,(vi most1)),(2,(vp (some p1))),(5,(vi s.1)),(6,(vi s.2.1))]∧Hst w0 s.2.2.1 w s.2.2.1 w∧HB s.2.2.1 w [(p1,(Ab aD aE aF aG aH aI),28)]∧I1 s.1 s.2.1 s.2.2.1 s.2.2.2) (fun s=>mu1 s.1 s.2.1 s.2.2.2) (1,0,H1,w1) ⟨rfl,hm,hs,hb,h0⟩ ?_
 rintro ⟨n1,i1,Hl1,wl1⟩ ρ w ⟨hw,hH,hs,hb,hI⟩
 dsimp only at hw hH hs hb;subst w
 have h:=hr n1 i1 Hl1 wl1 hs hI
 refine zR hH (zA (zA (vO (fun ρ wJ=>∃b1'0:Bool,∃HJ:NP,((decide (i1<(aI.len:Int)))=b1'0)∧Hst w0 Hl1 wl1 HJ wJ∧HB HJ wJ [(p1,(Ab aD aE aF aG aH aI),28)]∧Has ρ [(1,(vi most1)),(2,(vp (some p1))),(5,(vi n1)),(6,(vi i1)),(16,(vb (b1'0 && (decide (n1≤most1)))))]) ?_ ?_)))
 refine rg (qb (q3 (xl (isAgg22 _) (hb.d 0 5 gZ)) (qc ?_)))
 rcases bte (decide (i1<(aI.len:Int))) with hg2 | hg2
 refine qk 12 hg2 (qk 12 hg2 (qk 12 hg2 (q2 (vb (decide (n1≤most1))) (xT hg2) (ln ⟨true,_,hg2,hs,hb,hm⟩))))
 refine sj3 12 hg2 (q2 (vb false) (xF hg2) (ln ⟨false,_,hg2,hs,hb,hm⟩))
 rintro ρ w2 ⟨b1'0,H2,he0,hs,hb,hH⟩
 subst he0
 refine vC hH (zN (cbr h ?_ ?_))<;>intro h
 refine zD (zN (zA (zL (rg (qb (q3 (xl (isAgg22 _) (hb.d 0 5 gZ)) (q (qi (runUnderlying22 _) (sizeOf28 _) h fun a1 h=>?_))))))))
 have ⟨h,hs⟩:=hs.hr (h H2 w2)
 obtain ⟨aN,aO,aP,aQ,aR,bD,hv1,h⟩:=h
 refine qa (isAgg28 _) (sizeOf28 _) hv1 (qc (sc call10 (h.mono fun e w3 ⟨r1,k,hk,h⟩=>have ⟨hs,hb⟩:=hk.hh hs hb;⟨_,k,?_⟩)))
 refine qb (zC (tG (zN (rg (qc (ln ⟨((q6.wrap (n1+r1)),(q6.wrap (i1+1)),H2,w3),⟨rfl,hm,hs,hb,h.1⟩,h.2⟩))))))
 refine vN (xH (xH (xB (zN (eg (q0 (vi n1) (q0 (vi n1) (ln (er ?_)))))))))
 have ⟨h,hs⟩:=hs.hr (h H2 w2)
 refine rs1 results10 ⟨n1,rfl,h⟩
def m_O3  (w0:World) (K:(Option Addr)→WP):Prop :=∀p1 w1,New w0 (.cells #[Sl.nil.v,Sl.nil.v,Sl.nil.v] 52) p1 w1→K (some p1) w1
theorem w_O3  (w0:World) (K:(Option Addr)→WP) (h:m_O3  w0 K) :
  Calls prog 12 #[] w0 (fun e w'=>∃r1,e=.returned (vp r1)∧K r1 w'):=by
 refine cw (args:=[]) func12 ntmps12 (eg (q0 (vp none) (ln (eg (q0 (.agg #[Sl.nil.v,Sl.nil.v,Sl.nil.v]) (sn (O:=(.cells #[Sl.nil.v,Sl.nil.v,Sl.nil.v] 52)) xb ?_))))))
 intro p1 w1 hn1
 have h:=h p1 w1 hn1
 refine q (ln (er (rs1 results12 ⟨(some p1),rfl,h⟩)))
def s_D1 (aD aE:Int) (aF aG:Int) (aH:ByteArray) (aI:Sl):Int×Int×Int×Int×ByteArray×Int×Int :=(aD,aE,aF,aG,aH,0,0)
theorem pw_D1 (aD aE:Int) (aF aG:Int) (aH:ByteArray) (aI:Sl) (w0:World) :
  Calls prog 111 #[(.agg #[(vi aD),(vi aE),(vi aF),(vu aG),(vs aH),aI.v])] w0 (fun e w'=>(e=.returned (Ae aD aE aF aG aH 0 0))∧Pure w0 w'):=by
 refine cw (args:=[(Aa aD aE aF aG aH aI)]) func111 ntmps111 ?_
 obtain ⟨hs,hb⟩:=st0 w0
 refine eg (nw3 (Ab aD aE aF aG aH aI) 28 hs hb xb fun p1 w1 H1 hs hb=>nw3 (Ai 0 0 0 0 0 0) 103 hs hb (zH (zeroValue103 _) rfl) fun p2 w2 H2 hs hb=>ln (eg (q (q3 (xl (isAgg3 _) (hb.d0 1 (gS gZ))) (q (q3 (xl (isAgg3 _) (hb.d 1 1 (gS gZ))) (q (q3 (xl (isAgg3 _) (hb.d 1 2 (gS gZ))) (q (q3 (xl (isAgg26 _) (hb.d 1 3 (gS gZ))) (q (q3 (xl (isAgg9 _) (hb.d 1 4 (gS gZ))) (q (vW (zJ rfl) (xo p2 (Ad aD aE aF aG aH 0 0) (sizeOf103 _) (hb.k0 0 7 gZ)) ?_))))))))))))))
 intro w3 hn3
 obtain ⟨hs,hb⟩:=hb.st1 0 hs hn3 gZ
 refine ln (er (jAT (.inl rfl) (vs:=[(Ae aD aE aF aG aH 0 0)]) (v:=(Ae aD aE aF aG aH 0 0)) results111 ⟨(rva (isAgg103 _) (sizeOf103 _) (hb.r0 0 7 gZ)),trivial⟩ (by kernel_rfl) ⟨by kernel_rfl,(Ext.refl (F:=None) _).hst hs⟩))
theorem p_D1 (aD aE:Int) (aF aG:Int) (aH:ByteArray) (aI:Sl) (w0:World):Calls prog 111 #[(.agg #[(.int .i64 aD),(.int .i64 aE),(.int .i64 aF),(.int .u64 aG),(.string aH),aI.v])] w0 (fun e w'=>e=.returned (.agg #[(.int .i64 (s_D1 aD aE aF aG aH aI).1),(.int .i64 (s_D1 aD aE aF aG aH aI).2.1),(.int .i64 (s_D1 aD aE aF aG aH aI).2.2.1),(.int .u64 (s_D1 aD aE aF aG aH aI).2.2.2.1),(.string (s_D1 aD aE aF aG aH aI).2.2.2.2.1),(.int .i64 (s_D1 aD aE aF aG aH aI).2.2.2.2.2.1),(.int .i64 (s_D1 aD aE aF aG aH aI).2.2.2.2.2.2)])∧Pure w0 w'):=pw_D1 aD aE aF aG aH aI w0
def s_X1 (kind1:Int):Bool :=((kind1 == 8) || (kind1 == 9))
theorem pw_X1 (kind1:Int) (w0:World) :
  Calls prog 208 #[(vi kind1)] w0 (fun e w'=>(e=.returned (vb ((kind1 == 8) || (kind1 == 9))))∧Pure w0 w'):=by
 refine cw (args:=[(vi kind1)]) func208 ntmps208 (eg (q0 (vb false) (ln (zA ?_))))
 refine vO (fun ρ wJ=>w0=wJ∧Has ρ [(2,(vb ((kind1 == 8) || (kind1 == 9))))]) ?_ ?_
 refine rg (qc (zK 3 (fun ρ wJ=>∃b3'0:Bool,((kind1 == 8)=b3'0)∧w0=wJ∧Has ρ [(8,(vb (b3'0 || (kind1 == 9))))]) ?_ ?_))
 rintro ρ w3 ⟨b3'0,he0,hw,hH⟩
 subst he0
 subst hw
 refine zQ hH (q (ln ⟨rfl,hm⟩))
 rcases bte (kind1 == 8) with hg4 | hg4
 refine sj2 5 hg4 (q2 (vb true) (xT hg4) (zC ⟨true,hg4,rfl,hm⟩))
 refine qk 5 hg4 (qk 5 hg4 (q2 (vb (kind1 == 9)) (xF hg4) (zC ⟨false,hg4,rfl,hm⟩)))
 rintro ρ w2 ⟨hw,hH⟩
 subst hw
 refine vC hH (zN (er (rs1 results208 (v:=(vb ((kind1 == 8) || (kind1 == 9)))) ⟨by kernel_rfl,Ext.refl _⟩)))
theorem p_X1 (kind1:Int) (w0:World):Calls prog 208 #[(.int .i64 kind1)] w0 (fun e w'=>e=.returned (.bool (s_X1 kind1))∧Pure w0 w'):=pw_X1 kind1 w0
def s_D (kind1:Int):Bool :=((((kind1 == 1) || (kind1 == 6)) || (kind1 == 7)) || ((kind1 == 8) || (kind1 == 9)))
theorem pw_D (kind1:Int) (w0:World) :
  Calls prog 206 #[(vi kind1)] w0 (fun e w'=>(e=.returned (vb ((((kind1 == 1) || (kind1 == 6)) || (kind1 == 7)) || ((kind1 == 8) || (kind1 == 9)))))∧Pure w0 w'):=by
 refine cw (args:=[(vi kind1)]) func206 ntmps206 ?_
 obtain ⟨hs,hb⟩:=st0 w0
 refine eg (q (ln (zA (vO (fun ρ wJ=>∃HJ:NP,Hst w0 None w0 HJ wJ∧HB HJ wJ []∧Has ρ [(2,(vb ((((kind1 == 1) || (kind1 == 6)) || (kind1 == 7)) || ((kind1 == 8) || (kind1 == 9)))))]) ?_ ?_))))
 refine rg (qc (zK 3 (fun ρ wJ=>∃b5'0:Bool,∃HJ:NP,((kind1 == 1)=b5'0)∧Hst w0 None w0 HJ wJ∧HB HJ wJ []∧Has ρ [(0,(vi kind1)),(8,(vb (b5'0 || (kind1 == 6))))]) ?_ ?_))
 rintro ρ w7 ⟨b5'0,H5,he0,hs,hb,hH⟩
 subst he0
 refine zQ hH (q (zK 3 (fun ρ wJ=>∃b6'0:Bool,∃HJ:NP,(((kind1 == 1) || (kind1 == 6))=b6'0)∧Hst w0 None w0 HJ wJ∧HB HJ wJ []∧Has ρ [(0,(vi kind1)),(12,(vb (b6'0 || (kind1 == 7))))]) ?_ ?_))
 rintro ρ w8 ⟨b6'0,H6,he0,hs,hb,hH⟩
 subst he0
 refine zQ hH (q (zK 3 (fun ρ wJ=>∃b7'0:Bool,∃HJ:NP,((((kind1 == 1) || (kind1 == 6)) || (kind1 == 7))=b7'0)∧Hst w0 None w0 HJ wJ∧HB HJ wJ []∧Has ρ [(16,(vb (b7'0 || ((kind1 == 8) || (kind1 == 9)))))]) ?_ ?_))
 rintro ρ w10 ⟨b7'0,H7,he0,hs,hb,hH⟩
 subst he0
 refine zQ hH (q (ln ⟨_,hs,hb,hm⟩))
 rcases bte (((kind1 == 1) || (kind1 == 6)) || (kind1 == 7)) with hg12 | hg12
 refine sj2 13 hg12 (q2 (vb true) (xT hg12) (zC ⟨true,_,hg12,hs,hb,hm⟩))
 refine qk 13 hg12 (vX (wy 13 hg12) (xc call208) ((p_X1 kind1 w8).mono ?_))
 rintro e w11 ⟨he,hE⟩
 refine ⟨_,he,?_⟩
 obtain ⟨hs,hb⟩:=hs.pp hb hE
 refine q2 (vb ((kind1 == 8) || (kind1 == 9))) (xF hg12) (zC ⟨false,_,hg12,hs,hb,hm⟩)
 rcases bte ((kind1 == 1) || (kind1 == 6)) with hg10 | hg10
 refine sj2 9 hg10 (q2 (vb true) (xT hg10) (zC ⟨true,_,hg10,hs,hb,hm⟩))
 refine qk 9 hg10 (qk 9 hg10 (q2 (vb (kind1 == 7)) (xF hg10) (zC ⟨false,_,hg10,hs,hb,hm⟩)))
 rcases bte (kind1 == 1) with hg8 | hg8
 refine sj2 5 hg8 (q2 (vb true) (xT hg8) (zC ⟨true,_,hg8,hs,hb,hm⟩))
 refine qk 5 hg8 (qk 5 hg8 (q2 (vb (kind1 == 6)) (xF hg8) (zC ⟨false,_,hg8,hs,hb,hm⟩)))
 rintro ρ w6 ⟨H4,hs,hb,hH⟩
 refine vC hH (zN (er (rs1 results206 (v:=(vb ((((kind1 == 1) || (kind1 == 6)) || (kind1 == 7)) || ((kind1 == 8) || (kind1 == 9))))) ⟨by kernel_rfl,(Ext.refl (F:=None) _).hst hs⟩)))
theorem p_D (kind1:Int) (w0:World):Calls prog 206 #[(.int .i64 kind1)] w0 (fun e w'=>e=.returned (.bool (s_D kind1))∧Pure w0 w'):=pw_D kind1 w0
def s_C (kind1:Int):Int :=(cond (kind1 == 4) 2 (cond (cond (kind1 == 5) (kind1 == 5) (cond (kind1 == 7) (kind1 == 7) (cond (kind1 == 8) (kind1 == 8) (kind1 == 9)))) 1 0))
theorem pw_C (kind1:Int) (w0:World) :
  Calls prog 64 #[(vi kind1)] w0 (fun e w'=>∃b'0 b'1:Bool,((kind1 == 4)=b'0∧(cond (kind1 == 5) (kind1 == 5) (cond (kind1 == 7) (kind1 == 7) (cond (kind1 == 8) (kind1 == 8) (kind1 == 9))))=b'1)∧(e=.returned (vi (cond b'0 2 (cond b'1 1 0))))∧Pure w0 w'):=by
 refine cw (args:=[(vi kind1)]) func64 ntmps64 (eg (q0 (vi 0) (ln (zA (eg (q0 (vi kind1) (ln ?_)))))))
 refine zL (eg (qb (ln (vJ (t:=(kind1 == 4)) (by kernel_rfl) (fun hc1=>?_) (fun hc1=>?_)))))
 refine eg (q (ln (er (qU (vA (rs1 results64 (v:=(vi 2)) ⟨true,_,⟨hc1,rfl⟩,by kernel_rfl,Ext.refl _⟩))))))
 refine zA (eg (qb (ln (vO (fun ρ wJ=>∃b1'0 b1'1 b1'2:Bool,((kind1 == 5)=b1'0)∧((kind1 == 7)=b1'1)∧((kind1 == 8)=b1'2)∧w0=wJ∧Has ρ [(6,(vb (cond b1'0 (kind1 == 5) (cond b1'1 (kind1 == 7) (cond b1'2 (kind1 == 8) (kind1 == 9))))))]) ?_ ?_))))
 refine vJ (t:=(kind1 == 5)) (by kernel_rfl) (fun hc5=>?_) (fun hc5=>?_)
 refine zD (zN ⟨true,_,_,hc5,rfl,rfl,rfl,hm⟩)
 refine eg (qb (ln (vJ (t:=(kind1 == 7)) (by kernel_rfl) (fun hc6=>?_) (fun hc6=>?_))))
 refine zD (zN ⟨false,true,_,hc5,hc6,rfl,rfl,hm⟩)
 refine eg (qb (ln (vJ (t:=(kind1 == 8)) (by kernel_rfl) (fun hc7=>?_) (fun hc7=>?_))))
 refine zD (zN ⟨false,false,true,hc5,hc6,hc7,rfl,hm⟩)
 refine rg (qb (ln ⟨false,false,false,hc5,hc6,hc7,rfl,hm⟩))
 rintro ρ w1 ⟨b1'0,b1'1,b1'2,he0,he1,he2,hw,hH⟩
 subst he0
 subst he1
 subst he2
 subst hw
 refine vC hH (zN (vJ (t:=(cond (kind1 == 5) (kind1 == 5) (cond (kind1 == 7) (kind1 == 7) (cond (kind1 == 8) (kind1 == 8) (kind1 == 9))))) (by kernel_rfl) (fun hc8=>?_) (fun hc8=>?_)))
 refine eg (q (ln (er (qU (vA (rs1 results64 (v:=(vi 1)) ⟨false,true,⟨hc1,hc8⟩,by kernel_rfl,Ext.refl _⟩))))))
 refine zD (tG (zN (eg (q (ln (er (rs1 results64 (v:=(vi 0)) ⟨false,false,⟨hc1,hc8⟩,by kernel_rfl,Ext.refl _⟩)))))))
theorem p_C (kind1:Int) (w0:World):Calls prog 64 #[(.int .i64 kind1)] w0 (fun e w'=>e=.returned (.int .i64 (s_C kind1))∧Pure w0 w'):=by
 refine (pw_C kind1 w0).mono ?_;rintro e w' ⟨b'0,b'1,⟨e0,e1⟩,h,E⟩;subst e0;subst e1;exact ⟨h,E⟩
def s_E1 (aA aB:Int) (aC aK:Int) (aJ:ByteArray) (aL aM:Int):Bool :=(!((decide (aA<1)) || (decide (aA>9))) && (((((((s_D aA) || (aB == 0)) && (((aA == 8) || (aA == 9)) || (aC == 0))) && ((aA == 2) || (aK == 0))) && ((aA == 3) || (decide (aJ=⟨#[]⟩)))) && ((decide ((s_C aA)≥1)) || (aL == 0))) && ((((s_C aA):Int) == 2) || (aM == 0))))
theorem pw_E1 (aA aB:Int) (aC aK:Int) (aJ:ByteArray) (aL aM:Int) (w0:World) :
  Calls prog 205 #[(.agg #[(vi aA),(vi aB),(vi aC),(vu aK),(vs aJ),(vi aL),(vi aM)])] w0 (fun e w'=>∃b'0:Bool,(((decide (aA<1)) || (decide (aA>9)))=b'0)∧(e=.returned (vb (!b'0 && (((((((s_D aA) || (aB == 0)) && (((aA == 8) || (aA == 9)) || (aC == 0))) && ((aA == 2) || (aK == 0))) && ((aA == 3) || (decide (aJ=⟨#[]⟩)))) && ((decide ((s_C aA)≥1)) || (aL == 0))) && ((((s_C aA):Int) == 2) || (aM == 0))))))∧Pure w0 w'):=by
 refine cw (args:=[(Ae aA aB aC aK aJ aL aM)]) func205 ntmps205 ?_
 obtain ⟨hs,hb⟩:=st0 w0
 refine eg (nw3 (Ad aA aB aC aK aJ aL aM) 103 hs hb xb fun p1 w1 H1 hs hb=>q (ln (zA (zA (vO (fun ρ wJ=>∃b1'0:Bool,∃HJ:NP,((decide (aA<1))=b1'0)∧Hst w0 None w0 HJ wJ∧HB HJ wJ [(p1,(Ad aA aB aC aK aJ aL aM),103)]∧Has ρ [(1,(vp (some p1))),(10,(vb (b1'0 || (decide (aA>9)))))]) ?_ ?_)))))
 refine rg (q (q3 (xl (isAgg3 _) (hb.d0 0 gZ)) (qb ?_)))
 rcases bte (decide (aA<1)) with hg2 | hg2
 refine sj3 6 hg2 (q2 (vb true) (xT hg2) (ln ⟨true,_,hg2,hs,hb,hm⟩))
 refine qk 6 hg2 (q4 6 hg2 (xl (isAgg3 _) (hb.d0 0 gZ)) (qk 6 hg2 (q2 (vb (decide (aA>9))) (xF hg2) (ln ⟨false,_,hg2,hs,hb,hm⟩))))
 rintro ρ w2 ⟨b1'0,H2,he0,hs,hb,hH⟩
 subst he0
 refine vC hH (zN (vJ (t:=((decide (aA<1)) || (decide (aA>9)))) (by kernel_rfl) (fun hc1=>?_) (fun hc1=>?_)))
 refine eg (q (ln (er (vA (rs1 results205 (v:=(vb false)) ⟨true,hc1,by kernel_rfl,(Ext.refl (F:=None) _).hst hs⟩)))))
 refine zD (zN (zA (vO (fun ρ wJ=>∃HJ:NP,Hst w0 None w0 HJ wJ∧HB HJ wJ [(p1,(Ad aA aB aC aK aJ aL aM),103)]∧Has ρ [(2,(vb (((((((s_D aA) || (aB == 0)) && (((aA == 8) || (aA == 9)) || (aC == 0))) && ((aA == 2) || (aK == 0))) && ((aA == 3) || (decide (aJ=⟨#[]⟩)))) && ((decide ((s_C aA)≥1)) || (aL == 0))) && ((((s_C aA):Int) == 2) || (aM == 0)))))]) ?_ ?_)))
 refine rg (q (q3 (xl (isAgg3 _) (hb.d0 0 gZ)) (sc call206 ((p_D aA w2).mono ?_))))
 rintro e w27 ⟨he,hE⟩
 refine ⟨_,he,?_⟩
 obtain ⟨hs,hb⟩:=hs.pp hb hE
 refine q (zK 4 (fun ρ wJ=>∃b19'0:Bool,∃HJ:NP,((s_D aA)=b19'0)∧Hst w0 None w0 HJ wJ∧HB HJ wJ [(p1,(Ad aA aB aC aK aJ aL aM),103)]∧Has ρ [(1,(vp (some p1))),(18,(vb (b19'0 || (aB == 0))))]) ?_ ?_)
 rintro ρ w28 ⟨b19'0,H20,he0,hs,hb,hH⟩
 subst he0
 refine zQ hH (q (zK 9 (fun ρ wJ=>∃b21'0:Bool,∃HJ:NP,(((s_D aA) || (aB == 0))=b21'0)∧Hst w0 None w0 HJ wJ∧HB HJ wJ [(p1,(Ad aA aB aC aK aJ aL aM),103)]∧Has ρ [(1,(vp (some p1))),(28,(vb (b21'0 && (((aA == 8) || (aA == 9)) || (aC == 0)))))]) ?_ ?_))
 rintro ρ w31 ⟨b21'0,H22,he0,hs,hb,hH⟩
 subst he0
 refine zQ hH (q (zK 9 (fun ρ wJ=>∃b24'0:Bool,∃HJ:NP,((((s_D aA) || (aB == 0)) && (((aA == 8) || (aA == 9)) || (aC == 0)))=b24'0)∧Hst w0 None w0 HJ wJ∧HB HJ wJ [(p1,(Ad aA aB aC aK aJ aL aM),103)]∧Has ρ [(1,(vp (some p1))),(38,(vb (b24'0 && ((aA == 2) || (aK == 0)))))]) ?_ ?_))
 rintro ρ w35 ⟨b24'0,H25,he0,hs,hb,hH⟩
 subst he0
 refine zQ hH (q (zK 9 (fun ρ wJ=>∃b27'0:Bool,∃HJ:NP,(((((s_D aA) || (aB == 0)) && (((aA == 8) || (aA == 9)) || (aC == 0))) && ((aA == 2) || (aK == 0)))=b27'0)∧Hst w0 None w0 HJ wJ∧HB HJ wJ [(p1,(Ad aA aB aC aK aJ aL aM),103)]∧Has ρ [(1,(vp (some p1))),(48,(vb (b27'0 && ((aA == 3) || (decide (aJ=⟨#[]⟩))))))]) ?_ ?_))
 rintro ρ w38 ⟨b27'0,H28,he0,hs,hb,hH⟩
 subst he0
 refine zQ hH (q (zK 10 (fun ρ wJ=>∃b30'0:Bool,∃HJ:NP,((((((s_D aA) || (aB == 0)) && (((aA == 8) || (aA == 9)) || (aC == 0))) && ((aA == 2) || (aK == 0))) && ((aA == 3) || (decide (aJ=⟨#[]⟩))))=b30'0)∧Hst w0 None w0 HJ wJ∧HB HJ wJ [(p1,(Ad aA aB aC aK aJ aL aM),103)]∧Has ρ [(1,(vp (some p1))),(59,(vb (b30'0 && ((decide ((s_C aA)≥1)) || (aL == 0)))))]) ?_ ?_))
 rintro ρ w42 ⟨b30'0,H31,he0,hs,hb,hH⟩
 subst he0
 refine zQ hH (q (zK 10 (fun ρ wJ=>∃b33'0:Bool,∃HJ:NP,(((((((s_D aA) || (aB == 0)) && (((aA == 8) || (aA == 9)) || (aC == 0))) && ((aA == 2) || (aK == 0))) && ((aA == 3) || (decide (aJ=⟨#[]⟩)))) && ((decide ((s_C aA)≥1)) || (aL == 0)))=b33'0)∧Hst w0 None w0 HJ wJ∧HB HJ wJ [(p1,(Ad aA aB aC aK aJ aL aM),103)]∧Has ρ [(70,(vb (b33'0 && ((((s_C aA):Int) == 2) || (aM == 0)))))]) ?_ ?_))
 rintro ρ w47 ⟨b33'0,H34,he0,hs,hb,hH⟩
 subst he0
 refine zQ hH (q (ln ⟨_,hs,hb,hm⟩))
 rcases bte ((((((s_D aA) || (aB == 0)) && (((aA == 8) || (aA == 9)) || (aC == 0))) && ((aA == 2) || (aK == 0))) && ((aA == 3) || (decide (aJ=⟨#[]⟩)))) && ((decide ((s_C aA)≥1)) || (aL == 0))) with hg64 | hg64
 refine qk 60 hg64 (q4 60 hg64 (xl (isAgg3 _) (hb.d0 0 gZ)) (vX (wy 60 hg64) (xc call64) ((p_C aA w42).mono ?_)))
 rintro e w48 ⟨he,hE⟩
 refine ⟨_,he,?_⟩
 obtain ⟨hs,hb⟩:=hs.pp hb hE
 refine qk 60 hg64 (qk 60 hg64 (zK 4 (fun ρ wJ=>∃b34'0:Bool,∃HJ:NP,((((s_C aA):Int) == 2)=b34'0)∧Hst w0 None w0 HJ wJ∧HB HJ wJ [(p1,(Ad aA aB aC aK aJ aL aM),103)]∧Has ρ [(60,(vb ((((((s_D aA) || (aB == 0)) && (((aA == 8) || (aA == 9)) || (aC == 0))) && ((aA == 2) || (aK == 0))) && ((aA == 3) || (decide (aJ=⟨#[]⟩)))) && ((decide ((s_C aA)≥1)) || (aL == 0))))),(69,(vb (b34'0 || (aM == 0))))]) ?_ ?_))
 rintro ρ w49 ⟨b34'0,H35,he0,hs,hb,hH⟩
 subst he0
 refine zQ hH (q2 (vb ((((s_C aA):Int) == 2) || (aM == 0))) (xT hg64) (zC ⟨true,_,hg64,hs,hb,hm⟩))
 rcases bte (((s_C aA):Int) == 2) with hg66 | hg66
 refine sj3 65 hg66 (stq (v:=(vb true)) (wy 60 hg64) (xT hg66) (zC ⟨true,_,hg66,hs,hb,hm⟩))
 refine qk 65 hg66 (q4 65 hg66 (xl (isAgg23 _) (hb.d 0 6 gZ)) (qk 65 hg66 (stq (v:=(vb (aM == 0))) (wy 60 hg64) (xF hg66) (zC ⟨false,_,hg66,hs,hb,hm⟩))))
 refine sj5 60 hg64 (sm (sm (sm (sj 60 hg64 (q2 (vb false) (xF hg64) (zC ⟨false,_,hg64,hs,hb,hm⟩))))))
 rcases bte (((((s_D aA) || (aB == 0)) && (((aA == 8) || (aA == 9)) || (aC == 0))) && ((aA == 2) || (aK == 0))) && ((aA == 3) || (decide (aJ=⟨#[]⟩)))) with hg58 | hg58
 refine qk 49 hg58 (q4 49 hg58 (xl (isAgg3 _) (hb.d0 0 gZ)) (vX (wy 49 hg58) (xc call64) ((p_C aA w38).mono ?_)))
 rintro e w43 ⟨he,hE⟩
 refine ⟨_,he,?_⟩
 obtain ⟨hs,hb⟩:=hs.pp hb hE
 refine qk 49 hg58 (qk 49 hg58 (zK 4 (fun ρ wJ=>∃b31'0:Bool,∃HJ:NP,((decide ((s_C aA)≥1))=b31'0)∧Hst w0 None w0 HJ wJ∧HB HJ wJ [(p1,(Ad aA aB aC aK aJ aL aM),103)]∧Has ρ [(1,(vp (some p1))),(49,(vb (((((s_D aA) || (aB == 0)) && (((aA == 8) || (aA == 9)) || (aC == 0))) && ((aA == 2) || (aK == 0))) && ((aA == 3) || (decide (aJ=⟨#[]⟩)))))),(58,(vb (b31'0 || (aL == 0))))]) ?_ ?_))
 rintro ρ w44 ⟨b31'0,H32,he0,hs,hb,hH⟩
 subst he0
 refine zQ hH (q2 (vb ((decide ((s_C aA)≥1)) || (aL == 0))) (xT hg58) (zC ⟨true,_,hg58,hs,hb,hm⟩))
 rcases bte (decide ((s_C aA)≥1)) with hg60 | hg60
 refine sj3 54 hg60 (stq (v:=(vb true)) (wy 49 hg58) (xT hg60) (zC ⟨true,_,hg60,hs,hb,hm⟩))
 refine qk 54 hg60 (q4 54 hg60 (xl (isAgg23 _) (hb.d 0 5 gZ)) (qk 54 hg60 (stq (v:=(vb (aL == 0))) (wy 49 hg58) (xF hg60) (zC ⟨false,_,hg60,hs,hb,hm⟩))))
 refine sj5 49 hg58 (sm (sm (sm (sj 49 hg58 (q2 (vb false) (xF hg58) (zC ⟨false,_,hg58,hs,hb,hm⟩))))))
 rcases bte ((((s_D aA) || (aB == 0)) && (((aA == 8) || (aA == 9)) || (aC == 0))) && ((aA == 2) || (aK == 0))) with hg52 | hg52
 refine qk 39 hg52 (q4 39 hg52 (xl (isAgg3 _) (hb.d0 0 gZ)) (qk 39 hg52 (qk 39 hg52 (zK 4 (fun ρ wJ=>∃b28'0:Bool,∃HJ:NP,((aA == 3)=b28'0)∧Hst w0 None w0 HJ wJ∧HB HJ wJ [(p1,(Ad aA aB aC aK aJ aL aM),103)]∧Has ρ [(1,(vp (some p1))),(39,(vb ((((s_D aA) || (aB == 0)) && (((aA == 8) || (aA == 9)) || (aC == 0))) && ((aA == 2) || (aK == 0))))),(47,(vb (b28'0 || (decide (aJ=⟨#[]⟩)))))]) ?_ ?_))))
 rintro ρ w39 ⟨b28'0,H29,he0,hs,hb,hH⟩
 subst he0
 refine zQ hH (q2 (vb ((aA == 3) || (decide (aJ=⟨#[]⟩)))) (xT hg52) (zC ⟨true,_,hg52,hs,hb,hm⟩))
 rcases bte (aA == 3) with hg54 | hg54
 refine sj3 43 hg54 (stq (v:=(vb true)) (wy 39 hg52) (xT hg54) (zC ⟨true,_,hg54,hs,hb,hm⟩))
 refine qk 43 hg54 (q4 43 hg54 (xl (isAgg9 _) (hb.d 0 4 gZ)) (stq (v:=(vb (decide (aJ=⟨#[]⟩)))) (wy 43 hg54) (jAY (by kernel_rfl) (by kernel_rfl)) (stq (v:=(vb (decide (aJ=⟨#[]⟩)))) (wy 39 hg52) (xF hg54) (zC ⟨false,_,hg54,hs,hb,hm⟩))))
 refine sj4 39 hg52 (sm (sm (sm (sj 39 hg52 (q2 (vb false) (xF hg52) (zC ⟨false,_,hg52,hs,hb,hm⟩))))))
 rcases bte (((s_D aA) || (aB == 0)) && (((aA == 8) || (aA == 9)) || (aC == 0))) with hg46 | hg46
 refine qk 29 hg46 (q4 29 hg46 (xl (isAgg3 _) (hb.d0 0 gZ)) (qk 29 hg46 (qk 29 hg46 (zK 4 (fun ρ wJ=>∃b25'0:Bool,∃HJ:NP,((aA == 2)=b25'0)∧Hst w0 None w0 HJ wJ∧HB HJ wJ [(p1,(Ad aA aB aC aK aJ aL aM),103)]∧Has ρ [(1,(vp (some p1))),(29,(vb (((s_D aA) || (aB == 0)) && (((aA == 8) || (aA == 9)) || (aC == 0))))),(37,(vb (b25'0 || (aK == 0))))]) ?_ ?_))))
 rintro ρ w36 ⟨b25'0,H26,he0,hs,hb,hH⟩
 subst he0
 refine zQ hH (q2 (vb ((aA == 2) || (aK == 0))) (xT hg46) (zC ⟨true,_,hg46,hs,hb,hm⟩))
 rcases bte (aA == 2) with hg48 | hg48
 refine sj3 33 hg48 (stq (v:=(vb true)) (wy 29 hg46) (xT hg48) (zC ⟨true,_,hg48,hs,hb,hm⟩))
 refine qk 33 hg48 (q4 33 hg48 (xl (isAgg26 _) (hb.d 0 3 gZ)) (qk 33 hg48 (stq (v:=(vb (aK == 0))) (wy 29 hg46) (xF hg48) (zC ⟨false,_,hg48,hs,hb,hm⟩))))
 refine sj4 29 hg46 (sm (sm (sm (sj 29 hg46 (q2 (vb false) (xF hg46) (zC ⟨false,_,hg46,hs,hb,hm⟩))))))
 rcases bte ((s_D aA) || (aB == 0)) with hg40 | hg40
 refine qk 19 hg40 (q4 19 hg40 (xl (isAgg3 _) (hb.d0 0 gZ)) (vX (wy 19 hg40) (xc call208) ((p_X1 aA w28).mono ?_)))
 rintro e w32 ⟨he,hE⟩
 refine ⟨_,he,?_⟩
 obtain ⟨hs,hb⟩:=hs.pp hb hE
 refine qk 19 hg40 (zK 4 (fun ρ wJ=>∃b22'0:Bool,∃HJ:NP,(((aA == 8) || (aA == 9))=b22'0)∧Hst w0 None w0 HJ wJ∧HB HJ wJ [(p1,(Ad aA aB aC aK aJ aL aM),103)]∧Has ρ [(1,(vp (some p1))),(19,(vb ((s_D aA) || (aB == 0)))),(27,(vb (b22'0 || (aC == 0))))]) ?_ ?_)
 rintro ρ w33 ⟨b22'0,H23,he0,hs,hb,hH⟩
 subst he0
 refine zQ hH (q2 (vb (((aA == 8) || (aA == 9)) || (aC == 0))) (xT hg40) (zC ⟨true,_,hg40,hs,hb,hm⟩))
 rcases bte ((aA == 8) || (aA == 9)) with hg42 | hg42
 refine sj3 23 hg42 (stq (v:=(vb true)) (wy 19 hg40) (xT hg42) (zC ⟨true,_,hg42,hs,hb,hm⟩))
 refine qk 23 hg42 (q4 23 hg42 (xl (isAgg3 _) (hb.d 0 2 gZ)) (qk 23 hg42 (stq (v:=(vb (aC == 0))) (wy 19 hg40) (xF hg42) (zC ⟨false,_,hg42,hs,hb,hm⟩))))
 refine sj4 19 hg40 (sm (sm (sm (sj 19 hg40 (q2 (vb false) (xF hg40) (zC ⟨false,_,hg40,hs,hb,hm⟩))))))
 rcases bte (s_D aA) with hg36 | hg36
 refine sj3 14 hg36 (q2 (vb true) (xT hg36) (zC ⟨true,_,hg36,hs,hb,hm⟩))
 refine qk 14 hg36 (q4 14 hg36 (xl (isAgg3 _) (hb.d 0 1 gZ)) (qk 14 hg36 (q2 (vb (aB == 0)) (xF hg36) (zC ⟨false,_,hg36,hs,hb,hm⟩))))
 rintro ρ w26 ⟨H19,hs,hb,hH⟩
 refine vC hH (zN (er (rs1 results205 (v:=(vb (((((((s_D aA) || (aB == 0)) && (((aA == 8) || (aA == 9)) || (aC == 0))) && ((aA == 2) || (aK == 0))) && ((aA == 3) || (decide (aJ=⟨#[]⟩)))) && ((decide ((s_C aA)≥1)) || (aL == 0))) && ((((s_C aA):Int) == 2) || (aM == 0))))) ⟨false,hc1,by kernel_rfl,(Ext.refl (F:=None) _).hst hs⟩)))
theorem p_E1 (aA aB:Int) (aC aK:Int) (aJ:ByteArray) (aL aM:Int) (w0:World):Calls prog 205 #[(.agg #[(.int .i64 aA),(.int .i64 aB),(.int .i64 aC),(.int .u64 aK),(.string aJ),(.int .i64 aL),(.int .i64 aM)])] w0 (fun e w'=>e=.returned (.bool (s_E1 aA aB aC aK aJ aL aM))∧Pure w0 w'):=by
 refine (pw_E1 aA aB aC aK aJ aL aM w0).mono ?_;rintro e w' ⟨b'0,e0,h,E⟩;subst e0;exact ⟨h,E⟩
def s_G2 (n1:Int):Bool :=((decide (n1≥0)) && (decide (n1<16)))
theorem pw_G2 (n1:Int) (w0:World) :
  Calls prog 207 #[(vi n1)] w0 (fun e w'=>(e=.returned (vb ((decide (n1≥0)) && (decide (n1<16)))))∧Pure w0 w'):=by
 refine cw (args:=[(vi n1)]) func207 ntmps207 (eg (q0 (vb false) (ln (zA ?_))))
 refine vO (fun ρ wJ=>w0=wJ∧Has ρ [(2,(vb ((decide (n1≥0)) && (decide (n1<16)))))]) ?_ ?_
 refine rg (qc (zK 3 (fun ρ wJ=>∃b3'0:Bool,((decide (n1≥0))=b3'0)∧w0=wJ∧Has ρ [(8,(vb (b3'0 && (decide (n1<16)))))]) ?_ ?_))
 rintro ρ w3 ⟨b3'0,he0,hw,hH⟩
 subst he0
 subst hw
 refine zQ hH (q (ln ⟨rfl,hm⟩))
 rcases bte (decide (n1≥0)) with hg4 | hg4
 refine qk 5 hg4 (qk 5 hg4 (q2 (vb (decide (n1<16))) (xT hg4) (zC ⟨true,hg4,rfl,hm⟩)))
 refine sj2 5 hg4 (q2 (vb false) (xF hg4) (zC ⟨false,hg4,rfl,hm⟩))
 rintro ρ w2 ⟨hw,hH⟩
 subst hw
 refine vC hH (zN (er (rs1 results207 (v:=(vb ((decide (n1≥0)) && (decide (n1<16))))) ⟨by kernel_rfl,Ext.refl _⟩)))
theorem p_G2 (n1:Int) (w0:World):Calls prog 207 #[(.int .i64 n1)] w0 (fun e w'=>e=.returned (.bool (s_G2 n1))∧Pure w0 w'):=pw_G2 n1 w0
def s_J (aA aB:Int) (aC aK:Int) (aJ:ByteArray) (aL aM:Int):Int :=(cond (!(s_E1 aA aB aC aK aJ aL aM)) 53 (cond (((s_D aA) && (!((decide (aB≥0)) && (decide (aB<16))))) || (((aA == 8) || (aA == 9)) && ((!((decide (aC≥0)) && (decide (aC<16)))) || (aB == aC)))) 50 (cond (decide ((aJ.size:Int)>64)) 1 0)))
theorem pw_J (aA aB:Int) (aC aK:Int) (aJ:ByteArray) (aL aM:Int) (w0:World) :
  Calls prog 153 #[(.agg #[(vi aA),(vi aB),(vi aC),(vu aK),(vs aJ),(vi aL),(vi aM)])] w0 (fun e w'=>∃b'0 b'1 b'2:Bool,((!(s_E1 aA aB aC aK aJ aL aM))=b'0∧(((s_D aA) && (!((decide (aB≥0)) && (decide (aB<16))))) || (((aA == 8) || (aA == 9)) && ((!((decide (aC≥0)) && (decide (aC<16)))) || (aB == aC))))=b'1∧(decide ((aJ.size:Int)>64))=b'2)∧(e=.returned (vi (cond b'0 53 (cond b'1 50 (cond b'2 1 0)))))∧Pure w0 w'):=by
 refine cw (args:=[(Ae aA aB aC aK aJ aL aM)]) func153 ntmps153 ?_
 obtain ⟨hs,hb⟩:=st0 w0
 refine eg (nw3 (Ad aA aB aC aK aJ aL aM) 103 hs hb xb fun p1 w1 H1 hs hb=>q (ln (zA (eg (q2 (Ae aA aB aC aK aJ aL aM) (xa p1 (Ad aA aB aC aK aJ aL aM) (isAgg103 _) (sizeOf103 _) (hb.r0 0 7 gZ)) (sc call205 ((p_E1 aA aB aC aK aJ aL aM w1).mono ?_)))))))
 rintro e w2 ⟨he,hE⟩
 refine ⟨_,he,?_⟩
 obtain ⟨hs,hb⟩:=hs.pp hb hE
 refine q (ln (vJ (t:=(!(s_E1 aA aB aC aK aJ aL aM))) (by kernel_rfl) (fun hc1=>?_) (fun hc1=>?_)))
 refine eg (q (ln (er (vA (rs1 results153 (v:=(vi 53)) ⟨true,_,_,⟨hc1,rfl,rfl⟩,by kernel_rfl,(Ext.refl (F:=None) _).hst hs⟩)))))
 refine zD (zN (zA (zA (vO (fun ρ wJ=>∃b5'0:Bool,∃HJ:NP,(((s_D aA) && (!((decide (aB≥0)) && (decide (aB<16)))))=b5'0)∧Hst w0 None w0 HJ wJ∧HB HJ wJ [(p1,(Ad aA aB aC aK aJ aL aM),103)]∧Has ρ [(1,(vp (some p1))),(32,(vb (b5'0 || (((aA == 8) || (aA == 9)) && ((!((decide (aC≥0)) && (decide (aC<16)))) || (aB == aC))))))]) ?_ ?_))))
 refine rg (q (q3 (xl (isAgg3 _) (hb.d0 0 gZ)) (sc call206 ((p_D aA w2).mono ?_))))
 rintro e w14 ⟨he,hE⟩
 refine ⟨_,he,?_⟩
 obtain ⟨hs,hb⟩:=hs.pp hb hE
 refine q (zK 5 (fun ρ wJ=>∃b6'0:Bool,∃HJ:NP,((s_D aA)=b6'0)∧Hst w0 None w0 HJ wJ∧HB HJ wJ [(p1,(Ad aA aB aC aK aJ aL aM),103)]∧Has ρ [(1,(vp (some p1))),(14,(vb (b6'0 && (!((decide (aB≥0)) && (decide (aB<16)))))))]) ?_ ?_)
 rintro ρ w16 ⟨b6'0,H7,he0,hs,hb,hH⟩
 subst he0
 refine zQ hH (q ?_)
 rcases bte ((s_D aA) && (!((decide (aB≥0)) && (decide (aB<16))))) with hg12 | hg12
 refine sj4 15 hg12 (sm (sm (sm (sm (sm (sm (sm (sm (sm (sm (sm (sj 15 hg12 (q2 (vb true) (xT hg12) (ln ⟨true,_,hg12,hs,hb,hm⟩))))))))))))))
 refine qk 15 hg12 (q4 15 hg12 (xl (isAgg3 _) (hb.d0 0 gZ)) (vX (wy 15 hg12) (xc call208) ((p_X1 aA w16).mono ?_)))
 rintro e w18 ⟨he,hE⟩
 refine ⟨_,he,?_⟩
 obtain ⟨hs,hb⟩:=hs.pp hb hE
 refine qk 15 hg12 (zK 12 (fun ρ wJ=>∃b8'0:Bool,∃HJ:NP,(((aA == 8) || (aA == 9))=b8'0)∧Hst w0 None w0 HJ wJ∧HB HJ wJ [(p1,(Ad aA aB aC aK aJ aL aM),103)]∧Has ρ [(1,(vp (some p1))),(15,(vb ((s_D aA) && (!((decide (aB≥0)) && (decide (aB<16))))))),(31,(vb (b8'0 && ((!((decide (aC≥0)) && (decide (aC<16)))) || (aB == aC)))))]) ?_ ?_)
 rintro ρ w21 ⟨b8'0,H9,he0,hs,hb,hH⟩
 subst he0
 refine zQ hH (q2 (vb (((aA == 8) || (aA == 9)) && ((!((decide (aC≥0)) && (decide (aC<16)))) || (aB == aC)))) (xF hg12) (ln ⟨false,_,hg12,hs,hb,hm⟩))
 rcases bte ((aA == 8) || (aA == 9)) with hg16 | hg16
 refine qk 19 hg16 (q4 19 hg16 (xl (isAgg3 _) (hb.d 0 2 gZ)) (vX (wy 19 hg16) (xc call207) ((p_G2 aC w18).mono ?_)))
 rintro e w22 ⟨he,hE⟩
 refine ⟨_,he,?_⟩
 obtain ⟨hs,hb⟩:=hs.pp hb hE
 refine qk 19 hg16 (qk 19 hg16 (zK 6 (fun ρ wJ=>∃b9'0:Bool,∃HJ:NP,((!((decide (aC≥0)) && (decide (aC<16))))=b9'0)∧Hst w0 None w0 HJ wJ∧HB HJ wJ [(p1,(Ad aA aB aC aK aJ aL aM),103)]∧Has ρ [(1,(vp (some p1))),(15,(vb ((s_D aA) && (!((decide (aB≥0)) && (decide (aB<16))))))),(19,(vb ((aA == 8) || (aA == 9)))),(30,(vb (b9'0 || (aB == aC))))]) ?_ ?_))
 rintro ρ w23 ⟨b9'0,H10,he0,hs,hb,hH⟩
 subst he0
 refine zQ hH (stq (v:=(vb ((!((decide (aC≥0)) && (decide (aC<16)))) || (aB == aC)))) (wy 15 hg12) (xT hg16) (zC ⟨true,_,hg16,hs,hb,hm⟩))
 rcases bte (!((decide (aC≥0)) && (decide (aC<16)))) with hg18 | hg18
 refine sj5 24 hg18 (stq (v:=(vb true)) (wy 19 hg16) (xT hg18) (zC ⟨true,_,hg18,hs,hb,hm⟩))
 refine qk 24 hg18 (q4 24 hg18 (xl (isAgg3 _) (hb.d 0 1 gZ)) (qk 24 hg18 (q4 24 hg18 (xl (isAgg3 _) (hb.d 0 2 gZ)) (qk 24 hg18 (stq (v:=(vb (aB == aC))) (wy 19 hg16) (xF hg18) (zC ⟨false,_,hg18,hs,hb,hm⟩))))))
 refine sj5 19 hg16 (sm (sm (sm (sm (sm (sj 19 hg16 (stq (v:=(vb false)) (wy 15 hg12) (xF hg16) (zC ⟨false,_,hg16,hs,hb,hm⟩))))))))
 rcases bte (s_D aA) with hg11 | hg11
 refine qk 9 hg11 (q4 9 hg11 (xl (isAgg3 _) (hb.d 0 1 gZ)) (vX (wy 9 hg11) (xc call207) ((p_G2 aB w14).mono ?_)))
 rintro e w17 ⟨he,hE⟩
 refine ⟨_,he,?_⟩
 obtain ⟨hs,hb⟩:=hs.pp hb hE
 refine qk 9 hg11 (q2 (vb (!((decide (aB≥0)) && (decide (aB<16))))) (xT hg11) (zC ⟨true,_,hg11,hs,hb,hm⟩))
 refine sj4 9 hg11 (q2 (vb false) (xF hg11) (zC ⟨false,_,hg11,hs,hb,hm⟩))
 rintro ρ w13 ⟨b5'0,H6,he0,hs,hb,hH⟩
 subst he0
 refine vC hH (zN (vJ (t:=(((s_D aA) && (!((decide (aB≥0)) && (decide (aB<16))))) || (((aA == 8) || (aA == 9)) && ((!((decide (aC≥0)) && (decide (aC<16)))) || (aB == aC))))) (by kernel_rfl) (fun hc2=>?_) (fun hc2=>?_)))
 refine eg (q (ln (er (vA (rs1 results153 (v:=(vi 50)) ⟨false,true,_,⟨hc1,hc2,rfl⟩,by kernel_rfl,(Ext.refl (F:=None) _).hst hs⟩)))))
 refine zD (zN (zA (eg (q (q3 (xl (isAgg9 _) (hb.d 0 4 gZ)) (qb (ln (vJ (t:=(decide ((aJ.size:Int)>64))) (by kernel_rfl) (fun hc3=>?_) (fun hc3=>?_)))))))))
 refine eg (q (ln (er (vA (rs1 results153 (v:=(vi 1)) ⟨false,false,true,⟨hc1,hc2,hc3⟩,by kernel_rfl,(Ext.refl (F:=None) _).hst hs⟩)))))
 refine zD (zN (eg (q (ln (er (rs1 results153 (v:=(vi 0)) ⟨false,false,false,⟨hc1,hc2,hc3⟩,by kernel_rfl,(Ext.refl (F:=None) _).hst hs⟩))))))
theorem p_J (aA aB:Int) (aC aK:Int) (aJ:ByteArray) (aL aM:Int) (w0:World):Calls prog 153 #[(.agg #[(.int .i64 aA),(.int .i64 aB),(.int .i64 aC),(.int .u64 aK),(.string aJ),(.int .i64 aL),(.int .i64 aM)])] w0 (fun e w'=>e=.returned (.int .i64 (s_J aA aB aC aK aJ aL aM))∧Pure w0 w'):=by
 refine (pw_J aA aB aC aK aJ aL aM w0).mono ?_;rintro e w' ⟨b'0,b'1,b'2,⟨e0,e1,e2⟩,h,E⟩;subst e0;subst e1;subst e2;exact ⟨h,E⟩
def m_W_l2 (aI:Sl) (deep1:Int) (seen1:Option Addr) (e1 i1:Int) (w0:World) (Hl1:NP) (wl1:World) (Kc2:Int→Int→NP→WP) (K:Int→WP):Prop :=Br ((e1 == 0) && (decide (i1<(aI.len:Int)))) (∃a3:Addr,At aI i1 6 a3∧∀H4 w11,Hst w0 Hl1 wl1 H4 w11→∃aN aO aP aQ aR bD,Row w11 a3 (Ab aN aO aP aQ aR bD)∧Calls prog 110 #[(.agg #[(vi aN),(vi aO),(vi aP),(vu aQ),(vs aR),bD.v]),(vi (q6.wrap (deep1+1))),(vp seen1)] w11 (fun e w12=>∃r1,e=.returned (vi r1)∧Kept H4 w11 w12∧Kc2 r1 (q6.wrap (i1+1)) H4 w12)) (∀H4 w11,Hst w0 Hl1 wl1 H4 w11→K e1 w11)
def m_W_j1 (aD aE:Int) (aF aG:Int) (aH:ByteArray) (aI:Sl) (deep1:Int) (seen1:Option Addr) (x1:Bool) (w0:World) (H:NP) (w:World) (K:Int→WP):Prop :=Br x1 (K 52 w) (∃a1,seen1=some a1∧∃v1,w.cell? a1=some (vi v1)∧∃a2,seen1=some a2∧zW w a2∧¬ H a2.block∧∀w2,w2=w.setCell a2 (vi (q6.wrap (v1+1)))→∀y1:Bool,y1=((((s_J aD aE aF aG aH 0 0):Int) != 53) && (((aI.len:Int):Int) != (s_C aD)))→∀H3 w10,Hst w0 H w2 H3 w10→∃(I1:Int→Int→NP→WP) (mu1:Int→Int→World→Nat),I1 (cond y1 53 (s_J aD aE aF aG aH 0 0)) 0 H3 w10∧∀(e1 i1:Int) (Hl1:NP) (wl1:World),Hst w0 Hl1 wl1 Hl1 wl1→I1 e1 i1 Hl1 wl1→m_W_l2 aI deep1 seen1 e1 i1 w0 Hl1 wl1 (fun y'0 y'1 H' w'=>I1 y'0 y'1 H' w'∧mu1 y'0 y'1 w'<mu1 e1 i1 wl1) K)
def m_W (aD aE:Int) (aF aG:Int) (aH:ByteArray) (aI:Sl) (deep1:Int) (seen1:Option Addr) (w0:World) (K:Int→WP):Prop :=∃a4,seen1=some a4∧∀H1 w1,Hst w0 None w0 H1 w1→∃v2,w1.cell? a4=some (vi v2)∧∀H5 w13,Hst w0 H1 w1 H5 w13→m_W_j1 aD aE aF aG aH aI deep1 seen1 ((decide (v2≥4096)) || (decide (deep1≥64))) w0 H5 w13 K
theorem w_W (aD aE aF aG aH aI deep1 seen1 w0 K) (h:m_W aD aE aF aG aH aI deep1 seen1 w0 K):
  Calls prog 110 #[(.agg #[(vi aD),(vi aE),(vi aF),(vu aG),(vs aH),aI.v]),(vi deep1),(vp seen1)] w0 (fun e w'=>∃r2,e=.returned (vi r2)∧K r2 w'):=by
 refine cw (args:=[(Aa aD aE aF aG aH aI),(vi deep1),(vp seen1)]) func110 ntmps110 ?_
 obtain ⟨hs,hb⟩:=st0 w0
 refine eg (nw3 (Ab aD aE aF aG aH aI) 28 hs hb xb fun p1 w1 H1 hs hb=>q (ln (zA (zA (vD (fun ρ w=>∃x1,∃H:NP,Has ρ [(1,(vi deep1)),(2,(vp seen1)),(3,(vp (some p1))),(16,(vb x1))]∧Hst w0 H w H w∧HB H w [(p1,(Ab aD aE aF aG aH aI),28)]∧m_W_j1 aD aE aF aG aH aI deep1 seen1 x1 w0 H w K) ?_ ?_)))))
 rintro ρ w ⟨x1,H,hH,hs,hb,h⟩
 refine zR hH (cbr h ?_ ?_)<;>intro h
 refine eg (q (ln (er (vA (rs1 results110 ⟨52,rfl,h⟩)))))
 refine zD (zN (eg (qb (qm h fun a1 h=>ql (isAgg3 _) h fun v1 h=>q (qm h fun a2 h=>st2 (sizeOf3 _) hs hb h fun w2 hs hb h=>ln (eg (q2 (Aa aD aE aF aG aH aI) (xa p1 (Ab aD aE aF aG aH aI) (isAgg28 _) (sizeOf28 _) (hb.r0 0 6 gZ)) (sc call111 ((p_D1 aD aE aF aG aH aI w2).mono ?_)))))))))
 rintro e w3 ⟨he,hE⟩
 refine ⟨_,he,?_⟩
 obtain ⟨hs,hb⟩:=hs.pp hb hE
 refine sc call153 ((p_J aD aE aF aG aH 0 0 w3).mono ?_)
 rintro e w4 ⟨he,hE⟩
 refine ⟨_,he,?_⟩
 obtain ⟨hs,hb⟩:=hs.pp hb hE
 refine q (ln (zA (zA (vO (fun ρ wJ=>∃b1'0 y1:Bool,∃HJ:NP,((((s_J aD aE aF aG aH 0 0):Int) != 53)=b1'0)∧(y1=(b1'0 && (((aI.len:Int):Int) != (s_C aD))))∧Hst w0 H w2 HJ wJ∧HB HJ wJ [(p1,(Ab aD aE aF aG aH aI),28)]∧Has ρ [(1,(vi deep1)),(2,(vp seen1)),(3,(vp (some p1))),(7,(vi (s_J aD aE aF aG aH 0 0))),(36,(vb y1))]) ?_ ?_))))
 refine jAH (fun x=>∃H',Hst w0 H w2 H' x∧HB H' x [(p1,(Ab aD aE aF aG aH aI),28)]) [8] [] (by kernel_rfl) (by kernel_rfl) (by kernel_rfl) (by kernel_rfl) ⟨_,hs.drew,hb.drew⟩ ?_
 intro w8 hw8
 have hs:Hst w0 H w2 H w8:=by rw [hw8];exact hs.drew
 have hb:HB H w8 [(p1,(Ab aD aE aF aG aH aI),28)]:=by rw [hw8];exact hb.drew
 refine qx 0 (vi (s_J aD aE aF aG aH 0 0)) Kp0 (qx 1 (vb (((s_J aD aE aF aG aH 0 0):Int) != 53)) Kp1 (qx 2 (vb (((s_J aD aE aF aG aH 0 0):Int) != 53)) Kp2 (qg 3 ?_)))
 rcases bte (((s_J aD aE aF aG aH 0 0):Int) != 53) with hg2 | hg2
 refine sz (v:=(vp (some (p1.add 5)))) Kp3 (wy 28 hg2) (fun _ _=>(by kernel_rfl)) (qg 4 (sz (v:=aI.v) Kp4 (wy 28 hg2) (fun w' hw'=>(by obtain ⟨H',hs',hb'⟩:=hw';exact (xl (isAgg22 _) (hb'.cell 0 5 gZ (by kernel_rfl))))) (qw 5 (vi (aI.len:Int)) Kp5 (wy 28 hg2) (qw 6 (vp (some p1)) Kp6 (wy 28 hg2) (qg 7 (sz (v:=(vi aD)) Kp7 (wy 28 hg2) (fun w' hw'=>(by obtain ⟨H',hs',hb'⟩:=hw';exact (xl (isAgg3 _) (hb'.cell0 0 gZ (by kernel_rfl))))) (lg 8 (jBA Kp8 (wy 28 hg2) (by kernel_rfl) (xc call64) ((p_C aD w8).mono ?_)))))))))
 rintro e w9 ⟨he,hE⟩
 obtain ⟨hs,hb⟩:=hs.pp hb hE
 refine ⟨(vi (s_C aD)),he.trans (by kernel_rfl),.inr ⟨_,hs,hb⟩,?_⟩
 refine qw 9 (vb (((aI.len:Int):Int) != (s_C aD))) Kp9 (wy 28 hg2) (qz 10 (vb (((aI.len:Int):Int) != (s_C aD))) (zG (S8 (zB (zB zF)))) (fun _ _=>(xT hg2)) (wn (zN ⟨true,_,_,hg2,rfl,hs,hb,hm⟩)))
 refine yH Kp3 (zO rfl (yD 28 hg2) rfl) (qn 4 Kp4 (zO rfl (yD 28 hg2) rfl) (qn 5 Kp5 (zO rfl (yD 28 hg2) rfl) (qn 6 Kp6 (zO rfl (yD 28 hg2) rfl) (qn 7 Kp7 (zO rfl (yD 28 hg2) rfl) (lg 8 (yH Kp8 (zO rfl (yD 28 hg2) rfl) (qn 9 Kp9 (zO rfl (yD 28 hg2) rfl) (qz 10 (vb false) (zG (S8 (zB (zB zF)))) (fun _ _=>(xF hg2)) (wn (zN ⟨false,_,_,hg2,rfl,hs,hb,hm⟩))))))))))
 rintro ρ w7 ⟨b1'0,y1,H2,he0,hy1,hs,hb,hH⟩
 subst he0
 have h:=h y1 hy1
 refine vC hH (zN (vO (fun ρ wJ=>∃b2'0:Bool,∃HJ:NP,(y1=b2'0)∧Hst w0 H w2 HJ wJ∧HB HJ wJ [(p1,(Ab aD aE aF aG aH aI),28)]∧Has ρ [(1,(vi deep1)),(2,(vp seen1)),(3,(vp (some p1))),(7,(vi (cond b2'0 53 (s_J aD aE aF aG aH 0 0))))]) ?_ ?_))
 refine vJ (t:=y1) (by kernel_rfl) (fun hc3=>?_) (fun hc3=>?_)
 refine rg (q (ln ⟨true,_,hc3,hs,hb,hm⟩))
 refine zD (zN ⟨false,_,hc3,hs,hb,hm⟩)
 rintro ρ w10 ⟨b2'0,H3,he0,hs,hb,hH⟩
 subst he0
 refine vC hH (zN (zA (eg (q (ln (zL ?_))))))
 have ⟨h,hs⟩:=hs.hr (h H3 w10)
 obtain ⟨I1,mu1,h0,hr⟩:=h
 refine vR (σ:=Int×Int×NP×World) (fun s ρ w=>w=s.2.2.2∧Has ρ [(1,(vi deep1)),(2,(vp seen1)),(3,(vp (some p1))),(7,(vi s.1)),(8,(vi s.2.1))]∧Hst w0 s.2.2.1 w s.2.2.1 w∧HB s.2.2.1 w [(p1,(Ab aD aE aF aG aH aI),28)]∧I1 s.1 s.2.1 s.2.2.1 s.2.2.2) (fun s=>mu1 s.1 s.2.1 s.2.2.2) ((cond y1 53 (s_J aD aE aF aG aH 0 0)),0,H3,w10) ⟨rfl,hm,hs,hb,h0⟩ ?_
 rintro ⟨e1,i1,Hl1,wl1⟩ ρ w ⟨hw,hH,hs,hb,hI⟩
 dsimp only at hw hH hs hb;subst w
 have h:=hr e1 i1 Hl1 wl1 hs hI
 refine zR hH (zA (zA (vO (fun ρ wJ=>∃b3'0:Bool,∃HJ:NP,((e1 == 0)=b3'0)∧Hst w0 Hl1 wl1 HJ wJ∧HB HJ wJ [(p1,(Ab aD aE aF aG aH aI),28)]∧Has ρ [(1,(vi deep1)),(2,(vp seen1)),(3,(vp (some p1))),(7,(vi e1)),(8,(vi i1)),(45,(vb (b3'0 && (decide (i1<(aI.len:Int))))))]) ?_ ?_)))
 refine rg (qc ?_)
 rcases bte (e1 == 0) with hg4 | hg4
 refine qk 39 hg4 (qk 39 hg4 (q4 39 hg4 (xl (isAgg22 _) (hb.d 0 5 gZ)) (qk 39 hg4 (qk 39 hg4 (q2 (vb (decide (i1<(aI.len:Int)))) (xT hg4) (ln ⟨true,_,hg4,hs,hb,hm⟩))))))
 refine sj5 39 hg4 (q2 (vb false) (xF hg4) (ln ⟨false,_,hg4,hs,hb,hm⟩))
 rintro ρ w11 ⟨b3'0,H4,he0,hs,hb,hH⟩
 subst he0
 refine vC hH (zN (cbr h ?_ ?_))<;>intro h
 refine zD (zN (zA (zL (rg (q (q3 (xl (isAgg22 _) (hb.d 0 5 gZ)) (q (qi (runUnderlying22 _) (sizeOf28 _) h fun a3 h=>?_))))))))
 have ⟨h,hs⟩:=hs.hr (h H4 w11)
 obtain ⟨aN,aO,aP,aQ,aR,bD,hv1,h⟩:=h
 refine qa (isAgg28 _) (sizeOf28 _) hv1 (qc (sc call110 (h.mono fun e w12 ⟨r1,k,hk,h⟩=>have ⟨hs,hb⟩:=hk.hh hs hb;⟨_,k,?_⟩)))
 refine q (zC (tG (zN (rg (qc (ln ⟨(r1,(q6.wrap (i1+1)),H4,w12),⟨rfl,hm,hs,hb,h.1⟩,h.2⟩))))))
 refine vN (xH (xH (xB (zN (eg (q0 (vi e1) (q0 (vi e1) (ln (er ?_)))))))))
 have ⟨h,hs⟩:=hs.hr (h H4 w11)
 refine rs1 results110 ⟨e1,rfl,h⟩
 refine rg (q (qm h fun a4 h=>?_))
 have ⟨h,hs⟩:=hs.hr (h H1 w1)
 refine ql (isAgg3 _) h fun v2 h=>qb (zK 3 (fun ρ wJ=>∃b4'0:Bool,∃HJ:NP,((decide (v2≥4096))=b4'0)∧Hst w0 H1 w1 HJ wJ∧HB HJ wJ [(p1,(Ab aD aE aF aG aH aI),28)]∧Has ρ [(1,(vi deep1)),(2,(vp seen1)),(3,(vp (some p1))),(16,(vb (b4'0 || (decide (deep1≥64)))))]) ?_ ?_)
 rintro ρ w13 ⟨b4'0,H5,he0,hs,hb,hH⟩
 subst he0
 refine zQ hH (zC ?_)
 have ⟨h,hs⟩:=hs.hr (h H5 w13)
 refine zN ⟨((decide (v2≥4096)) || (decide (deep1≥64))),H5,hm,hs,hb,h⟩
 rcases bte (decide (v2≥4096)) with hg6 | hg6
 refine sj2 13 hg6 (q2 (vb true) (xT hg6) (zC ⟨true,_,hg6,hs,hb,hm⟩))
 refine qk 13 hg6 (qk 13 hg6 (q2 (vb (decide (deep1≥64))) (xF hg6) (zC ⟨false,_,hg6,hs,hb,hm⟩)))
def m_P3 (aD aE:Int) (aF aG:Int) (aH:ByteArray) (aI:Sl) (w0:World) (K:Int→WP):Prop :=∀H1 w1,Hst w0 None w0 H1 w1→∀p2 w2,New w1 (.cells #[(vi 0)] 3) p2 w2→zW w2 p2∧¬ H1 p2.block∧∀w3,w3=w2.setCell p2 (vi 0)→Calls prog 110 #[(.agg #[(vi aD),(vi aE),(vi aF),(vu aG),(vs aH),aI.v]),(vi 0),(vp (some p2))] w3 (fun e w4=>∃r1,e=.returned (vi r1)∧Kept H1 w3 w4∧K r1 w4)
theorem w_P3 (aD aE aF aG aH aI w0 K) (h:m_P3 aD aE aF aG aH aI w0 K):
  Calls prog 57 #[(.agg #[(vi aD),(vi aE),(vi aF),(vu aG),(vs aH),aI.v])] w0 (fun e w'=>∃r2,e=.returned (vi r2)∧K r2 w'):=by
 refine cw (args:=[(Aa aD aE aF aG aH aI)]) func57 ntmps57 ?_
 obtain ⟨hs,hb⟩:=st0 w0
 refine eg (nw3 (Ab aD aE aF aG aH aI) 28 hs hb xb fun p1 w1 H1 hs hb=>q (ln (eg ?_)))
 have ⟨h,hs⟩:=hs.hr (h H1 w1)
 refine nw2 hs hb h (zH (zeroValue3 _) rfl) fun p2 w2 hs hb h=>st2 (sizeOf3 _) hs hb h fun w3 hs hb h=>ln (eg (q2 (Aa aD aE aF aG aH aI) (xa p1 (Ab aD aE aF aG aH aI) (isAgg28 _) (sizeOf28 _) (hb.r0 0 6 gZ)) (sc call110 (h.mono fun e w4 ⟨r1,k,hk,h⟩=>have ⟨hs,hb⟩:=hk.hh hs hb;⟨_,k,?_⟩))))
 refine q (ln (er (rs1 results57 ⟨r1,rfl,h⟩)))
def m_Q3 (p1:Option Addr) (t1:Int) (w0:World) (K:Bool→WP):Prop :=Br (decide (t1≥1)) (∃a1,p1=some a1∧∃v1:Sl,w0.cell? a1=some v1.v∧K (decide (t1≤(v1.len:Int))) w0) (K false w0)
theorem w_Q3 (p1 t1 w0 K) (h:m_Q3 p1 t1 w0 K):
  Calls prog 19 #[(vp p1),(vi t1)] w0 (fun e w'=>∃r1,e=.returned (vb r1)∧K r1 w'):=by
 refine cw (args:=[(vp p1),(vi t1)]) func19 ntmps19 (eg (q0 (vb false) (ln (eg (q0 (vi t1) (q0 (vb (decide (t1≥1))) (q0 (vb (decide (t1≥1))) ?_)))))))
 obtain ⟨hg1,h⟩|⟨hg1,h⟩:=h.br
 refine qk 7 hg1 (qk 7 hg1 ?_)
 obtain ⟨a1,hp1,h⟩:=h
 refine q4 7 hg1 (xn hp1) (qk 7 hg1 ?_)
 obtain ⟨v1,hv1,h⟩:=h
 refine q4 7 hg1 (xl (isAgg49 _) hv1) (qk 7 hg1 (qk 7 hg1 (q2 (vb (decide (t1≤(v1.len:Int)))) (xT hg1) (q (ln (er (rs1 results19 ⟨(decide (t1≤(v1.len:Int))),rfl,h⟩)))))))
 refine sj2 7 hg1 (sj5 7 hg1 (q2 (vb false) (xF hg1) (q (ln (er (rs1 results19 ⟨false,rfl,h⟩))))))
def m_R3 (p1:Option Addr) (t1:Int) (w0:World) (K:Int→WP):Prop :=Calls prog 19 #[(vp p1),(vi t1)] w0 (fun e w1=>∃r1,e=.returned (vb r1)∧Br (!r1) (K 0 w1) (∃a1,p1=some a1∧∃v1:Sl,w1.cell? (a1.add 1)=some v1.v∧∃a2:Addr,At v1 (q6.wrap (t1 - 1)) 1 a2∧∃v2,w1.cell? a2=some (vi v2)∧K v2 w1))
theorem w_R3 (p1 t1 w0 K) (h:m_R3 p1 t1 w0 K):
  Calls prog 89 #[(vp p1),(vi t1)] w0 (fun e w'=>∃r2,e=.returned (vi r2)∧K r2 w'):=by
 refine cw (args:=[(vp p1),(vi t1)]) func89 ntmps89 (eg (q0 (vi 0) (ln (zA (eg (q0 (vp p1) (q0 (vi t1) ?_)))))))
 refine sc call19 (h.mono fun e w1 ⟨r1,k,h⟩=>⟨_,k,?_⟩)
 refine q (ln (cbr h ?_ ?_))<;>intro h
 refine eg (q (ln (er (vA (rs1 results89 ⟨0,rfl,h⟩)))))
 refine zD (zN (eg (q (qm h fun a1 h=>q (ql (isAgg50 _) h fun v1 h=>qb (qi (runUnderlying50 _) (sizeOf3 _) h fun a2 h=>ql (isAgg3 _) h fun v2 h=>q (ln (er (rs1 results89 ⟨v2,rfl,h⟩)))))))))
def m_S3 (p1:Option Addr) (t1:Int) (w0:World) (K:Int→WP):Prop :=Calls prog 19 #[(vp p1),(vi t1)] w0 (fun e w1=>∃r1,e=.returned (vb r1)∧Br (!r1) (K 0 w1) (∃a1,p1=some a1∧∃v1:Sl,w1.cell? (a1.add 2)=some v1.v∧∃a2:Addr,At v1 (q6.wrap (t1 - 1)) 1 a2∧∃v2,w1.cell? a2=some (vi v2)∧K v2 w1))
theorem w_S3 (p1 t1 w0 K) (h:m_S3 p1 t1 w0 K):
  Calls prog 154 #[(vp p1),(vi t1)] w0 (fun e w'=>∃r2,e=.returned (vi r2)∧K r2 w'):=by
 refine cw (args:=[(vp p1),(vi t1)]) func154 ntmps154 (eg (q0 (vi 0) (ln (zA (eg (q0 (vp p1) (q0 (vi t1) ?_)))))))
 refine sc call19 (h.mono fun e w1 ⟨r1,k,h⟩=>⟨_,k,?_⟩)
 refine q (ln (cbr h ?_ ?_))<;>intro h
 refine eg (q (ln (er (vA (rs1 results154 ⟨0,rfl,h⟩)))))
 refine zD (zN (eg (q (qm h fun a1 h=>q (ql (isAgg50 _) h fun v1 h=>qb (qi (runUnderlying50 _) (sizeOf3 _) h fun a2 h=>ql (isAgg3 _) h fun v2 h=>q (ln (er (rs1 results154 ⟨v2,rfl,h⟩)))))))))
theorem xS (a0 a1:Int) (a2 a3:Int) (a4:ByteArray) (a5 a6:Int) (b0 b1:Int) (b2 b3:Int) (b4:ByteArray) (b5 b6:Int) (w:World):(Go.binOp .eql 103 (.agg #[(.int .i64 a0),(.int .i64 a1),(.int .i64 a2),(.int .u64 a3),(.string a4),(.int .i64 a5),(.int .i64 a6)]) (.agg #[(.int .i64 b0),(.int .i64 b1),(.int .i64 b2),(.int .u64 b3),(.string b4),(.int .i64 b5),(.int .i64 b6)])).run prog w=.ok (.bool ((a0 == b0) && ((a1 == b1) && ((a2 == b2) && ((a3 == b3) && ((decide (a4=b4)) && ((a5 == b5) && (a6 == b6)))))))) w:=by
 simp [Go.binOp,Op.equal,Op.maxDepth,go_sem,jKQ,bne]
 repeat' split
 all_goals simp_all
def m_L1_l1 (p1:Option Addr) (aA aB:Int) (aC aK:Int) (aJ:ByteArray) (aL aM i1:Int) (w0:World) (Hl1:NP) (wl1:World) (Kc1:Int→NP→WP) (K:Int→Bool→WP):Prop :=∃a1,p1=some a1∧∃v1:Sl,wl1.cell? a1=some v1.v∧Br (decide (i1<(v1.len:Int))) (∃a2,p1=some a2∧∀w2,Hst w0 Hl1 wl1 Hl1 w2→∃v2:Sl,w2.cell? a2=some v2.v∧∃a3:Addr,At v2 i1 7 a3∧∃aN aO aP aQ aR aX aY,Row w2 a3 (Ad aN aO aP aQ aR aX aY)∧Br ((aN == aA) && ((aO == aB) && ((aP == aC) && ((aQ == aK) && ((decide (aR=aJ)) && ((aX == aL) && (aY == aM))))))) (K (q6.wrap (i1+1)) true w2) (Kc1 (q6.wrap (i1+1)) Hl1 w2)) (K 0 false wl1)
def m_L1 (p1:Option Addr) (aA aB:Int) (aC aK:Int) (aJ:ByteArray) (aL aM:Int) (w0:World) (K:Int→Bool→WP):Prop :=∀H1 w1,Hst w0 None w0 H1 w1→∃(I1:Int→NP→WP) (mu1:Int→World→Nat),I1 0 H1 w1∧∀(i1:Int) (Hl1:NP) (wl1:World),Hst w0 Hl1 wl1 Hl1 wl1→I1 i1 Hl1 wl1→m_L1_l1 p1 aA aB aC aK aJ aL aM i1 w0 Hl1 wl1 (fun y'0 H' w'=>I1 y'0 H' w'∧mu1 y'0 w'<mu1 i1 wl1) K
theorem w_L1 (p1 aA aB aC aK aJ aL aM w0 K) (h:m_L1 p1 aA aB aC aK aJ aL aM w0 K):
  Calls prog 155 #[(vp p1),(.agg #[(vi aA),(vi aB),(vi aC),(vu aK),(vs aJ),(vi aL),(vi aM)])] w0 (fun e w'=>∃r1 r2,e=.returned (.tuple #[(vi r1),(vb r2)])∧K r1 r2 w'):=by
 refine cw (args:=[(vp p1),(Ae aA aB aC aK aJ aL aM)]) func155 ntmps155 ?_
 obtain ⟨hs,hb⟩:=st0 w0
 refine eg (nw3 (Ad aA aB aC aK aJ aL aM) 103 hs hb xb fun p2 w1 H1 hs hb=>qb (ln (zA (eg (q (ln (zL ?_)))))))
 have ⟨h,hs⟩:=hs.hr (h H1 w1)
 obtain ⟨I1,mu1,h0,hr⟩:=h
 refine vR (σ:=Int×NP×World) (fun s ρ w=>w=s.2.2∧Has ρ [(0,(vp p1)),(3,(vp (some p2))),(6,(vi s.1))]∧Hst w0 s.2.1 w s.2.1 w∧HB s.2.1 w [(p2,(Ad aA aB aC aK aJ aL aM),103)]∧I1 s.1 s.2.1 s.2.2) (fun s=>mu1 s.1 s.2.2) (0,H1,w1) ⟨rfl,hm,hs,hb,h0⟩ ?_
 rintro ⟨i1,Hl1,wl1⟩ ρ w ⟨hw,hH,hs,hb,hI⟩
 dsimp only at hw hH hs hb;subst w
 have h:=hr i1 Hl1 wl1 hs hI
 refine zR hH (zA (eg (qb (qm h fun a1 h=>q (ql (isAgg49 _) h fun v1 h=>qb (ln (cbr h ?_ ?_)))))))<;>intro h
 refine zD (zN (zA (zL (zA (qD (by kernel_rfl) (by kernel_rfl) (by kernel_rfl) (by kernel_rfl) ?_)))))
 intro w2 hw2
 have hs:Hst w0 Hl1 wl1 Hl1 w2:=by rw [hw2];exact hs.drew
 have hb:HB Hl1 w2 [(p2,(Ad aA aB aC aK aJ aL aM),103)]:=by rw [hw2];exact hb.drew
 refine qq 0 (vp p1) Kp0 (qg 1 ?_)
 obtain ⟨a2,hp2,h⟩:=h
 refine sxQ Kp1 (zJ rfl) rfl (xn hp2) (qq 2 (vp (some a2)) Kp2 (qg 3 ?_))
 have ⟨h,hs⟩:=hs.hr (h w2)
 obtain ⟨v2,hv3,h⟩:=h
 refine sxQ Kp3 (zJ rfl) rfl (xl (isAgg49 _) hv3) (qq 4 (vi i1) Kp4 (qg 5 ?_))
 obtain ⟨a3,hv2,h⟩:=h
 refine sxQ Kp5 (zJ rfl) rfl (xi (runUnderlying49 _) (sizeOf103 _) hv2) (qg 6 ?_)
 obtain ⟨aN,aO,aP,aQ,aR,aX,aY,hv1,h⟩:=h
 refine sxQ (v:=(Ae aN aO aP aQ aR aX aY)) Kp6 (zJ rfl) rfl (xa a3 (Ad aN aO aP aQ aR aX aY) (isAgg103 _) (sizeOf103 _) hv1) (qr 7 (Ae aA aB aC aK aJ aL aM) Kp7 (xa p2 (Ad aA aB aC aK aJ aL aM) (isAgg103 _) (sizeOf103 _) (hb.r0 0 7 gZ)) (qr 8 (vb ((aN == aA) && ((aO == aB) && ((aP == aC) && ((aQ == aK) && ((decide (aR=aJ)) && ((aX == aL) && (aY == aM)))))))) Kp8 (jHB (by kernel_rfl) (by kernel_rfl) (by kernel_rfl) (xS aN aO aP aQ aR aX aY aA aB aC aK aJ aL aM _)) (wn (zN (cbr h ?_ ?_)))))<;>intro h
 refine eg (qd (ln (er (qU (vA (vA (qU (vA (tE (.inl rfl) results155 (v:=(vi (q6.wrap (i1+1)))) (by kernel_rfl) (v':=(vb true)) (by kernel_rfl) ⟨(q6.wrap (i1+1)),true,rfl,h⟩)))))))))
 refine zD (tG (zN (rg (qc (ln ⟨((q6.wrap (i1+1)),Hl1,w2),⟨rfl,hm,hs,hb,h.1⟩,h.2⟩)))))
 refine vN (xH (xH (xB (zN (eg (q0 (vi 0) (q0 (vb false) (ln (er (tE (.inl rfl) results155 (v:=(vi 0)) (by kernel_rfl) (v':=(vb false)) (by kernel_rfl) ⟨0,false,rfl,h⟩))))))))))
def m_Q_j1 (p1:Option Addr) (aA aB:Int) (aC aK:Int) (aJ:ByteArray) (aL aM:Int) (x1:Bool) (w0:World) (H:NP) (w:World) (K:Int→Int→WP):Prop :=Br x1 (K 0 51 w) (∃C1:WP,C1 w.drew∧∀w4,w4=w.drew→Calls prog 89 #[(vp p1),(vi aL)] w4 (fun e w5=>∃r1,e=.returned (vi r1)∧C1 w5∧Kept H w4 w5∧Calls prog 89 #[(vp p1),(vi aM)] w5 (fun e w6=>∃r2,e=.returned (vi r2)∧C1 w6∧Kept H w5 w6∧∃C2:WP,C2 w6.drew∧∀w7,w7=w6.drew→Calls prog 154 #[(vp p1),(vi aL)] w7 (fun e w8=>∃r3,e=.returned (vi r3)∧C2 w8∧Kept H w7 w8∧Calls prog 154 #[(vp p1),(vi aM)] w8 (fun e w9=>∃r4,e=.returned (vi r4)∧C2 w9∧Kept H w8 w9∧∃z1,(∀w',C2 w'→(Builtin.max_ #[3,3] 3 #[(vi r3),(vi r4)]).run prog w'=.ok (vi z1) w')∧∀y1:Bool,y1=((decide ((q6.wrap ((q6.wrap (1+r1))+r2))>4096)) || (decide ((q6.wrap (1+z1))>64)))→Br y1 (∀H2 w10,Hst w0 H w9 H2 w10→K 0 52 w10) (∀H2 w10,Hst w0 H w9 H2 w10→Calls prog 155 #[(vp p1),(.agg #[(vi aA),(vi aB),(vi aC),(vu aK),(vs aJ),(vi aL),(vi aM)])] w10 (fun e w11=>∃r5 r6,e=.returned (.tuple #[(vi r5),(vb r6)])∧Kept H2 w10 w11∧Br r6 (K r5 0 w11) (∃a1,p1=some a1∧∃v1:Sl,w11.cell? a1=some v1.v∧Br (decide ((v1.len:Int)≥65536)) (K 0 6 w11) (∃C3:WP,C3 w11.drew∧∀w12,w12=w11.drew→∃a2,p1=some a2∧∃v2:Sl,(∀w',C3 w'→w'.cell? a2=some v2.v)∧∀p3 w13,New w12 (.cells #[(vi aA),(vi aB),(vi aC),(vu aK),(vs aJ),(vi aL),(vi aM)] 103) p3 w13→C3 w13∧∃s1:Sl,∃w14:World,(Builtin.append_ #[49,49] 49 #[v2.v,(Sl.mk (some p3) 1 1).v]).run prog w13=.ok s1.v w14∧C3 w14∧Kept H2 w13 w14∧∃a3,p1=some a3∧zW w14 a3∧¬ H2 a3.block∧∀w15,w15=w14.setCell a3 s1.v→∃a4,p1=some a4∧∃v3:Sl,w15.cell? (a4.add 1)=some v3.v∧∀p4 w16,New w15 (.cells #[(vi (q6.wrap ((q6.wrap (1+r1))+r2)))] 3) p4 w16→∃s2:Sl,∃w17:World,(Builtin.append_ #[50,50] 50 #[v3.v,(Sl.mk (some p4) 1 1).v]).run prog w16=.ok s2.v w17∧Kept H2 w16 w17∧∃a5,p1=some a5∧zW w17 (a5.add 1)∧¬ H2 (a5.add 1).block∧∀w18,w18=w17.setCell (a5.add 1) s2.v→∃a6,p1=some a6∧∃v4:Sl,w18.cell? (a6.add 2)=some v4.v∧∀p5 w19,New w18 (.cells #[(vi (q6.wrap (1+z1)))] 3) p5 w19→∃s3:Sl,∃w20:World,(Builtin.append_ #[50,50] 50 #[v4.v,(Sl.mk (some p5) 1 1).v]).run prog w19=.ok s3.v w20∧Kept H2 w19 w20∧∃a7,p1=some a7∧zW w20 (a7.add 2)∧¬ H2 (a7.add 2).block∧∀w21,w21=w20.setCell (a7.add 2) s3.v→∃a8,p1=some a8∧∃v5:Sl,w21.cell? a8=some v5.v∧K (v5.len:Int) 0 w21)))))))))
def m_Q_j2 (p1:Option Addr) (aA aB:Int) (aC aK:Int) (aJ:ByteArray) (aL aM:Int) (x2:Bool) (w0:World) (H:NP) (w:World) (K:Int→Int→WP):Prop :=Br x2 (m_Q_j1 p1 aA aB aC aK aJ aL aM true w0 H w K) (Br (((s_C aA):Int) == 2) (Calls prog 19 #[(vp p1),(vi aM)] w (fun e w22=>∃r7,e=.returned (vb r7)∧Kept H w w22∧m_Q_j1 p1 aA aB aC aK aJ aL aM (!r7) w0 H w22 K)) (m_Q_j1 p1 aA aB aC aK aJ aL aM false w0 H w K))
def m_Q (p1:Option Addr) (aA aB:Int) (aC aK:Int) (aJ:ByteArray) (aL aM:Int) (w0:World) (K:Int→Int→WP):Prop :=Br (((s_J aA aB aC aK aJ aL aM):Int) != 0) (∀H1 w2,Hst w0 None w0 H1 w2→K 0 (s_J aA aB aC aK aJ aL aM) w2) (Br (decide ((s_C aA)≥1)) (∀H1 w3,Hst w0 None w0 H1 w3→Calls prog 19 #[(vp p1),(vi aL)] w3 (fun e w23=>∃r8,e=.returned (vb r8)∧Kept H1 w3 w23∧m_Q_j2 p1 aA aB aC aK aJ aL aM (!r8) w0 H1 w23 K)) (∀H1 w3,Hst w0 None w0 H1 w3→m_Q_j2 p1 aA aB aC aK aJ aL aM false w0 H1 w3 K))
theorem w_Q (p1 aA aB aC aK aJ aL aM w0 K) (h:m_Q p1 aA aB aC aK aJ aL aM w0 K):
  Calls prog 112 #[(vp p1),(.agg #[(vi aA),(vi aB),(vi aC),(vu aK),(vs aJ),(vi aL),(vi aM)])] w0 (fun e w'=>∃r9 r10,e=.returned (.tuple #[(vi r9),(vi r10)])∧K r9 r10 w'):=by
 refine cw (args:=[(vp p1),(Ae aA aB aC aK aJ aL aM)]) func112 ntmps112 ?_
 obtain ⟨hs,hb⟩:=st0 w0
 refine eg (nw3 (Ad aA aB aC aK aJ aL aM) 103 hs hb xb fun p2 w1 H1 hs hb=>qb (ln (eg (q2 (Ae aA aB aC aK aJ aL aM) (xa p2 (Ad aA aB aC aK aJ aL aM) (isAgg103 _) (sizeOf103 _) (hb.r0 0 7 gZ)) (sc call153 ((p_J aA aB aC aK aJ aL aM w1).mono ?_))))))
 rintro e w2 ⟨he,hE⟩
 refine ⟨_,he,?_⟩
 obtain ⟨hs,hb⟩:=hs.pp hb hE
 refine q (ln (zA (eg (qb (ln (cbr h ?_ ?_))))))<;>intro h
 refine eg (qc (ln (er (vA ?_))))
 have ⟨h,hs⟩:=hs.hr (h H1 w2)
 refine tE (.inl rfl) results112 (v:=(vi 0)) (by kernel_rfl) (v':=(vi (s_J aA aB aC aK aJ aL aM))) (by kernel_rfl) ⟨0,(s_J aA aB aC aK aJ aL aM),rfl,h⟩
 refine zD (zN (eg (q (q3 (xl (isAgg3 _) (hb.d0 0 gZ)) (sc call64 ((p_C aA w2).mono ?_))))))
 rintro e w3 ⟨he,hE⟩
 refine ⟨_,he,?_⟩
 obtain ⟨hs,hb⟩:=hs.pp hb hE
 refine q (ln (zA (zA (vD (fun ρ w=>∃x1,∃H:NP,Has ρ [(0,(vp p1)),(3,(vp (some p2))),(39,(vb x1))]∧Hst w0 H w H w∧HB H w [(p2,(Ad aA aB aC aK aJ aL aM),103)]∧m_Q_j1 p1 aA aB aC aK aJ aL aM x1 w0 H w K) ?_ ?_))))
 rintro ρ w ⟨x1,H,hH,hs,hb,h⟩
 refine zR hH (cbr h ?_ ?_)<;>intro h
 refine eg (qb (ln (er (vA (tE (.inl rfl) results112 (v:=(vi 0)) (by kernel_rfl) (v':=(vi 51)) (by kernel_rfl) ⟨0,51,rfl,h⟩)))))
 refine zD (zN (zA ?_))
 obtain ⟨C1,hC,h⟩:=h
 refine dr2 (fun x=>C1 x∧HB H x _) [3,8] [] ⟨hC,hb.drew⟩ h hs hb fun w4 hs hb h=>?_
 have hs:=hs.here
 refine qx 0 (vp p1) Kp0 (qx 1 (vp (some (p2.add 5))) Kp1 (qz 2 (vi aL) Kp2 (fun w' hw'=>(xl (isAgg23 _) (hw'.2.cell 0 5 gZ (by kernel_rfl)))) (qx 5 (vp p1) Kp5 (qx 6 (vp (some (p2.add 6))) Kp6 (qz 7 (vi aM) Kp7 (fun w' hw'=>(xl (isAgg23 _) (hw'.2.cell 0 6 gZ (by kernel_rfl)))) (lg 3 (slc Kp3 call89 (h.mono ?_))))))))
 rintro e w5 ⟨r1,rfl,hC,hk,h⟩
 refine ⟨_,rfl,.inr ⟨hC,hb.kept hk⟩,?_⟩
 obtain ⟨hs,hb⟩:=hk.hh hs hb
 refine qx 4 (vi (q6.wrap (1+r1))) Kp4 (lg 8 (slc Kp8 call89 (h.mono ?_)))
 rintro e w6 ⟨r2,rfl,hC,hk,h⟩
 refine ⟨_,rfl,.inr ⟨hC,hb.kept hk⟩,?_⟩
 obtain ⟨hs,hb⟩:=hk.hh hs hb
 refine qx 9 (vi (q6.wrap ((q6.wrap (1+r1))+r2))) Kp9 (qx 10 (vi (q6.wrap ((q6.wrap (1+r1))+r2))) (zG (S8 (zB (zB zF)))) (wn (zN (zA ?_))))
 obtain ⟨C2,hC,h⟩:=h
 refine dr2 (fun x=>C2 x∧HB H x _) [3,7] [] ⟨hC,hb.drew⟩ h hs hb fun w7 hs hb h=>?_
 have hs:=hs.here
 refine qx 0 (vp p1) Kp0 (qx 1 (vp (some (p2.add 5))) Kp1 (qz 2 (vi aL) Kp2 (fun w' hw'=>(xl (isAgg23 _) (hw'.2.cell 0 5 gZ (by kernel_rfl)))) (qx 4 (vp p1) Kp4 (qx 5 (vp (some (p2.add 6))) Kp5 (qz 6 (vi aM) Kp6 (fun w' hw'=>(xl (isAgg23 _) (hw'.2.cell 0 6 gZ (by kernel_rfl)))) (lg 3 (slc Kp3 call154 (h.mono ?_))))))))
 rintro e w8 ⟨r3,rfl,hC,hk,h⟩
 refine ⟨_,rfl,.inr ⟨hC,hb.kept hk⟩,?_⟩
 obtain ⟨hs,hb⟩:=hk.hh hs hb
 refine lg 7 (slc Kp7 call154 (h.mono ?_))
 rintro e w9 ⟨r4,rfl,hC,hk,h⟩
 refine ⟨_,rfl,.inr ⟨hC,hb.kept hk⟩,?_⟩
 obtain ⟨hs,hb⟩:=hk.hh hs hb
 refine qg 8 ?_
 obtain ⟨z1,hv9,h⟩:=h
 refine sy (v:=(vi z1)) Kp8 (fun w' hw'=>(vL (args:=#[(vi r3),(vi r4)]) (by kernel_rfl) (fun _=>rfl) (hv9 w' hw'.1))) (qx 9 (vi (q6.wrap (1+z1))) Kp9 (qx 10 (vi (q6.wrap (1+z1))) (zG (S8 (zB (zB zF)))) (wn (zN (zA (zA (vO (fun ρ wJ=>∃b1'0 y1:Bool,∃HJ:NP,((decide ((q6.wrap ((q6.wrap (1+r1))+r2))>4096))=b1'0)∧(y1=(b1'0 || (decide ((q6.wrap (1+z1))>64))))∧Hst w0 H w9 HJ wJ∧HB HJ wJ [(p2,(Ad aA aB aC aK aJ aL aM),103)]∧Has ρ [(0,(vp p1)),(3,(vp (some p2))),(8,(vi (q6.wrap ((q6.wrap (1+r1))+r2)))),(9,(vi (q6.wrap (1+z1)))),(65,(vb y1))]) ?_ ?_)))))))
 refine rg (qc ?_)
 rcases bte (decide ((q6.wrap ((q6.wrap (1+r1))+r2))>4096)) with hg2 | hg2
 refine sj2 62 hg2 (q2 (vb true) (xT hg2) (ln ⟨true,_,_,hg2,rfl,hs,hb,hm⟩))
 refine qk 62 hg2 (qk 62 hg2 (q2 (vb (decide ((q6.wrap (1+z1))>64))) (xF hg2) (ln ⟨false,_,_,hg2,rfl,hs,hb,hm⟩)))
 rintro ρ w10 ⟨b1'0,y1,H2,he0,hy1,hs,hb,hH⟩
 subst he0
 have h:=h y1 hy1
 refine vC hH (zN (cbr h ?_ ?_))<;>intro h
 refine eg (qb (ln (er (vA ?_))))
 have ⟨h,hs⟩:=hs.hr (h H2 w10)
 refine tE (.inl rfl) results112 (v:=(vi 0)) (by kernel_rfl) (v':=(vi 52)) (by kernel_rfl) ⟨0,52,rfl,h⟩
 refine zD (zN (eg (q (q2 (Ae aA aB aC aK aJ aL aM) (xa p2 (Ad aA aB aC aK aJ aL aM) (isAgg103 _) (sizeOf103 _) (hb.r0 0 7 gZ)) ?_))))
 have ⟨h,hs⟩:=hs.hr (h H2 w10)
 refine sc call155 (h.mono fun e w11 ⟨r5,r6,k,hk,h⟩=>have ⟨hs,hb⟩:=hk.hh hs hb;⟨_,k,?_⟩)
 refine q (qd (ln (zA (eg (q (zC (zN (cbr h ?_ ?_))))))))<;>intro h
 refine eg (qc (ln (er (vA (tE (.inl rfl) results112 (v:=(vi r5)) (by kernel_rfl) (v':=(vi 0)) (by kernel_rfl) ⟨r5,0,rfl,h⟩)))))
 refine zD (zN (zA (eg (q (qm h fun a1 h=>q (ql (isAgg49 _) h fun v1 h=>qb (ln (cbr h ?_ ?_))))))))<;>intro h
 refine eg (qb (ln (er (vA (tE (.inl rfl) results112 (v:=(vi 0)) (by kernel_rfl) (v':=(vi 6)) (by kernel_rfl) ⟨0,6,rfl,h⟩)))))
 refine zD (zN (zA ?_))
 obtain ⟨C3,hC,h⟩:=h
 refine dr2 (fun x=>C3 x∧HB H2 x _) [6,7,10] [10] ⟨hC,hb.drew⟩ h hs hb fun w12 hs hb h=>?_
 have hs:=hs.here
 refine qx 0 (vp p1) Kp0 (qx 1 (vp p1) Kp1 (qg 2 ?_))
 obtain ⟨a2,hp2,h⟩:=h
 refine sy Kp2 (fun _ _=>xn hp2) (qx 3 (vp (some a2)) Kp3 (qg 4 ?_))
 obtain ⟨v2,hv7,h⟩:=h
 refine sy Kp4 (fun _ k=>xl (isAgg49 _) (hv7 _ k.1)) (qz 5 (Ae aA aB aC aK aJ aL aM) Kp5 (fun w' hw'=>(xa p2 (Ad aA aB aC aK aJ aL aM) (isAgg103 _) (sizeOf103 _) (hw'.2.r0 0 7 gZ))) (lg 6 (qH (O:=(.cells #[(vi aA),(vi aB),(vi aC),(vu aK),(vs aJ),(vi aL),(vi aM)] 103)) (fun p=>(Sl.mk (some p) 1 1).v) Kp6 (zJ rfl) (by kernel_rfl) (vI (vs:=#[(0,(Ae aA aB aC aK aJ aL aM))]) (by kernel_rfl) (by kernel_rfl)) ?_)))
 intro p3 w13 hn7
 have h:=h p3 w13 hn7
 refine ⟨.inr ⟨h.1,hb.kept (Ext.new (F:=None) hn7).keptP⟩,?_⟩
 have h:=h.2
 obtain ⟨hs,hb⟩:=hs.nw hb hn7
 refine lg 7 ?_
 obtain ⟨s1,w14,hv6,hC,hk,h⟩:=h
 refine sl (v:=s1.v) Kp7 (zJ rfl) (by kernel_rfl) (vL (args:=#[v2.v,(Sl.mk (some p3) 1 1).v]) (by kernel_rfl) (fun _=>rfl) hv6) (.inr ⟨hC,hb.kept hk⟩) ?_
 obtain ⟨hs,hb⟩:=hk.hh hs hb
 refine qg 8 ?_
 obtain ⟨a3,hp3,h⟩:=h
 refine sy Kp8 (fun _ _=>xn hp3) (qx 9 (vp (some a3)) Kp9 (lg 10 ?_))
 obtain ⟨hp4,hnh,h⟩:=h
 refine jRN (zG (S8 (zB (zB zF)))) (xs (v:=s1.v) (sizeOf49 _) hp4) ?_
 intro w15 hn2
 have h:=h w15 hn2
 refine ⟨.inl (by kernel_rfl),?_⟩
 have hk:=Kept.sc hnh hn2
 obtain ⟨hs,hb⟩:=hk.hh hs hb
 refine wn (zN (eg (qb (qm h fun a4 h=>q (ql (isAgg50 _) h fun v3 h=>q (xI (O:=(.cells #[(vi (q6.wrap ((q6.wrap (1+r1))+r2)))] 3)) (fun p=>(Sl.mk (some p) 1 1).v) (zJ rfl) (vI (vs:=#[(0,(vi (q6.wrap ((q6.wrap (1+r1))+r2))))]) (by kernel_rfl) (by kernel_rfl)) ?_))))))
 intro p4 w16 hn6
 have h:=h p4 w16 hn6
 obtain ⟨hs,hb⟩:=hs.nw hb hn6
 obtain ⟨s2,w17,hv4,hk,h⟩:=h
 refine st (v:=s2.v) (zJ rfl) (vL (args:=#[v3.v,(Sl.mk (some p4) 1 1).v]) (by kernel_rfl) (fun _=>rfl) hv4) ?_
 obtain ⟨hs,hb⟩:=hk.hh hs hb
 refine qm h fun a5 h=>q (st2 (sizeOf50 _) hs hb h fun w18 hs hb h=>ln (eg (qb (qm h fun a6 h=>q (ql (isAgg50 _) h fun v4 h=>q (xI (O:=(.cells #[(vi (q6.wrap (1+z1)))] 3)) (fun p=>(Sl.mk (some p) 1 1).v) (zJ rfl) (vI (vs:=#[(0,(vi (q6.wrap (1+z1))))]) (by kernel_rfl) (by kernel_rfl)) ?_))))))
 intro p5 w19 hn5
 have h:=h p5 w19 hn5
 obtain ⟨hs,hb⟩:=hs.nw hb hn5
 obtain ⟨s3,w20,hv2,hk,h⟩:=h
 refine st (v:=s3.v) (zJ rfl) (vL (args:=#[v4.v,(Sl.mk (some p5) 1 1).v]) (by kernel_rfl) (fun _=>rfl) hv2) ?_
 obtain ⟨hs,hb⟩:=hk.hh hs hb
 refine qm h fun a7 h=>q (st2 (sizeOf50 _) hs hb h fun w21 hs hb h=>ln (eg (q (qm h fun a8 h=>q (ql (isAgg49 _) h fun v5 h=>qc (ln (er (tE (.inl rfl) results112 (v:=(vi (v5.len:Int))) (by kernel_rfl) (v':=(vi 0)) (by kernel_rfl) ⟨(v5.len:Int),0,rfl,h⟩))))))))
 refine rg (qc (zK 6 (fun ρ w=>∃x2,∃H:NP,Has ρ [(0,(vp p1)),(3,(vp (some p2))),(7,(vi (s_C aA))),(28,(vb x2))]∧Hst w0 H w H w∧HB H w [(p2,(Ad aA aB aC aK aJ aL aM),103)]∧m_Q_j2 p1 aA aB aC aK aJ aL aM x2 w0 H w K) ?_ ?_))
 rintro ρ w ⟨x2,H,hH,hs,hb,h⟩
 refine zQ hH (q ?_)
 obtain ⟨hg3,h⟩|⟨hg3,h⟩:=h.br
 refine sj3 29 hg3 (sm (sm (sm (sm (sm (sj 29 hg3 (q2 (vb true) (xT hg3) (ln ⟨true,H,hm,hs,hb,h⟩))))))))
 refine qk 29 hg3 (qk 29 hg3 (qk 29 hg3 ?_))
 obtain ⟨hg4,h⟩|⟨hg4,h⟩:=h.br
 refine qk 32 hg4 (qk 32 hg4 (q4 32 hg4 (xl (isAgg23 _) (hb.d 0 6 gZ)) (vX (wy 32 hg4) (xc call19) (h.mono ?_))))
 rintro e w22 ⟨r7,rfl,hk,h⟩
 refine ⟨_,rfl,?_⟩
 obtain ⟨hs,hb⟩:=hk.hh hs hb
 refine qk 32 hg4 (stq (v:=(vb (!r7))) (wy 29 hg3) (xT hg4) (q2 (vb (!r7)) (xF hg3) (ln ⟨(!r7),H,hm,hs,hb,h⟩)))
 refine sj5 32 hg4 (stq (v:=(vb false)) (wy 29 hg3) (xF hg4) (q2 (vb false) (xF hg3) (ln ⟨false,H,hm,hs,hb,h⟩)))
 obtain ⟨hg5,h⟩|⟨hg5,h⟩:=h.br
 refine qk 22 hg5 (qk 22 hg5 (q4 22 hg5 (xl (isAgg23 _) (hb.d 0 5 gZ)) ?_))
 have ⟨h,hs⟩:=hs.hr (h H1 w3)
 refine vX (wy 22 hg5) (xc call19) (h.mono ?_)
 rintro e w23 ⟨r8,rfl,hk,h⟩
 refine ⟨_,rfl,?_⟩
 obtain ⟨hs,hb⟩:=hk.hh hs hb
 refine qk 22 hg5 (q2 (vb (!r8)) (xT hg5) (zC ⟨(!r8),H1,hm,hs,hb,h⟩))
 refine sj5 22 hg5 (q2 (vb false) (xF hg5) (zC ?_))
 have ⟨h,hs⟩:=hs.hr (h H1 w3)
 exact ⟨false,H1,hm,hs,hb,h⟩
def m_M1_l1 (p1:Option Addr) (aI:Sl) (i1 aA:Int) (aB aC aK:Int) (aJ:ByteArray) (aL aM:Int) (w0:World) (Hl1:NP) (wl1:World) (Kc1:Int→Int→Int→Int→Int→ByteArray→Int→Int→NP→WP) (K:Int→Int→WP):Prop :=Br (decide (i1<(aI.len:Int))) (∃a1:Addr,At aI i1 6 a1∧∃aN aO aP aQ aR bD,Row wl1 a1 (Ab aN aO aP aQ aR bD)∧Calls prog 58 #[(vp p1),(.agg #[(vi aN),(vi aO),(vi aP),(vu aQ),(vs aR),bD.v])] wl1 (fun e w5=>∃r1 r2,e=.returned (.tuple #[(vi r1),(vi r2)])∧Kept Hl1 wl1 w5∧Br (r2 != 0) (K 0 r2 w5) (∀H3 w8,Hst w0 Hl1 w5 H3 w8→Kc1 (q6.wrap (i1+1)) aA aB aC aK aJ (cond (i1 == 0) r1 aL) (cond (i1 == 0) aM r1) H3 w8))) (Calls prog 112 #[(vp p1),(.agg #[(vi aA),(vi aB),(vi aC),(vu aK),(vs aJ),(vi aL),(vi aM)])] wl1 (fun e w11=>∃r3 r4,e=.returned (.tuple #[(vi r3),(vi r4)])∧Kept Hl1 wl1 w11∧K r3 r4 w11))
def m_M1 (p1:Option Addr) (aD aE:Int) (aF aG:Int) (aH:ByteArray) (aI:Sl) (w0:World) (K:Int→Int→WP):Prop :=∀H2 w4,Hst w0 None w0 H2 w4→∃(I1:Int→Int→Int→Int→Int→ByteArray→Int→Int→NP→WP) (mu1:Int→Int→Int→Int→Int→ByteArray→Int→Int→World→Nat),I1 0 aD aE aF aG aH 0 0 H2 w4∧∀(i1 aA:Int) (aB aC aK:Int) (aJ:ByteArray) (aL aM:Int) (Hl1:NP) (wl1:World),Hst w0 Hl1 wl1 Hl1 wl1→I1 i1 aA aB aC aK aJ aL aM Hl1 wl1→m_M1_l1 p1 aI i1 aA aB aC aK aJ aL aM w0 Hl1 wl1 (fun y'0 y'1 y'2 y'3 y'4 y'5 y'6 y'7 H' w'=>I1 y'0 y'1 y'2 y'3 y'4 y'5 y'6 y'7 H' w'∧mu1 y'0 y'1 y'2 y'3 y'4 y'5 y'6 y'7 w'<mu1 i1 aA aB aC aK aJ aL aM wl1) K
theorem w_M1 (p1 aD aE aF aG aH aI w0 K) (h:m_M1 p1 aD aE aF aG aH aI w0 K):
  Calls prog 58 #[(vp p1),(.agg #[(vi aD),(vi aE),(vi aF),(vu aG),(vs aH),aI.v])] w0 (fun e w'=>∃r5 r6,e=.returned (.tuple #[(vi r5),(vi r6)])∧K r5 r6 w'):=by
 refine cw (args:=[(vp p1),(Aa aD aE aF aG aH aI)]) func58 ntmps58 ?_
 obtain ⟨hs,hb⟩:=st0 w0
 refine eg (nw3 (Ab aD aE aF aG aH aI) 28 hs hb xb fun p2 w1 H1 hs hb=>qb (ln (eg (q2 (Aa aD aE aF aG aH aI) (xa p2 (Ab aD aE aF aG aH aI) (isAgg28 _) (sizeOf28 _) (hb.r0 0 6 gZ)) (sc call111 ((p_D1 aD aE aF aG aH aI w1).mono ?_))))))
 rintro e w2 ⟨he,hE⟩
 refine ⟨_,he,?_⟩
 obtain ⟨hs,hb⟩:=hs.pp hb hE
 refine nw3 (Ai 0 0 0 0 0 0) 103 hs hb (zH (zeroValue103 _) rfl) fun p3 w3 H2 hs hb=>sbx 0 (Ad aD aE aF aG aH 0 0) (sizeOf103 _) hs hb gZ fun w4 hs hb=>ln (zA (eg (q (ln (zL ?_)))))
 have ⟨h,hs⟩:=hs.hr (h H2 w4)
 obtain ⟨I1,mu1,h0,hr⟩:=h
 refine vR (σ:=Int×Int×Int×Int×Int×ByteArray×Int×Int×NP×World) (fun s ρ w=>w=s.2.2.2.2.2.2.2.2.2∧Has ρ [(0,(vp p1)),(3,(vp (some p2))),(6,(vp (some p3))),(7,(vi s.1))]∧Hst w0 s.2.2.2.2.2.2.2.2.1 w s.2.2.2.2.2.2.2.2.1 w∧HB s.2.2.2.2.2.2.2.2.1 w [(p3,(Ad (s.2.1) (s.2.2.1) (s.2.2.2.1) (s.2.2.2.2.1) (s.2.2.2.2.2.1) (s.2.2.2.2.2.2.1) (s.2.2.2.2.2.2.2.1)),103),(p2,(Ab aD aE aF aG aH aI),28)]∧I1 s.1 s.2.1 s.2.2.1 s.2.2.2.1 s.2.2.2.2.1 s.2.2.2.2.2.1 s.2.2.2.2.2.2.1 s.2.2.2.2.2.2.2.1 s.2.2.2.2.2.2.2.2.1 s.2.2.2.2.2.2.2.2.2) (fun s=>mu1 s.1 s.2.1 s.2.2.1 s.2.2.2.1 s.2.2.2.2.1 s.2.2.2.2.2.1 s.2.2.2.2.2.2.1 s.2.2.2.2.2.2.2.1 s.2.2.2.2.2.2.2.2.2) (0,aD,aE,aF,aG,aH,0,0,H2,w4) ⟨rfl,hm,hs,hb,h0⟩ ?_
 rintro ⟨i1,aA,aB,aC,aK,aJ,aL,aM,Hl1,wl1⟩ ρ w ⟨hw,hH,hs,hb,hI⟩
 dsimp only at hw hH hs hb;subst w
 have h:=hr i1 aA aB aC aK aJ aL aM Hl1 wl1 hs hI
 refine zR hH (zA (eg (qb (q3 (xl (isAgg22 _) (hb.d 1 5 (gS gZ))) (qb (ln (cbr h ?_ ?_)))))))<;>intro h
 refine zD (zN (zA (zL (eg (qb (q3 (xl (isAgg22 _) (hb.d 1 5 (gS gZ))) (q (qi (runUnderlying22 _) (sizeOf28 _) h fun a1 h=>?_))))))))
 obtain ⟨aN,aO,aP,aQ,aR,bD,hv1,h⟩:=h
 refine qa (isAgg28 _) (sizeOf28 _) hv1 (sc call58 (h.mono fun e w5 ⟨r1,r2,k,hk,h⟩=>have ⟨hs,hb⟩:=hk.hh hs hb;⟨_,k,?_⟩))
 refine q (qd (ln (zA (eg (qb (ln (cbr h ?_ ?_)))))))<;>intro h
 refine eg (qc (ln (er (vA (qU (vA (vA (qU (vA (tE (.inl rfl) results58 (v:=(vi 0)) (by kernel_rfl) (v':=(vi r2)) (by kernel_rfl) ⟨0,r2,rfl,h⟩))))))))))
 refine zD (zN (eg (qb (ln (vO (fun ρ wJ=>∃b1'0:Bool,∃HJ:NP,((i1 == 0)=b1'0)∧Hst w0 Hl1 w5 HJ wJ∧HB HJ wJ [(p3,(Ad aA aB aC aK aJ (cond b1'0 r1 aL) (cond b1'0 aM r1)),103),(p2,(Ab aD aE aF aG aH aI),28)]∧Has ρ [(0,(vp p1)),(3,(vp (some p2))),(6,(vp (some p3))),(7,(vi i1))]) ?_ ?_)))))
 refine vJ (t:=(i1 == 0)) (by kernel_rfl) (fun hc4=>?_) (fun hc4=>?_)
 refine rg (qb (vW (zJ rfl) (yP (a:=(p3.add 5)) (v:=(vi r1)) (by kernel_rfl) (by kernel_rfl) rfl (sizeOf23 _) (hb.canW 0 5 gZ (by kernel_rfl))) ?_))
 intro w9 hn6
 have hsb:Hst w0 Hl1 w5 Hl1 w9∧HB Hl1 w9 [(p3,(Ad aA aB aC aK aJ r1 aM),103),(p2,(Ab aD aE aF aG aH aI),28)]:=by
  rw [hn6];exact hb.set (i:=0) 5 (v:=(vi r1)) hs gZ (by kernel_rfl)
 obtain ⟨hs,hb⟩:=hsb
 refine ln ⟨true,_,hc4,hs,hb,hm⟩
 refine rg (qb (vW (zJ rfl) (yP (a:=(p3.add 6)) (v:=(vi r1)) (by kernel_rfl) (by kernel_rfl) rfl (sizeOf23 _) (hb.canW 0 6 gZ (by kernel_rfl))) ?_))
 intro w10 hn7
 have hsb:Hst w0 Hl1 w5 Hl1 w10∧HB Hl1 w10 [(p3,(Ad aA aB aC aK aJ aL r1),103),(p2,(Ab aD aE aF aG aH aI),28)]:=by
  rw [hn7];exact hb.set (i:=0) 6 (v:=(vi r1)) hs gZ (by kernel_rfl)
 obtain ⟨hs,hb⟩:=hsb
 refine ln ⟨false,_,hc4,hs,hb,hm⟩
 rintro ρ w8 ⟨b1'0,H3,he0,hs,hb,hH⟩
 subst he0
 refine vC hH (tG (zN (rg (qc (zC ?_)))))
 have ⟨h,hs⟩:=hs.hr (h H3 w8)
 refine zN ⟨((q6.wrap (i1+1)),aA,aB,aC,aK,aJ,(cond (i1 == 0) r1 aL),(cond (i1 == 0) aM r1),H3,w8),⟨rfl,hm,hs,hb,h.1⟩,h.2⟩
 refine vN (xH (xH (xB (zN (eg (q0 (vp p1) (q2 (Ae aA aB aC aK aJ aL aM) (xa p3 (Ad aA aB aC aK aJ aL aM) (isAgg103 _) (sizeOf103 _) (hb.r0 0 7 gZ)) (sc call112 (h.mono fun e w11 ⟨r3,r4,k,hk,h⟩=>have ⟨hs,hb⟩:=hk.hh hs hb;⟨_,k,?_⟩)))))))))
 refine qd (ln (er (tE (.inl rfl) results58 (v:=(vi r3)) (by kernel_rfl) (v':=(vi r4)) (by kernel_rfl) ⟨r3,r4,rfl,h⟩)))
def m_H2 (p1:Option Addr) (n1:Int) (w0:World) (K:WP):Prop :=∃a1,p1=some a1∧∃v1:Sl,w0.cell? a1=some v1.v∧∃s1:Sl,(Instr.sliceAt 49 v1.v none (some (vi n1)) none).run prog w0=.ok s1.v w0∧∃a2,p1=some a2∧zW w0 a2∧∀w1,w1=w0.setCell a2 s1.v→∃a3,p1=some a3∧∃v2:Sl,w1.cell? (a3.add 1)=some v2.v∧∃s2:Sl,(Instr.sliceAt 50 v2.v none (some (vi n1)) none).run prog w1=.ok s2.v w1∧∃a4,p1=some a4∧zW w1 (a4.add 1)∧∀w2,w2=w1.setCell (a4.add 1) s2.v→∃a5,p1=some a5∧∃v3:Sl,w2.cell? (a5.add 2)=some v3.v∧∃s3:Sl,(Instr.sliceAt 50 v3.v none (some (vi n1)) none).run prog w2=.ok s3.v w2∧∃a6,p1=some a6∧zW w2 (a6.add 2)∧∀w3,w3=w2.setCell (a6.add 2) s3.v→K w3
theorem w_H2 (p1 n1 w0 K) (h:m_H2 p1 n1 w0 K):
  Calls prog 59 #[(vp p1),(vi n1)] w0 (fun e w'=>e=.returned (.tuple #[])∧K  w'):=by
 refine cw (args:=[(vp p1),(vi n1)]) func59 ntmps59 (eg (q0 (vp p1) (q0 (vp p1) ?_)))
 refine qm h fun a1 h=>q (ql (isAgg49 _) h fun v1 h=>q ?_)
 obtain ⟨s1,hv5,h⟩:=h
 refine q2 s1.v (uJ (by kernel_rfl) (by kernel_rfl) (by kernel_rfl) (by kernel_rfl) hv5) (qm h fun a2 h=>q (st1 (sizeOf49 _) h fun w1 h=>ln (eg (qb (qm h fun a3 h=>q (ql (isAgg50 _) h fun v2 h=>q ?_))))))
 obtain ⟨s2,hv3,h⟩:=h
 refine q2 s2.v (uJ (by kernel_rfl) (by kernel_rfl) (by kernel_rfl) (by kernel_rfl) hv3) (qm h fun a4 h=>q (st1 (sizeOf50 _) h fun w2 h=>ln (rg (qb (qm h fun a5 h=>q (ql (isAgg50 _) h fun v3 h=>q ?_))))))
 obtain ⟨s3,hv1,h⟩:=h
 refine q2 s3.v (uJ (by kernel_rfl) (by kernel_rfl) (by kernel_rfl) (by kernel_rfl) hv1) (qm h fun a6 h=>q (st1 (sizeOf50 _) h fun w3 h=>zC (jHZ (.inr rfl) results59 ⟨rfl,h⟩)))
def m_I2 (p1:Option Addr) (aD aE:Int) (aF aG:Int) (aH:ByteArray) (aI:Sl) (w0:World) (K:Int→Int→WP):Prop :=∀H1 w1,Hst w0 None w0 H1 w1→Calls prog 57 #[(.agg #[(vi aD),(vi aE),(vi aF),(vu aG),(vs aH),aI.v])] w1 (fun e w2=>∃r1,e=.returned (vi r1)∧Kept H1 w1 w2∧Br (r1 != 0) (K 0 r1 w2) (∃a1,p1=some a1∧∃v1:Sl,w2.cell? a1=some v1.v∧Calls prog 58 #[(vp p1),(.agg #[(vi aD),(vi aE),(vi aF),(vu aG),(vs aH),aI.v])] w2 (fun e w3=>∃r2 r3,e=.returned (.tuple #[(vi r2),(vi r3)])∧Kept H1 w2 w3∧Br (r3 != 0) (Calls prog 59 #[(vp p1),(vi (v1.len:Int))] w3 (fun e w4=>e=.returned (.tuple #[])∧Kept H1 w3 w4∧K r2 r3 w4)) (K r2 r3 w3))))
theorem w_I2 (p1 aD aE aF aG aH aI w0 K) (h:m_I2 p1 aD aE aF aG aH aI w0 K):
  Calls prog 14 #[(vp p1),(.agg #[(vi aD),(vi aE),(vi aF),(vu aG),(vs aH),aI.v])] w0 (fun e w'=>∃r4 r5,e=.returned (.tuple #[(vi r4),(vi r5)])∧K r4 r5 w'):=by
 refine cw (args:=[(vp p1),(Aa aD aE aF aG aH aI)]) func14 ntmps14 ?_
 obtain ⟨hs,hb⟩:=st0 w0
 refine eg (nw3 (Ab aD aE aF aG aH aI) 28 hs hb xb fun p2 w1 H1 hs hb=>qb (ln (eg (q2 (Aa aD aE aF aG aH aI) (xa p2 (Ab aD aE aF aG aH aI) (isAgg28 _) (sizeOf28 _) (hb.r0 0 6 gZ)) ?_))))
 have ⟨h,hs⟩:=hs.hr (h H1 w1)
 refine sc call57 (h.mono fun e w2 ⟨r1,k,hk,h⟩=>have ⟨hs,hb⟩:=hk.hh hs hb;⟨_,k,?_⟩)
 refine q (ln (zA (eg (qb (ln (cbr h ?_ ?_))))))<;>intro h
 refine eg (qc (ln (er (vA (tE (.inl rfl) results14 (v:=(vi 0)) (by kernel_rfl) (v':=(vi r1)) (by kernel_rfl) ⟨0,r1,rfl,h⟩)))))
 refine zD (zN (eg (q (qm h fun a1 h=>q (ql (isAgg49 _) h fun v1 h=>qb (ln (eg (q (q2 (Aa aD aE aF aG aH aI) (xa p2 (Ab aD aE aF aG aH aI) (isAgg28 _) (sizeOf28 _) (hb.r0 0 6 gZ)) (sc call58 (h.mono fun e w3 ⟨r2,r3,k,hk,h⟩=>have ⟨hs,hb⟩:=hk.hh hs hb;⟨_,k,?_⟩)))))))))))
 refine q (qd (ln (zA (eg (qb (ln (cbr h ?_ ?_)))))))<;>intro h
 refine rg (qb (sc call59 (h.mono fun e w4 ⟨k,hk,h⟩=>have ⟨hs,hb⟩:=hk.hh hs hb;⟨_,k,?_⟩)))
 refine ln (eg (qd (ln (er (tE (.inl rfl) results14 (v:=(vi r2)) (by kernel_rfl) (v':=(vi r3)) (by kernel_rfl) ⟨r2,r3,rfl,h⟩)))))
 refine zD (zN (eg (qd (ln (er (tE (.inl rfl) results14 (v:=(vi r2)) (by kernel_rfl) (v':=(vi r3)) (by kernel_rfl) ⟨r2,r3,rfl,h⟩))))))
def m_T3 (p1:Option Addr) (t1:Int) (w0:World) (K:Int→Int→Int→Int→ByteArray→Int→Int→Bool→WP):Prop :=∀H1 w1,Hst w0 None w0 H1 w1→Calls prog 19 #[(vp p1),(vi t1)] w1 (fun e w2=>∃r1,e=.returned (vb r1)∧Kept H1 w1 w2∧Br (!r1) (∀w3,Hst w0 H1 w2 H1 w3→K 0 0 0 0 ⟨#[]⟩ 0 0 false w3) (∃a1,p1=some a1∧∃v1:Sl,w2.cell? a1=some v1.v∧∃a2:Addr,At v1 (q6.wrap (t1 - 1)) 7 a2∧∃aN aO aP aQ aR aX aY,Row w2 a2 (Ad aN aO aP aQ aR aX aY)∧∀w4,Hst w0 H1 w2 H1 w4→K aN aO aP aQ aR aX aY true w4))
theorem w_T3 (p1 t1 w0 K) (h:m_T3 p1 t1 w0 K):
  Calls prog 63 #[(vp p1),(vi t1)] w0 (fun e w'=>∃aS aT aU aV aW bL bH r2,e=.returned (.tuple #[(Ae aS aT aU aV aW bL bH),(vb r2)])∧K aS aT aU aV aW bL bH r2 w'):=by
 refine cw (args:=[(vp p1),(vi t1)]) func63 ntmps63 ?_
 obtain ⟨hs,hb⟩:=st0 w0
 refine eg (nw3 (Ai 0 0 0 0 0 0) 103 hs hb (zH (zeroValue103 _) rfl) fun p2 w1 H1 hs hb=>q (ln (zA (eg (qb ?_)))))
 have ⟨h,hs⟩:=hs.hr (h H1 w1)
 refine sc call19 (h.mono fun e w2 ⟨r1,k,hk,h⟩=>have ⟨hs,hb⟩:=hk.hh hs hb;⟨_,k,?_⟩)
 refine q (ln (cbr h ?_ ?_))<;>intro h
 refine eg (q (vW (zJ rfl) (xo p2 (Ai 0 0 0 0 0 0) (sizeOf103 _) (hb.k0 0 7 gZ)) ?_))
 intro w3 hn2
 obtain ⟨hs,hb⟩:=hb.st1 0 hs hn2 gZ
 refine q (ln (er (vA ?_)))
 have ⟨h,hs⟩:=hs.hr (h w3)
 refine jAT (.inl rfl) (vs:=[(.agg #[(vi 0),(vi 0),(vi 0),(vu 0),ve,(vi 0),(vi 0)]),(vb false)]) (v:=(.tuple #[(.agg #[(vi 0),(vi 0),(vi 0),(vu 0),ve,(vi 0),(vi 0)]),(vb false)])) results63 ⟨(rva (isAgg103 _) (sizeOf103 _) (hb.r0 0 7 gZ)),(rvT (by kernel_rfl)),trivial⟩ (by kernel_rfl) ⟨0,0,0,0,⟨#[]⟩,0,0,false,rfl,h⟩
 refine zD (zN (eg (q (qm h fun a1 h=>q (ql (isAgg49 _) h fun v1 h=>qb (qi (runUnderlying49 _) (sizeOf103 _) h fun a2 h=>?_))))))
 obtain ⟨aN,aO,aP,aQ,aR,aX,aY,hv1,h⟩:=h
 refine qa (isAgg103 _) (sizeOf103 _) hv1 (vW (zJ rfl) (xo p2 (Ad aN aO aP aQ aR aX aY) (sizeOf103 _) (hb.k0 0 7 gZ)) ?_)
 intro w4 hn3
 obtain ⟨hs,hb⟩:=hb.st1 0 hs hn3 gZ
 refine q (ln (er ?_))
 have ⟨h,hs⟩:=hs.hr (h w4)
 refine jAT (.inl rfl) (vs:=[(Ae aN aO aP aQ aR aX aY),(vb true)]) (v:=(.tuple #[(Ae aN aO aP aQ aR aX aY),(vb true)])) results63 ⟨(rva (isAgg103 _) (sizeOf103 _) (hb.r0 0 7 gZ)),(rvT (by kernel_rfl)),trivial⟩ (by kernel_rfl) ⟨aN,aO,aP,aQ,aR,aX,aY,true,rfl,h⟩
def m_B1_j1 (p1:Option Addr) (aS bH:Int) (aD aE:Int) (aF aG:Int) (aH:ByteArray) (aI:Sl) (w0:World) (H:NP) (w:World) (K:Int→Int→Int→Int→ByteArray→Sl→WP):Prop :=Br (((s_C aS):Int) == 2) (∀w9,Hst w0 H w H w9→∃C1:WP,C1 w9.drew∧∀w10,w10=w9.drew→Calls prog 20 #[(vp p1),(vi bH)] w10 (fun e w11=>∃bW bX bY bZ cA bV,e=.returned (Aa bW bX bY bZ cA bV)∧C1 w11∧Kept H w10 w11∧∀p5 w12,New w11 (.cells #[(vi bW),(vi bX),(vi bY),(vu bZ),(vs cA),bV.v] 28) p5 w12→C1 w12∧∃s1:Sl,∃w13:World,(Builtin.append_ #[22,22] 22 #[aI.v,(Sl.mk (some p5) 1 1).v]).run prog w12=.ok s1.v w13∧C1 w13∧Kept H w12 w13∧∀w15,Hst w0 H w13 H w15→K aD aE aF aG aH s1 w15)) (∀w16,Hst w0 H w H w16→K aD aE aF aG aH aI w16)
def m_B1 (p1:Option Addr) (t1:Int) (w0:World) (K:Int→Int→Int→Int→ByteArray→Sl→WP):Prop :=∀H1 w1,Hst w0 None w0 H1 w1→Calls prog 63 #[(vp p1),(vi t1)] w1 (fun e w2=>∃aS aT aU aV aW bL bH r1,e=.returned (.tuple #[(Ae aS aT aU aV aW bL bH),(vb r1)])∧Kept H1 w1 w2∧Br (!r1) (∀H2 w5,Hst w0 H1 w2 H2 w5→K 0 0 0 0 ⟨#[]⟩ Sl.nil w5) (Br (decide ((s_C aS)≥1)) (∀H3 w8,Hst w0 H1 w2 H3 w8→∃C2:WP,C2 w8.drew∧∀w17,w17=w8.drew→Calls prog 20 #[(vp p1),(vi bL)] w17 (fun e w18=>∃cJ cK cL cM cN cB,e=.returned (Aa cJ cK cL cM cN cB)∧C2 w18∧Kept H3 w17 w18∧∀p6 w19,New w18 (.cells #[(vi cJ),(vi cK),(vi cL),(vu cM),(vs cN),cB.v] 28) p6 w19→C2 w19∧∃s2:Sl,∃w20:World,(Builtin.append_ #[22,22] 22 #[Sl.nil.v,(Sl.mk (some p6) 1 1).v]).run prog w19=.ok s2.v w20∧C2 w20∧Kept H3 w19 w20∧∀w21,Hst w0 H3 w20 H3 w21→m_B1_j1 p1 aS bH aS aT aU aV aW s2 w0 H3 w21 K)) (∀H3 w8,Hst w0 H1 w2 H3 w8→m_B1_j1 p1 aS bH aS aT aU aV aW Sl.nil w0 H3 w8 K)))
theorem w_B1 (p1 t1 w0 K) (h:m_B1 p1 t1 w0 K):
  Calls prog 20 #[(vp p1),(vi t1)] w0 (fun e w'=>∃cU cV cW cX cY cZ,e=.returned (Aa cU cV cW cX cY cZ)∧K cU cV cW cX cY cZ w'):=by
 refine cw (args:=[(vp p1),(vi t1)]) func20 ntmps20 ?_
 obtain ⟨hs,hb⟩:=st0 w0
 refine eg (nw3 [(vi 0),(vi 0),(vi 0),(vu 0),ve,Sl.nil.v] 28 hs hb (zH (zeroValue28 _) rfl) fun p2 w1 H1 hs hb=>ln (eg (qb ?_)))
 have ⟨h,hs⟩:=hs.hr (h H1 w1)
 refine sc call63 (h.mono fun e w2 ⟨aS,aT,aU,aV,aW,bL,bH,r1,k,hk,h⟩=>have ⟨hs,hb⟩:=hk.hh hs hb;⟨_,k,?_⟩)
 refine qc (nw3 (Ai 0 0 0 0 0 0) 103 hs hb (zH (zeroValue103 _) rfl) fun p3 w3 H2 hs hb=>sbx 0 (Ad aS aT aU aV aW bL bH) (sizeOf103 _) hs hb gZ fun w4 hs hb=>q (ln (zA (eg (qb (ln (cbr h ?_ ?_)))))))<;>intro h
 refine eg (q (vW (zJ rfl) (xo p2 [(vi 0),(vi 0),(vi 0),(vu 0),ve,Sl.nil.v] (sizeOf28 _) (hb.k0 1 6 (gS gZ))) ?_))
 intro w5 hn4
 obtain ⟨hs,hb⟩:=hb.st1 1 hs hn4 (gS gZ)
 refine ln (er (vA ?_))
 have ⟨h,hs⟩:=hs.hr (h H2 w5)
 refine jAT (.inl rfl) (vs:=[(.agg #[(vi 0),(vi 0),(vi 0),(vu 0),ve,Sl.nil.v])]) (v:=(.agg #[(vi 0),(vi 0),(vi 0),(vu 0),ve,Sl.nil.v])) results20 ⟨(rva (isAgg28 _) (sizeOf28 _) (hb.r0 1 6 (gS gZ))),trivial⟩ (by kernel_rfl) ⟨0,0,0,0,⟨#[]⟩,Sl.nil,rfl,h⟩
 refine zD (zN (eg (q (q3 (xl (isAgg3 _) (hb.d0 0 gZ)) (q (q3 (xl (isAgg3 _) (hb.d 0 1 gZ)) (q (q3 (xl (isAgg3 _) (hb.d 0 2 gZ)) (q (q3 (xl (isAgg26 _) (hb.d 0 3 gZ)) (q (q3 (xl (isAgg9 _) (hb.d 0 4 gZ)) (q (nw3 [(vi 0),(vi 0),(vi 0),(vu 0),ve,Sl.nil.v] 28 hs hb (zH (zeroValue28 _) rfl) fun p4 w6 H3 hs hb=>sbx 0 [(vi aS),(vi aT),(vi aU),(vu aV),(vs aW),Sl.nil.v] (sizeOf28 _) hs hb gZ fun w7 hs hb=>ln (zA (eg (q (q3 (xl (isAgg3 _) (hb.d0 1 (gS gZ))) (sc call64 ((p_C aS w7).mono ?_))))))))))))))))))))
 rintro e w8 ⟨he,hE⟩
 refine ⟨_,he,?_⟩
 obtain ⟨hs,hb⟩:=hs.pp hb hE
 refine q (ln (vD (fun ρ w=>∃aD aE aF aG aH aI,∃H:NP,Has ρ [(0,(vp p1)),(4,(vp (some p2))),(5,(vp (some p3))),(7,(vp (some p4)))]∧Hst w0 H w H w∧HB H w [(p4,(Ab aD aE aF aG aH aI),28),(p3,(Ad aS aT aU aV aW bL bH),103),(p2,[(vi 0),(vi 0),(vi 0),(vu 0),ve,Sl.nil.v],28)]∧m_B1_j1 p1 aS bH aD aE aF aG aH aI w0 H w K) ?_ ?_))
 rintro ρ w ⟨aD,aE,aF,aG,aH,aI,H,hH,hs,hb,h⟩
 refine zR hH (zA (eg (q (q3 (xl (isAgg3 _) (hb.d0 1 (gS gZ))) (sc call64 ((p_C aS w).mono ?_))))))
 rintro e w9 ⟨he,hE⟩
 refine ⟨_,he,?_⟩
 obtain ⟨hs,hb⟩:=hs.pp hb hE
 refine q (ln (cbr h ?_ ?_))<;>intro h
 have ⟨h,hs⟩:=hs.hr (h w9)
 obtain ⟨C1,hC,h⟩:=h
 refine dr2 (fun x=>C1 x∧HB H x _) [5,6,7,9] [9] ⟨hC,hb.drew⟩ h hs hb fun w10 hs hb h=>?_
 have hs:=hs.here
 refine qx 0 (vp (some (p4.add 5))) Kp0 (qz 1 aI.v Kp1 (fun w' hw'=>(xl (isAgg22 _) (hw'.2.cell 0 5 gZ (by kernel_rfl)))) (qx 2 (vp p1) Kp2 (qx 3 (vp (some (p3.add 6))) Kp3 (qz 4 (vi bH) Kp4 (fun w' hw'=>(xl (isAgg23 _) (hw'.2.cell 1 6 (gS gZ) (by kernel_rfl)))) (lg 5 (slc Kp5 call20 (h.mono ?_)))))))
 rintro e w11 ⟨bW,bX,bY,bZ,cA,bV,rfl,hC,hk,h⟩
 refine ⟨_,rfl,.inr ⟨hC,hb.kept hk⟩,?_⟩
 obtain ⟨hs,hb⟩:=hk.hh hs hb
 refine lg 6 (qH (O:=(.cells #[(vi bW),(vi bX),(vi bY),(vu bZ),(vs cA),bV.v] 28)) (fun p=>(Sl.mk (some p) 1 1).v) Kp6 (zJ rfl) (by kernel_rfl) (vI (vs:=#[(0,(Aa bW bX bY bZ cA bV))]) (by kernel_rfl) (by kernel_rfl)) ?_)
 intro p5 w12 hn9
 have h:=h p5 w12 hn9
 refine ⟨.inr ⟨h.1,hb.kept (Ext.new (F:=None) hn9).keptP⟩,?_⟩
 have h:=h.2
 obtain ⟨hs,hb⟩:=hs.nw hb hn9
 refine lg 7 ?_
 obtain ⟨s1,w13,hv1,hC,hk,h⟩:=h
 refine sl (v:=s1.v) Kp7 (zJ rfl) (by kernel_rfl) (vL (args:=#[aI.v,(Sl.mk (some p5) 1 1).v]) (by kernel_rfl) (fun _=>rfl) hv1) (.inr ⟨hC,hb.kept hk⟩) ?_
 obtain ⟨hs,hb⟩:=hk.hh hs hb
 refine qx 8 (vp (some (p4.add 5))) Kp8 (lg 9 (jRN Kp9 (xs (v:=s1.v) (sizeOf22 _) (hb.canW 0 5 gZ (by kernel_rfl))) ?_))
 intro w14 hn7
 have hsb:Hst w0 H w13 H w14∧HB H w14 [(p4,(Ab aD aE aF aG aH s1),28),(p3,(Ad aS aT aU aV aW bL bH),103),(p2,[(vi 0),(vi 0),(vi 0),(vu 0),ve,Sl.nil.v],28)]:=by
  rw [hn7];exact hb.set (i:=0) 5 (v:=s1.v) hs gZ (by kernel_rfl)
 obtain ⟨hs,hb⟩:=hsb
 refine ⟨.inl (by kernel_rfl),?_⟩
 refine wn (zN (eg (q2 (Aa aD aE aF aG aH s1) (xa p4 (Ab aD aE aF aG aH s1) (isAgg28 _) (sizeOf28 _) (hb.r0 0 6 gZ)) (vW (zJ rfl) (xo p2 (Ab aD aE aF aG aH s1) (sizeOf28 _) (hb.k0 2 6 (gS (gS gZ)))) ?_))))
 intro w15 hn8
 obtain ⟨hs,hb⟩:=hb.st1 2 hs hn8 (gS (gS gZ))
 refine ln (er ?_)
 have ⟨h,hs⟩:=hs.hr (h w15)
 refine jAT (.inl rfl) (vs:=[(Aa aD aE aF aG aH s1)]) (v:=(Aa aD aE aF aG aH s1)) results20 ⟨(rva (isAgg28 _) (sizeOf28 _) (hb.r0 2 6 (gS (gS gZ)))),trivial⟩ (by kernel_rfl) ⟨aD,aE,aF,aG,aH,s1,rfl,h⟩
 refine zD (zN (eg (q2 (Aa aD aE aF aG aH aI) (xa p4 (Ab aD aE aF aG aH aI) (isAgg28 _) (sizeOf28 _) (hb.r0 0 6 gZ)) (vW (zJ rfl) (xo p2 (Ab aD aE aF aG aH aI) (sizeOf28 _) (hb.k0 2 6 (gS (gS gZ)))) ?_))))
 intro w16 hn10
 obtain ⟨hs,hb⟩:=hb.st1 2 hs hn10 (gS (gS gZ))
 refine ln (er ?_)
 have ⟨h,hs⟩:=hs.hr (h w16)
 refine jAT (.inl rfl) (vs:=[(Aa aD aE aF aG aH aI)]) (v:=(Aa aD aE aF aG aH aI)) results20 ⟨(rva (isAgg28 _) (sizeOf28 _) (hb.r0 2 6 (gS (gS gZ)))),trivial⟩ (by kernel_rfl) ⟨aD,aE,aF,aG,aH,aI,rfl,h⟩
 refine cbr h ?_ ?_<;>intro h
 have ⟨h,hs⟩:=hs.hr (h H3 w8)
 obtain ⟨C2,hC,h⟩:=h
 refine dr2 (fun x=>C2 x∧HB H3 x _) [5,6,7,9] [9] ⟨hC,hb.drew⟩ h hs hb fun w17 hs hb h=>?_
 have hs:=hs.here
 refine qx 0 (vp (some (p4.add 5))) Kp0 (qz 1 Sl.nil.v Kp1 (fun w' hw'=>(xl (isAgg22 _) (hw'.2.cell 0 5 gZ (by kernel_rfl)))) (qx 2 (vp p1) Kp2 (qx 3 (vp (some (p3.add 5))) Kp3 (qz 4 (vi bL) Kp4 (fun w' hw'=>(xl (isAgg23 _) (hw'.2.cell 1 5 (gS gZ) (by kernel_rfl)))) (lg 5 (slc Kp5 call20 (h.mono ?_)))))))
 rintro e w18 ⟨cJ,cK,cL,cM,cN,cB,rfl,hC,hk,h⟩
 refine ⟨_,rfl,.inr ⟨hC,hb.kept hk⟩,?_⟩
 obtain ⟨hs,hb⟩:=hk.hh hs hb
 refine lg 6 (qH (O:=(.cells #[(vi cJ),(vi cK),(vi cL),(vu cM),(vs cN),cB.v] 28)) (fun p=>(Sl.mk (some p) 1 1).v) Kp6 (zJ rfl) (by kernel_rfl) (vI (vs:=#[(0,(Aa cJ cK cL cM cN cB))]) (by kernel_rfl) (by kernel_rfl)) ?_)
 intro p6 w19 hn12
 have h:=h p6 w19 hn12
 refine ⟨.inr ⟨h.1,hb.kept (Ext.new (F:=None) hn12).keptP⟩,?_⟩
 have h:=h.2
 obtain ⟨hs,hb⟩:=hs.nw hb hn12
 refine lg 7 ?_
 obtain ⟨s2,w20,hv2,hC,hk,h⟩:=h
 refine sl (v:=s2.v) Kp7 (zJ rfl) (by kernel_rfl) (vL (args:=#[Sl.nil.v,(Sl.mk (some p6) 1 1).v]) (by kernel_rfl) (fun _=>rfl) hv2) (.inr ⟨hC,hb.kept hk⟩) ?_
 obtain ⟨hs,hb⟩:=hk.hh hs hb
 refine qx 8 (vp (some (p4.add 5))) Kp8 (lg 9 (jRN Kp9 (xs (v:=s2.v) (sizeOf22 _) (hb.canW 0 5 gZ (by kernel_rfl))) ?_))
 intro w21 hn11
 have hsb:Hst w0 H3 w20 H3 w21∧HB H3 w21 [(p4,(Ab aS aT aU aV aW s2),28),(p3,(Ad aS aT aU aV aW bL bH),103),(p2,[(vi 0),(vi 0),(vi 0),(vu 0),ve,Sl.nil.v],28)]:=by
  rw [hn11];exact hb.set (i:=0) 5 (v:=s2.v) hs gZ (by kernel_rfl)
 obtain ⟨hs,hb⟩:=hsb
 refine ⟨.inl (by kernel_rfl),?_⟩
 refine wn ?_
 have ⟨h,hs⟩:=hs.hr (h w21)
 refine zN ⟨aS,aT,aU,aV,aW,s2,H3,hm,hs,hb,h⟩
 refine zD ?_
 have ⟨h,hs⟩:=hs.hr (h H3 w8)
 refine zN ⟨aS,aT,aU,aV,aW,Sl.nil,H3,hm,hs,hb,h⟩
def m_N1_l1 (bE bK:Sl) (i1:Int) (Hl1:NP) (wl1:World) (Kc1:Int→NP→WP) (K:Bool→WP):Prop :=Br (decide (i1<(bE.len:Int))) (∃C1:WP,C1 wl1.drew∧∀w12,w12=wl1.drew→∃a1:Addr,At bE i1 6 a1∧∃aN aO aP aQ aR bD,(∀w',C1 w'→Row w' a1 (Ab aN aO aP aQ aR bD))∧∃a2:Addr,At bK i1 6 a2∧∃cO cP cQ cR cS cT,(∀w',C1 w'→Row w' a2 (Ab cO cP cQ cR cS cT))∧Calls prog 37 #[(.agg #[(vi aN),(vi aO),(vi aP),(vu aQ),(vs aR),bD.v]),(.agg #[(vi cO),(vi cP),(vi cQ),(vu cR),(vs cS),cT.v])] w12 (fun e w13=>∃r1,e=.returned (vb r1)∧C1 w13∧Kept Hl1 w12 w13∧Br (!r1) (K false w13) (Kc1 (q6.wrap (i1+1)) Hl1 w13))) (K true wl1)
def m_N1 (aZ bB:Int) (bF bI:Int) (bN:ByteArray) (bE:Sl) (bA bC:Int) (bG bJ:Int) (bO:ByteArray) (bK:Sl) (w0:World) (K:Bool→WP):Prop :=∀y1:Bool,y1=((((((aZ != bA) || (bB != bC)) || (bF != bG)) || (bI != bJ)) || (!(decide (bN=bO)))) || (((bE.len:Int):Int) != (bK.len:Int)))→Br y1 (∀H7 w7,Hst w0 None w0 H7 w7→K false w7) (∀H7 w7,Hst w0 None w0 H7 w7→∃(I1:Int→NP→WP) (mu1:Int→World→Nat),I1 0 H7 w7∧∀(i1:Int) (Hl1:NP) (wl1:World),Hst w0 Hl1 wl1 Hl1 wl1→I1 i1 Hl1 wl1→m_N1_l1 bE bK i1 Hl1 wl1 (fun y'0 H' w'=>I1 y'0 H' w'∧mu1 y'0 w'<mu1 i1 wl1) K)
theorem w_N1 (aZ bB bF bI bN bE bA bC bG bJ bO bK w0 K) (h:m_N1 aZ bB bF bI bN bE bA bC bG bJ bO bK w0 K):
  Calls prog 37 #[(.agg #[(vi aZ),(vi bB),(vi bF),(vu bI),(vs bN),bE.v]),(.agg #[(vi bA),(vi bC),(vi bG),(vu bJ),(vs bO),bK.v])] w0 (fun e w'=>∃r2,e=.returned (vb r2)∧K r2 w'):=by
 refine cw (args:=[(Aa aZ bB bF bI bN bE),(Aa bA bC bG bJ bO bK)]) func37 ntmps37 ?_
 obtain ⟨hs,hb⟩:=st0 w0
 refine eg (nw3 (Ab aZ bB bF bI bN bE) 28 hs hb xb fun p1 w1 H1 hs hb=>nw3 (Ab bA bC bG bJ bO bK) 28 hs hb xb fun p2 w2 H2 hs hb=>q (ln (zA (zA (vO (fun ρ wJ=>∃b5'0 y1:Bool,∃HJ:NP,((((((aZ != bA) || (bB != bC)) || (bF != bG)) || (bI != bJ)) || (!(decide (bN=bO))))=b5'0)∧(y1=(b5'0 || (((bE.len:Int):Int) != (bK.len:Int))))∧Hst w0 None w0 HJ wJ∧HB HJ wJ [(p2,(Ab bA bC bG bJ bO bK),28),(p1,(Ab aZ bB bF bI bN bE),28)]∧Has ρ [(2,(vp (some p1))),(3,(vp (some p2))),(47,(vb y1))]) ?_ ?_)))))
 refine rg (q (q3 (xl (isAgg3 _) (hb.d0 1 (gS gZ))) (q (q3 (xl (isAgg3 _) (hb.d0 0 gZ)) (qb (zK 6 (fun ρ wJ=>∃b6'0:Bool,∃HJ:NP,((aZ != bA)=b6'0)∧Hst w0 None w0 HJ wJ∧HB HJ wJ [(p2,(Ab bA bC bG bJ bO bK),28),(p1,(Ab aZ bB bF bI bN bE),28)]∧Has ρ [(2,(vp (some p1))),(3,(vp (some p2))),(17,(vb (b6'0 || (bB != bC))))]) ?_ ?_))))))
 rintro ρ w8 ⟨b6'0,H8,he0,hs,hb,hH⟩
 subst he0
 refine zQ hH (q (zK 6 (fun ρ wJ=>∃b7'0:Bool,∃HJ:NP,(((aZ != bA) || (bB != bC))=b7'0)∧Hst w0 None w0 HJ wJ∧HB HJ wJ [(p2,(Ab bA bC bG bJ bO bK),28),(p1,(Ab aZ bB bF bI bN bE),28)]∧Has ρ [(2,(vp (some p1))),(3,(vp (some p2))),(24,(vb (b7'0 || (bF != bG))))]) ?_ ?_))
 rintro ρ w9 ⟨b7'0,H9,he0,hs,hb,hH⟩
 subst he0
 refine zQ hH (q (zK 6 (fun ρ wJ=>∃b8'0:Bool,∃HJ:NP,((((aZ != bA) || (bB != bC)) || (bF != bG))=b8'0)∧Hst w0 None w0 HJ wJ∧HB HJ wJ [(p2,(Ab bA bC bG bJ bO bK),28),(p1,(Ab aZ bB bF bI bN bE),28)]∧Has ρ [(2,(vp (some p1))),(3,(vp (some p2))),(31,(vb (b8'0 || (bI != bJ))))]) ?_ ?_))
 rintro ρ w10 ⟨b8'0,H10,he0,hs,hb,hH⟩
 subst he0
 refine zQ hH (q (zK 6 (fun ρ wJ=>∃b9'0:Bool,∃HJ:NP,(((((aZ != bA) || (bB != bC)) || (bF != bG)) || (bI != bJ))=b9'0)∧Hst w0 None w0 HJ wJ∧HB HJ wJ [(p2,(Ab bA bC bG bJ bO bK),28),(p1,(Ab aZ bB bF bI bN bE),28)]∧Has ρ [(2,(vp (some p1))),(3,(vp (some p2))),(38,(vb (b9'0 || (!(decide (bN=bO))))))]) ?_ ?_))
 rintro ρ w11 ⟨b9'0,H11,he0,hs,hb,hH⟩
 subst he0
 refine zQ hH (q ?_)
 rcases bte (((((aZ != bA) || (bB != bC)) || (bF != bG)) || (bI != bJ)) || (!(decide (bN=bO)))) with hg18 | hg18
 refine sj2 39 hg18 (sj5 39 hg18 (q2 (vb true) (xT hg18) (ln ⟨true,_,_,hg18,rfl,hs,hb,hm⟩)))
 refine qk 39 hg18 (q4 39 hg18 (xl (isAgg22 _) (hb.d 1 5 (gS gZ))) (qk 39 hg18 (qk 39 hg18 (q4 39 hg18 (xl (isAgg22 _) (hb.d 0 5 gZ)) (qk 39 hg18 (qk 39 hg18 (q2 (vb (((bE.len:Int):Int) != (bK.len:Int))) (xF hg18) (ln ⟨false,_,_,hg18,rfl,hs,hb,hm⟩))))))))
 rcases bte ((((aZ != bA) || (bB != bC)) || (bF != bG)) || (bI != bJ)) with hg17 | hg17
 refine sj5 32 hg17 (q2 (vb true) (xT hg17) (zC ⟨true,_,hg17,hs,hb,hm⟩))
 refine qk 32 hg17 (q4 32 hg17 (xl (isAgg9 _) (hb.d 1 4 (gS gZ))) (qk 32 hg17 (q4 32 hg17 (xl (isAgg9 _) (hb.d 0 4 gZ)) (stq (v:=(vb (!(decide (bN=bO))))) (wy 32 hg17) (xV (by kernel_rfl) (by kernel_rfl)) (q2 (vb (!(decide (bN=bO)))) (xF hg17) (zC ⟨false,_,hg17,hs,hb,hm⟩))))))
 rcases bte (((aZ != bA) || (bB != bC)) || (bF != bG)) with hg15 | hg15
 refine sj5 25 hg15 (q2 (vb true) (xT hg15) (zC ⟨true,_,hg15,hs,hb,hm⟩))
 refine qk 25 hg15 (q4 25 hg15 (xl (isAgg26 _) (hb.d 1 3 (gS gZ))) (qk 25 hg15 (q4 25 hg15 (xl (isAgg26 _) (hb.d 0 3 gZ)) (qk 25 hg15 (q2 (vb (bI != bJ)) (xF hg15) (zC ⟨false,_,hg15,hs,hb,hm⟩))))))
 rcases bte ((aZ != bA) || (bB != bC)) with hg13 | hg13
 refine sj5 18 hg13 (q2 (vb true) (xT hg13) (zC ⟨true,_,hg13,hs,hb,hm⟩))
 refine qk 18 hg13 (q4 18 hg13 (xl (isAgg3 _) (hb.d 1 2 (gS gZ))) (qk 18 hg13 (q4 18 hg13 (xl (isAgg3 _) (hb.d 0 2 gZ)) (qk 18 hg13 (q2 (vb (bF != bG)) (xF hg13) (zC ⟨false,_,hg13,hs,hb,hm⟩))))))
 rcases bte (aZ != bA) with hg11 | hg11
 refine sj5 11 hg11 (q2 (vb true) (xT hg11) (zC ⟨true,_,hg11,hs,hb,hm⟩))
 refine qk 11 hg11 (q4 11 hg11 (xl (isAgg3 _) (hb.d 1 1 (gS gZ))) (qk 11 hg11 (q4 11 hg11 (xl (isAgg3 _) (hb.d 0 1 gZ)) (qk 11 hg11 (q2 (vb (bB != bC)) (xF hg11) (zC ⟨false,_,hg11,hs,hb,hm⟩))))))
 rintro ρ w7 ⟨b5'0,y1,H7,he0,hy1,hs,hb,hH⟩
 subst he0
 have h:=h y1 hy1
 refine vC hH (zN (cbr h ?_ ?_))<;>intro h
 refine eg (q (ln (er (vA ?_))))
 have ⟨h,hs⟩:=hs.hr (h H7 w7)
 refine rs1 results37 ⟨false,rfl,h⟩
 refine zD (zN (zA (eg (q (ln (zL ?_))))))
 have ⟨h,hs⟩:=hs.hr (h H7 w7)
 obtain ⟨I1,mu1,h0,hr⟩:=h
 refine vR (σ:=Int×NP×World) (fun s ρ w=>w=s.2.2∧Has ρ [(2,(vp (some p1))),(3,(vp (some p2))),(5,(vi s.1))]∧Hst w0 s.2.1 w s.2.1 w∧HB s.2.1 w [(p2,(Ab bA bC bG bJ bO bK),28),(p1,(Ab aZ bB bF bI bN bE),28)]∧I1 s.1 s.2.1 s.2.2) (fun s=>mu1 s.1 s.2.2) (0,H7,w7) ⟨rfl,hm,hs,hb,h0⟩ ?_
 rintro ⟨i1,Hl1,wl1⟩ ρ w ⟨hw,hH,hs,hb,hI⟩
 dsimp only at hw hH hs hb;subst w
 have h:=hr i1 Hl1 wl1 hs hI
 refine zR hH (zA (eg (qb (q3 (xl (isAgg22 _) (hb.d 1 5 (gS gZ))) (qb (ln (cbr h ?_ ?_)))))))<;>intro h
 refine zD (zN (zA (zL (zA ?_))))
 obtain ⟨C1,hC,h⟩:=h
 refine dr2 (fun x=>C1 x∧HB Hl1 x _) [10] [] ⟨hC,hb.drew⟩ h hs hb fun w12 hs hb h=>?_
 have hs:=hs.here
 refine qx 0 (vp (some (p1.add 5))) Kp0 (qz 1 bE.v Kp1 (fun w' hw'=>(xl (isAgg22 _) (hw'.2.cell 1 5 (gS gZ) (by kernel_rfl)))) (qx 2 (vi i1) Kp2 (qg 3 ?_)))
 obtain ⟨a1,hv4,h⟩:=h
 refine sy Kp3 (fun _ _=>xi (runUnderlying22 _) (sizeOf28 _) hv4) (qg 4 ?_)
 obtain ⟨aN,aO,aP,aQ,aR,bD,hv3,h⟩:=h
 refine sy (v:=(Aa aN aO aP aQ aR bD)) Kp4 (fun w' hw'=>(xa a1 (Ab aN aO aP aQ aR bD) (isAgg28 _) (sizeOf28 _) (hv3 w' hw'.1))) (qx 5 (vp (some (p2.add 5))) Kp5 (qz 6 bK.v Kp6 (fun w' hw'=>(xl (isAgg22 _) (hw'.2.cell 0 5 gZ (by kernel_rfl)))) (qx 7 (vi i1) Kp7 (qg 8 ?_))))
 obtain ⟨a2,hv2,h⟩:=h
 refine sy Kp8 (fun _ _=>xi (runUnderlying22 _) (sizeOf28 _) hv2) (qg 9 ?_)
 obtain ⟨cO,cP,cQ,cR,cS,cT,hv1,h⟩:=h
 refine sy (v:=(Aa cO cP cQ cR cS cT)) Kp9 (fun w' hw'=>(xa a2 (Ab cO cP cQ cR cS cT) (isAgg28 _) (sizeOf28 _) (hv1 w' hw'.1))) (lg 10 (slc (zG (S8 (zB (zB zF)))) call37 (h.mono ?_)))
 rintro e w13 ⟨r1,rfl,hC,hk,h⟩
 refine ⟨_,rfl,.inr ⟨hC,hb.kept hk⟩,?_⟩
 obtain ⟨hs,hb⟩:=hk.hh hs hb
 refine qx 11 (vb (!r1)) (zG (S8 (zB (zB (zB zF))))) (wn (zN (cbr h ?_ ?_)))<;>intro h
 refine eg (q (ln (er (qU (vA (vA (qU (vA (rs1 results37 ⟨false,rfl,h⟩)))))))))
 refine zD (tG (zN (rg (qc (ln ⟨((q6.wrap (i1+1)),Hl1,w13),⟨rfl,hm,hs,hb,h.1⟩,h.2⟩)))))
 refine vN (xH (xH (xB (zN (eg (q0 (vb true) (ln (er (rs1 results37 ⟨true,rfl,h⟩)))))))))
def m_O1_l1 (aD aE:Int) (aF aG:Int) (aH:ByteArray) (aI:Sl) (i1 bQ:Int) (bR bS bT:Int) (bU:ByteArray) (bM:Sl) (w0:World) (Hl1:NP) (wl1:World) (Kc1:Int→Int→Int→Int→Int→ByteArray→Sl→NP→WP) (K:Int→Int→Int→Int→ByteArray→Sl→WP):Prop :=Br (decide (i1<(aI.len:Int))) (∃C1:WP,C1 wl1.drew∧∀w6,w6=wl1.drew→∃a1:Addr,At aI i1 6 a1∧∃aN aO aP aQ aR bD,(∀w',C1 w'→Row w' a1 (Ab aN aO aP aQ aR bD))∧Calls prog 39 #[(.agg #[(vi aN),(vi aO),(vi aP),(vu aQ),(vs aR),bD.v])] w6 (fun e w7=>∃aS aT aU aV aW bV,e=.returned (Aa aS aT aU aV aW bV)∧C1 w7∧Kept Hl1 w6 w7∧∀p4 w8,New w7 (.cells #[(vi aS),(vi aT),(vi aU),(vu aV),(vs aW),bV.v] 28) p4 w8→C1 w8∧∃s1:Sl,∃w9:World,(Builtin.append_ #[22,22] 22 #[bM.v,(Sl.mk (some p4) 1 1).v]).run prog w8=.ok s1.v w9∧C1 w9∧Kept Hl1 w8 w9∧∀w10,Hst w0 Hl1 w9 Hl1 w10→Kc1 (q6.wrap (i1+1)) bQ bR bS bT bU s1 Hl1 w10)) (∃C2:WP,C2 wl1.drew∧∀w11,w11=wl1.drew→∀p5 w12,New w11 (.cells #[(vi (-1)),(vi 0),(vi 0),(vu 0),ve,Sl.nil.v] 28) p5 w12→C2 w12∧∃s2:Sl,∃w13:World,(Builtin.append_ #[22,22] 22 #[bM.v,(Sl.mk (some p5) 1 1).v]).run prog w12=.ok s2.v w13∧C2 w13∧Kept Hl1 w12 w13∧∃s3:Sl,(∀w',C2 w'→(Instr.sliceAt 22 s2.v none (some (vi (bM.len:Int))) none).run prog w'=.ok s3.v w')∧∀w14,Hst w0 Hl1 w13 Hl1 w14→K aD aE aF aG aH s3 w14)
def m_O1 (aD aE:Int) (aF aG:Int) (aH:ByteArray) (aI:Sl) (w0:World) (K:Int→Int→Int→Int→ByteArray→Sl→WP):Prop :=∀H3 w5,Hst w0 None w0 H3 w5→∃(I1:Int→Int→Int→Int→Int→ByteArray→Sl→NP→WP) (mu1:Int→Int→Int→Int→Int→ByteArray→Sl→World→Nat),I1 0 aD aE aF aG aH Sl.nil H3 w5∧∀(i1 bQ:Int) (bR bS bT:Int) (bU:ByteArray) (bM:Sl) (Hl1:NP) (wl1:World),Hst w0 Hl1 wl1 Hl1 wl1→I1 i1 bQ bR bS bT bU bM Hl1 wl1→m_O1_l1 aD aE aF aG aH aI i1 bQ bR bS bT bU bM w0 Hl1 wl1 (fun y'0 y'1 y'2 y'3 y'4 y'5 y'6 H' w'=>I1 y'0 y'1 y'2 y'3 y'4 y'5 y'6 H' w'∧mu1 y'0 y'1 y'2 y'3 y'4 y'5 y'6 w'<mu1 i1 bQ bR bS bT bU bM wl1) K
theorem w_O1 (aD aE aF aG aH aI w0 K) (h:m_O1 aD aE aF aG aH aI w0 K):
  Calls prog 39 #[(.agg #[(vi aD),(vi aE),(vi aF),(vu aG),(vs aH),aI.v])] w0 (fun e w'=>∃bW bX bY bZ cA cB,e=.returned (Aa bW bX bY bZ cA cB)∧K bW bX bY bZ cA cB w'):=by
 refine cw (args:=[(Aa aD aE aF aG aH aI)]) func39 ntmps39 ?_
 obtain ⟨hs,hb⟩:=st0 w0
 refine eg (nw3 (Ab aD aE aF aG aH aI) 28 hs hb xb fun p1 w1 H1 hs hb=>nw3 [(vi 0),(vi 0),(vi 0),(vu 0),ve,Sl.nil.v] 28 hs hb (zH (zeroValue28 _) rfl) fun p2 w2 H2 hs hb=>ln (eg (q2 (Aa aD aE aF aG aH aI) (xa p1 (Ab aD aE aF aG aH aI) (isAgg28 _) (sizeOf28 _) (hb.r0 1 6 (gS gZ))) (nw3 [(vi 0),(vi 0),(vi 0),(vu 0),ve,Sl.nil.v] 28 hs hb (zH (zeroValue28 _) rfl) fun p3 w3 H3 hs hb=>sbx 0 (Ab aD aE aF aG aH aI) (sizeOf28 _) hs hb gZ fun w4 hs hb=>ln (eg (q (vW (zJ rfl) (yP (a:=(p3.add 5)) (v:=Sl.nil.v) (by kernel_rfl) (by kernel_rfl) rfl (sizeOf22 _) (hb.canW 0 5 gZ (by kernel_rfl))) ?_)))))))
 intro w5 hn5
 have hsb:Hst w0 None w0 H3 w5∧HB H3 w5 [(p3,[(vi aD),(vi aE),(vi aF),(vu aG),(vs aH),Sl.nil.v],28),(p2,[(vi 0),(vi 0),(vi 0),(vu 0),ve,Sl.nil.v],28),(p1,(Ab aD aE aF aG aH aI),28)]:=by
  rw [hn5];exact hb.set (i:=0) 5 (v:=Sl.nil.v) hs gZ (by kernel_rfl)
 obtain ⟨hs,hb⟩:=hsb
 refine ln (zA (eg (q (ln (zL ?_)))))
 have ⟨h,hs⟩:=hs.hr (h H3 w5)
 obtain ⟨I1,mu1,h0,hr⟩:=h
 refine vR (σ:=Int×Int×Int×Int×Int×ByteArray×Sl×NP×World) (fun s ρ w=>w=s.2.2.2.2.2.2.2.2∧Has ρ [(1,(vp (some p1))),(2,(vp (some p2))),(3,(vp (some p3))),(4,(vi s.1))]∧Hst w0 s.2.2.2.2.2.2.2.1 w s.2.2.2.2.2.2.2.1 w∧HB s.2.2.2.2.2.2.2.1 w [(p3,[(vi s.2.1),(vi s.2.2.1),(vi s.2.2.2.1),(vu s.2.2.2.2.1),(vs s.2.2.2.2.2.1),s.2.2.2.2.2.2.1.v],28),(p2,[(vi 0),(vi 0),(vi 0),(vu 0),ve,Sl.nil.v],28),(p1,(Ab aD aE aF aG aH aI),28)]∧I1 s.1 s.2.1 s.2.2.1 s.2.2.2.1 s.2.2.2.2.1 s.2.2.2.2.2.1 s.2.2.2.2.2.2.1 s.2.2.2.2.2.2.2.1 s.2.2.2.2.2.2.2.2) (fun s=>mu1 s.1 s.2.1 s.2.2.1 s.2.2.2.1 s.2.2.2.2.1 s.2.2.2.2.2.1 s.2.2.2.2.2.2.1 s.2.2.2.2.2.2.2.2) (0,aD,aE,aF,aG,aH,Sl.nil,H3,w5) ⟨rfl,hm,hs,hb,h0⟩ ?_
 rintro ⟨i1,bQ,bR,bS,bT,bU,bM,Hl1,wl1⟩ ρ w ⟨hw,hH,hs,hb,hI⟩
 dsimp only at hw hH hs hb;subst w
 have h:=hr i1 bQ bR bS bT bU bM Hl1 wl1 hs hI
 refine zR hH (zA (eg (qb (q3 (xl (isAgg22 _) (hb.d 2 5 (gS (gS gZ)))) (qb (ln (cbr h ?_ ?_)))))))<;>intro h
 refine zD (zN (zA (zL ?_)))
 obtain ⟨C1,hC,h⟩:=h
 refine dr2 (fun x=>C1 x∧HB Hl1 x _) [7,8,9,11] [11] ⟨hC,hb.drew⟩ h hs hb fun w6 hs hb h=>?_
 have hs:=hs.here
 refine qx 0 (vp (some (p3.add 5))) Kp0 (qz 1 bM.v Kp1 (fun w' hw'=>(xl (isAgg22 _) (hw'.2.cell 0 5 gZ (by kernel_rfl)))) (qx 2 (vp (some (p1.add 5))) Kp2 (qz 3 aI.v Kp3 (fun w' hw'=>(xl (isAgg22 _) (hw'.2.cell 2 5 (gS (gS gZ)) (by kernel_rfl)))) (qx 4 (vi i1) Kp4 (qg 5 ?_)))))
 obtain ⟨a1,hv3,h⟩:=h
 refine sy Kp5 (fun _ _=>xi (runUnderlying22 _) (sizeOf28 _) hv3) (qg 6 ?_)
 obtain ⟨aN,aO,aP,aQ,aR,bD,hv2,h⟩:=h
 refine sy (v:=(Aa aN aO aP aQ aR bD)) Kp6 (fun w' hw'=>(xa a1 (Ab aN aO aP aQ aR bD) (isAgg28 _) (sizeOf28 _) (hv2 w' hw'.1))) (lg 7 (slc Kp7 call39 (h.mono ?_)))
 rintro e w7 ⟨aS,aT,aU,aV,aW,bV,rfl,hC,hk,h⟩
 refine ⟨_,rfl,.inr ⟨hC,hb.kept hk⟩,?_⟩
 obtain ⟨hs,hb⟩:=hk.hh hs hb
 refine lg 8 (qH (O:=(.cells #[(vi aS),(vi aT),(vi aU),(vu aV),(vs aW),bV.v] 28)) (fun p=>(Sl.mk (some p) 1 1).v) Kp8 (zJ rfl) (by kernel_rfl) (vI (vs:=#[(0,(Aa aS aT aU aV aW bV))]) (by kernel_rfl) (by kernel_rfl)) ?_)
 intro p4 w8 hn7
 have h:=h p4 w8 hn7
 refine ⟨.inr ⟨h.1,hb.kept (Ext.new (F:=None) hn7).keptP⟩,?_⟩
 have h:=h.2
 obtain ⟨hs,hb⟩:=hs.nw hb hn7
 refine lg 9 ?_
 obtain ⟨s1,w9,hv1,hC,hk,h⟩:=h
 refine sl (v:=s1.v) Kp9 (zJ rfl) (by kernel_rfl) (vL (args:=#[bM.v,(Sl.mk (some p4) 1 1).v]) (by kernel_rfl) (fun _=>rfl) hv1) (.inr ⟨hC,hb.kept hk⟩) ?_
 obtain ⟨hs,hb⟩:=hk.hh hs hb
 refine qx 10 (vp (some (p3.add 5))) (zG (S8 (zB (zB zF)))) (lg 11 (jRN (zG (S8 (zB (zB (zB zF))))) (xs (v:=s1.v) (sizeOf22 _) (hb.canW 0 5 gZ (by kernel_rfl))) ?_))
 intro w10 hn6
 have hsb:Hst w0 Hl1 w9 Hl1 w10∧HB Hl1 w10 [(p3,(Ab bQ bR bS bT bU s1),28),(p2,[(vi 0),(vi 0),(vi 0),(vu 0),ve,Sl.nil.v],28),(p1,(Ab aD aE aF aG aH aI),28)]:=by
  rw [hn6];exact hb.set (i:=0) 5 (v:=s1.v) hs gZ (by kernel_rfl)
 obtain ⟨hs,hb⟩:=hsb
 refine ⟨.inl (by kernel_rfl),?_⟩
 refine wn (tG (zN (rg (qc (zC ?_)))))
 have ⟨h,hs⟩:=hs.hr (h w10)
 refine zN ⟨((q6.wrap (i1+1)),bQ,bR,bS,bT,bU,s1,Hl1,w10),⟨rfl,hm,hs,hb,h.1⟩,h.2⟩
 refine vN (xH (xH (xB (zN (eg (q0 (vp (some (p3.add 5))) (q2 bM.v (xl (isAgg22 _) (hb.c 0 5 gZ)) (q0 (vi (bM.len:Int)) (q0 (vi (bM.len:Int)) (zC (zN (zA ?_))))))))))))
 obtain ⟨C2,hC,h⟩:=h
 refine dr2 (fun x=>C2 x∧HB Hl1 x _) [13,14,18] [18] ⟨hC,hb.drew⟩ h hs hb fun w11 hs hb h=>?_
 have hs:=hs.here
 refine qx 0 (vp (some p1)) Kp0 (qz 1 (vi aD) Kp1 (fun w' hw'=>(xl (isAgg3 _) (hw'.2.cell0 2 (gS (gS gZ)) (by kernel_rfl)))) (qx 2 (vp (some (p1.add 1))) Kp2 (qz 3 (vi aE) Kp3 (fun w' hw'=>(xl (isAgg3 _) (hw'.2.cell 2 1 (gS (gS gZ)) (by kernel_rfl)))) (qx 4 (vp (some (p1.add 2))) Kp4 (qz 5 (vi aF) Kp5 (fun w' hw'=>(xl (isAgg3 _) (hw'.2.cell 2 2 (gS (gS gZ)) (by kernel_rfl)))) (qx 6 (vp (some (p1.add 3))) Kp6 (qz 7 (vu aG) Kp7 (fun w' hw'=>(xl (isAgg26 _) (hw'.2.cell 2 3 (gS (gS gZ)) (by kernel_rfl)))) (qx 8 (vp (some (p1.add 4))) Kp8 (qz 9 (vs aH) Kp9 (fun w' hw'=>(xl (isAgg9 _) (hw'.2.cell 2 4 (gS (gS gZ)) (by kernel_rfl)))) (qx 10 (vp (some (p3.add 5))) (zG (S8 (zB (zB zF)))) (qz 11 bM.v (zG (S8 (zB (zB (zB zF))))) (fun w' hw'=>(xl (isAgg22 _) (hw'.2.cell 0 5 gZ (by kernel_rfl)))) (qx 12 (.agg #[(vi (-1)),(vi 0),(vi 0),(vu 0),ve,Sl.nil.v]) (zG (S8 (S4 zF))) (qx 15 (vi (bM.len:Int)) (zG (S8 (S4 (zB (zB (zB zF)))))) (lg 13 (qH (O:=(.cells #[(vi (-1)),(vi 0),(vi 0),(vu 0),ve,Sl.nil.v] 28)) (fun p=>(Sl.mk (some p) 1 1).v) (zG (S8 (S4 (zB zF)))) (zJ rfl) (by kernel_rfl) (vI (vs:=#[(0,(.agg #[(vi (-1)),(vi 0),(vi 0),(vu 0),ve,Sl.nil.v]))]) (by kernel_rfl) (by kernel_rfl)) ?_)))))))))))))))
 intro p5 w12 hn9
 have h:=h p5 w12 hn9
 refine ⟨.inr ⟨h.1,hb.kept (Ext.new (F:=None) hn9).keptP⟩,?_⟩
 have h:=h.2
 obtain ⟨hs,hb⟩:=hs.nw hb hn9
 refine lg 14 ?_
 obtain ⟨s2,w13,hv5,hC,hk,h⟩:=h
 refine sl (v:=s2.v) (zG (S8 (S4 (zB (zB zF))))) (zJ rfl) (by kernel_rfl) (vL (args:=#[bM.v,(Sl.mk (some p5) 1 1).v]) (by kernel_rfl) (fun _=>rfl) hv5) (.inr ⟨hC,hb.kept hk⟩) ?_
 obtain ⟨hs,hb⟩:=hk.hh hs hb
 refine qg 16 ?_
 obtain ⟨s3,hv4,h⟩:=h
 refine sy (v:=s3.v) (zG (S8 (S8 zF))) (fun w' hw'=>(uJ (by kernel_rfl) (by kernel_rfl) (by kernel_rfl) (by kernel_rfl) (hv4 w' hw'.1))) (qx 17 (Aa aD aE aF aG aH s3) (zG (S8 (S8 (zB zF)))) (lg 18 (xJ (zG (S8 (S8 (zB (zB zF))))) (zJ rfl) (by kernel_rfl) (xo p2 (Ab aD aE aF aG aH s3) (sizeOf28 _) (hb.k0 1 6 (gS gZ))) ?_)))
 intro w14 hn8
 obtain ⟨hs,hb⟩:=hb.st1 1 hs hn8 (gS gZ)
 refine ⟨.inl (by kernel_rfl),?_⟩
 refine wn (zN (er ?_))
 have ⟨h,hs⟩:=hs.hr (h w14)
 refine jAT (.inl rfl) (vs:=[(Aa aD aE aF aG aH s3)]) (v:=(Aa aD aE aF aG aH s3)) results39 ⟨(rva (isAgg28 _) (sizeOf28 _) (hb.r0 1 6 (gS gZ))),trivial⟩ (by kernel_rfl) ⟨aD,aE,aF,aG,aH,s3,rfl,h⟩
end Go.Proofs
end
section
open Go Go.SE
open Go.IntKind renaming i64 → q6
namespace Go.Proofs
open Tryz
set_option maxRecDepth 100000
set_option maxHeartbeats 4000000
attribute [local irreducible] wpL wpX opE wpE Calls
def m_U3  (w0:World) (K:(Option Nat)→WP):Prop :=∀p1 w1,New w0 (.cells #[(.nilFunc:Value),(.nilFunc:Value)] 213) p1 w1→(∀j,j<2→zW w1 (p1.add j))∧∀w2,w2=storeRow w1 p1 [(.func (.func 182) #[] #[]),(.func (.func 184) #[] #[])]→∀p2 w3,New w2 (.cells #[(.nilFunc:Value),(.nilFunc:Value)] 213) p2 w3→(∀j,j<2→zW w3 (p2.add j))∧∀w4,w4=storeRow w3 p2 [(.func (.func 186) #[] #[]),(.func (.func 187) #[] #[])]→∀p3 w5,New w4 (.cells #[(.nilFunc:Value),(.nilFunc:Value)] 213) p3 w5→(∀j,j<2→zW w5 (p3.add j))∧∀w6,w6=storeRow w5 p3 [(.func (.func 188) #[] #[]),(.func (.func 189) #[] #[])]→∀p4 w7,New w6 (.cells #[(.nilFunc:Value),(.nilFunc:Value)] 213) p4 w7→(∀j,j<2→zW w7 (p4.add j))∧∀w8,w8=storeRow w7 p4 [(.func (.func 190) #[] #[]),(.func (.func 192) #[] #[])]→∀p5 w9,New w8 (.cells #[(.nilFunc:Value),(.nilFunc:Value)] 213) p5 w9→(∀j,j<2→zW w9 (p5.add j))∧∀w10,w10=storeRow w9 p5 [(.func (.func 194) #[] #[]),(.func (.func 195) #[] #[])]→∀p6 w11,New w10 (.cells #[(.nilFunc:Value),(.nilFunc:Value)] 213) p6 w11→(∀j,j<2→zW w11 (p6.add j))∧∀w12,w12=storeRow w11 p6 [(.func (.func 196) #[] #[]),(.func (.func 197) #[] #[])]→∀p7 w13,New w12 (.map #[] 0) p7 w13→∃vput1:Value,∃vget1:Value,Row w13 p1 [vput1,vget1]∧∀p8 w14,New w13 (.cells #[vput1,vget1] 213) p8 w14→∃w15:World,(Instr.mapUpdate 203 (.map (some p7.block)) (vi 1) (Sl.mk (some p8) 1 1).v).run prog w14=.ok () w15∧∃vput2:Value,∃vget2:Value,Row w15 p3 [vput2,vget2]∧∀p9 w16,New w15 (.cells #[vput2,vget2] 213) p9 w16→∃w17:World,(Instr.mapUpdate 203 (.map (some p7.block)) (vi 2) (Sl.mk (some p9) 1 1).v).run prog w16=.ok () w17∧∃vput3:Value,∃vget3:Value,Row w17 p4 [vput3,vget3]∧∀p10 w18,New w17 (.cells #[vput3,vget3] 213) p10 w18→∃w19:World,(Instr.mapUpdate 203 (.map (some p7.block)) (vi 3) (Sl.mk (some p10) 1 1).v).run prog w18=.ok () w19∧∃vput4:Value,∃vget4:Value,Row w19 p5 [vput4,vget4]∧∃vput5:Value,∃vget5:Value,Row w19 p6 [vput5,vget5]∧∀p11 w20,New w19 (.cells #[vput4,vget4,vput5,vget5] 213) p11 w20→∃w21:World,(Instr.mapUpdate 203 (.map (some p7.block)) (vi 4) (Sl.mk (some p11) 2 2).v).run prog w20=.ok () w21∧∃vput6:Value,∃vget6:Value,Row w21 p5 [vput6,vget6]∧∀p12 w22,New w21 (.cells #[vput6,vget6] 213) p12 w22→∃w23:World,(Instr.mapUpdate 203 (.map (some p7.block)) (vi 5) (Sl.mk (some p12) 1 1).v).run prog w22=.ok () w23∧∃vput7:Value,∃vget7:Value,Row w23 p1 [vput7,vget7]∧∀p13 w24,New w23 (.cells #[vput7,vget7] 213) p13 w24→∃w25:World,(Instr.mapUpdate 203 (.map (some p7.block)) (vi 6) (Sl.mk (some p13) 1 1).v).run prog w24=.ok () w25∧∃vput8:Value,∃vget8:Value,Row w25 p1 [vput8,vget8]∧∃vput9:Value,∃vget9:Value,Row w25 p5 [vput9,vget9]∧∀p14 w26,New w25 (.cells #[vput8,vget8,vput9,vget9] 213) p14 w26→∃w27:World,(Instr.mapUpdate 203 (.map (some p7.block)) (vi 7) (Sl.mk (some p14) 2 2).v).run prog w26=.ok () w27∧∃vput10:Value,∃vget10:Value,Row w27 p1 [vput10,vget10]∧∃vput11:Value,∃vget11:Value,Row w27 p2 [vput11,vget11]∧∃vput12:Value,∃vget12:Value,Row w27 p5 [vput12,vget12]∧∀p15 w28,New w27 (.cells #[vput10,vget10,vput11,vget11,vput12,vget12] 213) p15 w28→∃w29:World,(Instr.mapUpdate 203 (.map (some p7.block)) (vi 8) (Sl.mk (some p15) 3 3).v).run prog w28=.ok () w29∧∃vput13:Value,∃vget13:Value,Row w29 p1 [vput13,vget13]∧∃vput14:Value,∃vget14:Value,Row w29 p2 [vput14,vget14]∧∃vput15:Value,∃vget15:Value,Row w29 p5 [vput15,vget15]∧∀p16 w30,New w29 (.cells #[vput13,vget13,vput14,vget14,vput15,vget15] 213) p16 w30→∃w31:World,(Instr.mapUpdate 203 (.map (some p7.block)) (vi 9) (Sl.mk (some p16) 3 3).v).run prog w30=.ok () w31∧K (some p7.block) w31
theorem w_U3  (w0:World) (K:(Option Nat)→WP) (h:m_U3  w0 K) :
  Calls prog 138 #[] w0 (fun e w'=>∃r1:Option Nat,e=.returned (.map r1)∧K r1 w'):=by
 refine cw (args:=[]) func138 ntmps138 (eg (q0 (.map none) (ln (eg (q0 (.agg #[(.func (.func 182) #[] #[]),(.func (.func 184) #[] #[])]) (sn (O:=(.cells #[(.nilFunc:Value),(.nilFunc:Value)] 213)) (zH (zeroValue213 _) rfl) ?_))))))
 intro p1 w1 hn22
 have h:=h p1 w1 hn22
 refine sro (sizeOf213 _) h fun w2 h=>ln (eg (q (nw1 h (zH (zeroValue213 _) rfl) fun p2 w3 h=>sro (sizeOf213 _) h fun w4 h=>ln (eg (q (nw1 h (zH (zeroValue213 _) rfl) fun p3 w5 h=>sro (sizeOf213 _) h fun w6 h=>ln (eg (q (nw1 h (zH (zeroValue213 _) rfl) fun p4 w7 h=>sro (sizeOf213 _) h fun w8 h=>ln (eg (q (nw1 h (zH (zeroValue213 _) rfl) fun p5 w9 h=>sro (sizeOf213 _) h fun w10 h=>ln (eg (q (nw1 h (zH (zeroValue213 _) rfl) fun p6 w11 h=>sro (sizeOf213 _) h fun w12 h=>ln (eg (nw4 (fun p=>.map (some p.block)) h fun p7 w13 h=>?_)))))))))))))))))
 obtain ⟨vput1,vget1,hv24,h⟩:=h
 refine qa (isAgg213 _) (sizeOf213 _) hv24 (nw4 (fun p=>(Sl.mk (some p) 1 1).v) h fun p8 w14 h=>?_)
 obtain ⟨w15,hv23,h⟩:=h
 refine yI (zJ rfl) (uX (by kernel_rfl) (by kernel_rfl) (by kernel_rfl) hv23) ?_
 obtain ⟨vput2,vget2,hv22,h⟩:=h
 refine qa (isAgg213 _) (sizeOf213 _) hv22 (nw4 (fun p=>(Sl.mk (some p) 1 1).v) h fun p9 w16 h=>?_)
 obtain ⟨w17,hv21,h⟩:=h
 refine yI (zJ rfl) (uX (by kernel_rfl) (by kernel_rfl) (by kernel_rfl) hv21) ?_
 obtain ⟨vput3,vget3,hv20,h⟩:=h
 refine qa (isAgg213 _) (sizeOf213 _) hv20 (nw4 (fun p=>(Sl.mk (some p) 1 1).v) h fun p10 w18 h=>?_)
 obtain ⟨w19,hv19,h⟩:=h
 refine yI (zJ rfl) (uX (by kernel_rfl) (by kernel_rfl) (by kernel_rfl) hv19) ?_
 obtain ⟨vput4,vget4,hv18,h⟩:=h
 refine qa (isAgg213 _) (sizeOf213 _) hv18 ?_
 obtain ⟨vput5,vget5,hv17,h⟩:=h
 refine qa (isAgg213 _) (sizeOf213 _) hv17 (nw4 (fun p=>(Sl.mk (some p) 2 2).v) h fun p11 w20 h=>?_)
 obtain ⟨w21,hv16,h⟩:=h
 refine yI (zJ rfl) (uX (by kernel_rfl) (by kernel_rfl) (by kernel_rfl) hv16) ?_
 obtain ⟨vput6,vget6,hv15,h⟩:=h
 refine qa (isAgg213 _) (sizeOf213 _) hv15 (nw4 (fun p=>(Sl.mk (some p) 1 1).v) h fun p12 w22 h=>?_)
 obtain ⟨w23,hv14,h⟩:=h
 refine yI (zJ rfl) (uX (by kernel_rfl) (by kernel_rfl) (by kernel_rfl) hv14) ?_
 obtain ⟨vput7,vget7,hv13,h⟩:=h
 refine qa (isAgg213 _) (sizeOf213 _) hv13 (nw4 (fun p=>(Sl.mk (some p) 1 1).v) h fun p13 w24 h=>?_)
 obtain ⟨w25,hv12,h⟩:=h
 refine yI (zJ rfl) (uX (by kernel_rfl) (by kernel_rfl) (by kernel_rfl) hv12) ?_
 obtain ⟨vput8,vget8,hv11,h⟩:=h
 refine qa (isAgg213 _) (sizeOf213 _) hv11 ?_
 obtain ⟨vput9,vget9,hv10,h⟩:=h
 refine qa (isAgg213 _) (sizeOf213 _) hv10 (nw4 (fun p=>(Sl.mk (some p) 2 2).v) h fun p14 w26 h=>?_)
 obtain ⟨w27,hv9,h⟩:=h
 refine yI (zJ rfl) (uX (by kernel_rfl) (by kernel_rfl) (by kernel_rfl) hv9) ?_
 obtain ⟨vput10,vget10,hv8,h⟩:=h
 refine qa (isAgg213 _) (sizeOf213 _) hv8 ?_
 obtain ⟨vput11,vget11,hv7,h⟩:=h
 refine qa (isAgg213 _) (sizeOf213 _) hv7 ?_
 obtain ⟨vput12,vget12,hv6,h⟩:=h
 refine qa (isAgg213 _) (sizeOf213 _) hv6 (nw4 (fun p=>(Sl.mk (some p) 3 3).v) h fun p15 w28 h=>?_)
 obtain ⟨w29,hv5,h⟩:=h
 refine yI (zJ rfl) (uX (by kernel_rfl) (by kernel_rfl) (by kernel_rfl) hv5) ?_
 obtain ⟨vput13,vget13,hv4,h⟩:=h
 refine qa (isAgg213 _) (sizeOf213 _) hv4 ?_
 obtain ⟨vput14,vget14,hv3,h⟩:=h
 refine qa (isAgg213 _) (sizeOf213 _) hv3 ?_
 obtain ⟨vput15,vget15,hv2,h⟩:=h
 refine qa (isAgg213 _) (sizeOf213 _) hv2 (nw4 (fun p=>(Sl.mk (some p) 3 3).v) h fun p16 w30 h=>?_)
 obtain ⟨w31,hv1,h⟩:=h
 refine yI (zJ rfl) (uX (by kernel_rfl) (by kernel_rfl) (by kernel_rfl) hv1) (q0 (.map (some p7.block)) (q0 (.map (some p7.block)) (ln (er (rs1 results138 ⟨(some p7.block),rfl,h⟩)))))
def m_Q1_l1 (p3 p6:Addr) (I1:List (Int)→NP→WP) (pre1:List (Int)) (z2:Int) (Y1:NP) (A1:World) (aO aW:Int) (aX aY:Int) (aZ:ByteArray) (bA bB:Int) (v5:Sl) (x1:Int) (Hl1:NP) (wl1:World) (Kc1:Int→NP→WP) (_K:Sl→WP):Prop :=Br (decide (x1<(v5.len:Int))) (∃a1:Addr,At v5 x1 2 a1∧∃vput1:Value,∃vget1:Value,Row wl1 a1 [vput1,vget1]∧∀p9 w17,New wl1 (.cells #[(.nilFunc:Value),(.nilFunc:Value)] 213) p9 w17→([vput1,vget1].all vY=true∧∀j,j<2→zW w17 (p9.add j))∧¬ Hl1 p9.block∧∀w18,w18=storeRow w17 p9 [vput1,vget1]→∃v6:Value,w18.cell? p9=some v6∧∃v7:Sl,w18.cell? p3=some v7.v∧∃v8:Option Nat,w18.cell? p6=some (.map v8)∧∃(f2:FuncId) (fs1 cs2:Array Value),v6=.func (.func f2) fs1 cs2∧(∀args w,(callFunc f2 args).run prog w=.ok (.enter f2 args) w)∧Calls prog f2 (fs1++#[v7.v,(.agg #[(vi aO),(vi aW),(vi aX),(vu aY),(vs aZ),(vi bA),(vi bB)]),(.map v8)]++cs2) w18 (fun e w19=>∃r4:Sl,e=.returned r4.v∧Kept Hl1 w18 w19∧zW w19 p3∧¬ Hl1 p3.block∧∀w20,w20=w19.setCell p3 r4.v→Kc1 (q6.wrap (x1+1)) Hl1 w20)) (∃v9:Option Nat,wl1.cell? p6=some (.map v9)∧∃v10:Option Nat,wl1.cell? p6=some (.map v10)∧∃z3,(Builtin.len_ #[205] 3 #[(.map v10)]).run prog wl1=.ok (vi z3) wl1∧∃w21:World,(Instr.mapUpdate 205 (.map v9) (vi z2) (vi z3)).run prog wl1=.ok () w21∧Kept Hl1 wl1 w21∧Kept Y1 A1 w21∧I1 (pre1++[z2]) Y1 w21)
def m_Q1 (p1:Option Addr) (t1:Int) (w0:World) (K:Sl→WP):Prop :=∀p2 w1,New w0 (.cells #[(vp p1)] 29) p2 w1→∀p3 w2,New w1 (.cells #[Sl.nil.v] 54) p3 w2→Calls prog 138 #[] w2 (fun e w3=>∃r1:Option Nat,e=.returned (.map r1)∧Kept None w2 w3∧∀p4 w4,New w3 (.cells #[(.map none)] 203) p4 w4→zW w4 p4∧¬ None p4.block∧∀w5,w5=w4.setCell p4 (.map r1)→∀p5 w6,New w5 (.map #[] 0) p5 w6→∀p6 w7,New w6 (.cells #[(.map none)] 205) p6 w7→zW w7 p6∧¬ None p6.block∧∀w8,w8=w7.setCell p6 (.map (some p5.block))→∃v1,w8.cell? p2=some (vp v1)∧Calls prog 139 #[(vp v1),(vi t1)] w8 (fun e w9=>∃r2:Value,e=.returned r2∧Kept None w8 w9∧∃(f1:FuncId) (cs1:Array Value),r2=.func (.func f1) #[] cs1∧(∀args w,(callFunc f1 args).run prog w=.ok (.enter f1 args) w)∧∃(xs1:List (Int)) (Rd1:WP),jRM prog f1 cs1 (fun (z2:Int)=>#[(vi z2)]) xs1 Rd1 w9∧∃(I1:List (Int)→NP→WP),RngI w0 Rd1 I1 (fun _ _ _=>False) (fun _ _ _=>False)∧I1 [] None w9∧(∀(pre1:List (Int)) (z2:Int) (Y1:NP) (A1:World),I1 pre1 Y1 A1→Hst w0 Y1 A1 Y1 A1→(∃post,xs1=pre1++z2 :: post)→∃v2,A1.cell? p2=some (vp v2)∧Calls prog 61 #[(vp v2),(vi z2)] A1 (fun e w11=>∃aO aW aX aY aZ bA bB r3,e=.returned (.tuple #[(Ae aO aW aX aY aZ bA bB),(vb r3)])∧Kept None A1 w11∧∀H1 w13,Hst A1 None w11 H1 w13→∃v3:Sl,w13.cell? p3=some v3.v∧∀p8 w14,New w13 (.cells #[(.int .u8 (IntKind.u8.wrap aO))] 5) p8 w14→∃s1:Sl,∃w15:World,(Builtin.append_ #[54,54] 54 #[v3.v,(Sl.mk (some p8) 1 1).v]).run prog w14=.ok s1.v w15∧Kept H1 w14 w15∧zW w15 p3∧¬ H1 p3.block∧∀w16,w16=w15.setCell p3 s1.v→∃v4:Option Nat,w16.cell? p4=some (.map v4)∧∃v5:Sl,(Instr.lookup 203 (.map v4) (vi aO) false).run prog w16=.ok v5.v w16∧∃(I2:Int→NP→WP) (mu1:Int→World→Nat),I2 0 H1 w16∧∀(x1:Int) (Hl1:NP) (wl1:World),Hst A1 Hl1 wl1 Hl1 wl1→I2 x1 Hl1 wl1→m_Q1_l1 p3 p6 I1 pre1 z2 Y1 A1 aO aW aX aY aZ bA bB v5 x1 Hl1 wl1 (fun y'0 H' w'=>I2 y'0 H' w'∧mu1 y'0 w'<mu1 x1 wl1) K))∧∀H2 w22,Hst w0 H2 w22 H2 w22→(∀b,None b→H2 b)→Kept None w9 w22→I1 xs1 H2 w22→∃v11:Sl,w22.cell? p3=some v11.v∧∀w23,Hst w0 H2 w22 H2 w23→K v11 w23))
theorem w_Q1 (p1 t1 w0 K) (h:m_Q1 p1 t1 w0 K):
  Calls prog 98 #[(vp p1),(vi t1)] w0 (fun e w'=>∃r5:Sl,e=.returned r5.v∧K r5 w'):=by
 refine cw (args:=[(vp p1),(vi t1)]) func98 ntmps98 ?_
 obtain ⟨hs,hb⟩:=st0 w0
 refine eg (nw2 hs hb h xb fun p2 w1 hs hb h=>q (ln (eg (nw2 hs hb h (zH (zeroValue54 _) rfl) fun p3 w2 hs hb h=>ln (eg (sc call138 (h.mono fun e w3 ⟨r1,k,hk,h⟩=>have ⟨hs,hb⟩:=hk.hh hs hb;⟨_,k,?_⟩)))))))
 refine nw2 hs hb h (zH (zeroValue203 _) rfl) fun p4 w4 hs hb h=>st2 (sizeOf203 _) hs hb h fun w5 hs hb h=>ln (eg (nw5 (fun p=>.map (some p.block)) hs hb h fun p5 w6 hs hb h=>nw2 hs hb h (zH (zeroValue205 _) rfl) fun p6 w7 hs hb h=>st2 (sizeOf205 _) hs hb h fun w8 hs hb h=>ln (jHD (rg (ql (isAgg29 _) h fun v1 h=>q (sc call139 (h.mono fun e w9 ⟨r2,k,hk,h⟩=>have ⟨hs,hb⟩:=hk.hh hs hb;⟨_,k,?_⟩)))))))
 refine ln ?_
 obtain ⟨f1,cs1,hv1,hf1,h⟩:=h
 obtain ⟨xs1,Rd1,hit,I1,hRI,h0,hbody,h⟩:=h
 refine jEO (encs:=(fun (z2:Int)=>#[(vi z2)])) (Eq.trans (b:=r2) (by kernel_rfl) hv1) hf1 hit (fun _=>rfl) (by decide) hs I1 (fun _ _ _=>False) (fun _ _ _=>False) hRI h0 ?ha ?hr ?ht
 case ha =>
  intro l z2 w24
  refine rg (q (ln ⟨rfl,?_⟩))
  intro pre1 Y1 A1 hi hY hpost
  have h:=hbody pre1 z2 Y1 A1 hi hY hpost
  obtain ⟨hs,hb⟩:=st0 A1
  refine zL (eg (ql (isAgg29 _) h fun v2 h=>q (sc call61 (h.mono fun e w11 ⟨aO,aW,aX,aY,aZ,bA,bB,r3,k,hk,h⟩=>have ⟨hs,hb⟩:=hk.hh hs hb;⟨_,k,?_⟩))))
  refine qc (nw3 (Ai 0 0 0 0 0 0) 103 hs hb (zH (zeroValue103 _) rfl) fun p7 w12 H1 hs hb=>sbx 0 (Ad aO aW aX aY aZ bA bB) (sizeOf103 _) hs hb gZ fun w13 hs hb=>q (ln (eg ?_)))
  have ⟨h,hs⟩:=hs.hr (h H1 w13)
  refine ql (isAgg54 _) h fun v3 h=>q (q3 (xl (isAgg3 _) (hb.d0 0 gZ)) (q (xI (O:=(.cells #[(.int .u8 (IntKind.u8.wrap aO))] 5)) (fun p=>(Sl.mk (some p) 1 1).v) (zJ rfl) (vI (vs:=#[(0,(.int .u8 (IntKind.u8.wrap aO)))]) (by kernel_rfl) (by kernel_rfl)) ?_)))
  intro p8 w14 hn9
  have h:=h p8 w14 hn9
  obtain ⟨hs,hb⟩:=hs.nw hb hn9
  obtain ⟨s1,w15,hv13,hk,h⟩:=h
  refine st (v:=s1.v) (zJ rfl) (vL (args:=#[v3.v,(Sl.mk (some p8) 1 1).v]) (by kernel_rfl) (fun _=>rfl) hv13) ?_
  obtain ⟨hs,hb⟩:=hk.hh hs hb
  refine st2 (sizeOf54 _) hs hb h fun w16 hs hb h=>ln (zA (eg (ql (isAgg203 _) h fun v4 h=>q (q3 (xl (isAgg3 _) (hb.d0 0 gZ)) ?_))))
  obtain ⟨v5,hv11,h⟩:=h
  refine q2 v5.v (yZ (by kernel_rfl) (by kernel_rfl) hv11) (qb (ln (zL ?_)))
  obtain ⟨I2,mu1,h0,hr⟩:=h
  refine vR (σ:=Int×NP×World) (fun s ρ w=>w=s.2.2∧Has ρ [(5,(vp (some p3))),(7,(vp (some p6))),(8,(vi z2)),(9,(vp (some p7))),(34,v5.v),(35,(vi (v5.len:Int))),(36,(vi s.1))]∧Hst A1 s.2.1 w s.2.1 w∧HB s.2.1 w [(p7,(Ad aO aW aX aY aZ bA bB),103)]∧I2 s.1 s.2.1 s.2.2) (fun s=>mu1 s.1 s.2.2) (0,H1,w16) ⟨rfl,hm,hs,hb,h0⟩ ?_
  rintro ⟨x1,Hl1,wl1⟩ ρ w ⟨hw,hH,hs,hb,hI⟩
  dsimp only at hw hH hs hb;subst w
  have h:=hr x1 Hl1 wl1 hs hI
  refine zR hH (eg (q (ln (zA (cbr h ?_ ?_)))))<;>intro h
  refine zD (zN (zA (zL (eg (qi (runUnderlying209 _) (sizeOf213 _) h fun a1 h=>?_)))))
  obtain ⟨vput1,vget1,hv5,h⟩:=h
  refine qa (isAgg213 _) (sizeOf213 _) hv5 (nw2 hs hb h (zH (zeroValue213 _) rfl) fun p9 w17 hs hb h=>?_)
  obtain ⟨hp4,hnh,h⟩:=h
  refine ss (jAG (a:=p9) (vs:=[vput1,vget1]) (by kernel_rfl) (by kernel_rfl) hp4.1 (sizeOf213 _) rfl hp4.2) ?_
  intro w18 hn6
  have h:=h w18 hn6
  have hk:Kept Hl1 w17 w18:=by rw [hn6];exact Kept.storeRow hnh
  obtain ⟨hs,hb⟩:=hk.hh hs hb
  refine ln (rg (q (ql (isAgg210 _) h fun v6 h=>ql (isAgg54 _) h fun v7 h=>q2 (Ae aO aW aX aY aZ bA bB) (xa p7 (Ad aO aW aX aY aZ bA bB) (isAgg103 _) (sizeOf103 _) (hb.r0 0 7 gZ)) (ql (isAgg205 _) h fun v8 h=>?_))))
  obtain ⟨f2,fs1,cs2,hp5,h⟩:=h
  obtain ⟨hf2,h⟩:=h
  refine vX (zJ rfl) (jDZ (fs:=fs1) (caps:=cs2) (args:=#[v7.v,(Ae aO aW aX aY aZ bA bB),(.map v8)]) (by kernel_rfl) hp5 hf2 (by kernel_rfl) rfl) (h.mono ?_)
  rintro e w19 ⟨r4,rfl,hk,h⟩
  refine ⟨_,rfl,?_⟩
  obtain ⟨hs,hb⟩:=hk.hh hs hb
  refine st2 (sizeOf54 _) hs hb h fun w20 hs hb h=>zC (tG (zN (rg (qb (ln ⟨((q6.wrap (x1+1)),Hl1,w20),⟨rfl,hm,hs,hb,h.1⟩,h.2⟩)))))
  refine vN (xH (xH (xB (zN (rg (ql (isAgg205 _) h fun v9 h=>q (ql (isAgg205 _) h fun v10 h=>?_)))))))
  obtain ⟨z3,hv8,h⟩:=h
  refine q2 (vi z3) (vL (args:=#[(.map v10)]) (by kernel_rfl) (fun _=>rfl) hv8) ?_
  obtain ⟨w21,hv7,hk,h⟩:=h
  refine yI (zJ rfl) (tP (by kernel_rfl) (by kernel_rfl) (by kernel_rfl) hv7) ?_
  obtain ⟨hs,hb⟩:=hk.hh hs hb
  refine zC (tG ?_)
  exact rd_n h
 case hr =>
  intro D1 H2 w22 hs' hD hDe dA hk1 hio1
  have hb':=hb.behind hk1 dA hD hDe
  have hs:=hs'
  have hb:=hb'
  have h:=h H2 w22 hs dA hk1 (hio1.elim id (fun h=>h.elim (fun _ h=>h.elim)))
  refine eg (ql (isAgg54 _) h fun v11 h=>q (ln (er (af_r hb.dead ?_))))
  intro w23 hw'
  have hl:=hb.leave hs hw'
  obtain ⟨hs,hb⟩:=hl
  -- behind the loop
  have ⟨h,hs⟩:=hs.hr (h w23)
  refine rs1 results98 ⟨v11,rfl,h⟩
 case ht =>
  intro _ _ _ _ _ _ _ h
  exact h.elim
def m_V3 (p1:Option Addr) (t1:Int) (w0:World) (K:Sl→Int→WP):Prop :=Calls prog 61 #[(vp p1),(vi t1)] w0 (fun e w1=>∃aO aW aX aY aZ bA bB r1,e=.returned (.tuple #[(Ae aO aW aX aY aZ bA bB),(vb r1)])∧Kept None w0 w1∧Br (!r1) (∀H1 w3,Hst w0 None w1 H1 w3→K Sl.nil 51 w3) (∀H1 w3,Hst w0 None w1 H1 w3→Calls prog 98 #[(vp p1),(vi t1)] w3 (fun e w4=>∃r2:Sl,e=.returned r2.v∧Kept H1 w3 w4∧Br (decide ((r2.len:Int)>4096)) (K Sl.nil 1 w4) (K r2 0 w4))))
theorem w_V3 (p1 t1 w0 K) (h:m_V3 p1 t1 w0 K):
  Calls prog 49 #[(vp p1),(vi t1)] w0 (fun e w'=>∃r3:Sl,∃r4,e=.returned (.tuple #[r3.v,(vi r4)])∧K r3 r4 w'):=by
 refine cw (args:=[(vp p1),(vi t1)]) func49 ntmps49 ?_
 obtain ⟨hs,hb⟩:=st0 w0
 refine eg (qb (ln (zA (eg (qb (sc call61 (h.mono fun e w1 ⟨aO,aW,aX,aY,aZ,bA,bB,r1,k,hk,h⟩=>have ⟨hs,hb⟩:=hk.hh hs hb;⟨_,k,?_⟩)))))))
 refine qc (nw3 (Ai 0 0 0 0 0 0) 103 hs hb (zH (zeroValue103 _) rfl) fun p2 w2 H1 hs hb=>sbx 0 (Ad aO aW aX aY aZ bA bB) (sizeOf103 _) hs hb gZ fun w3 hs hb=>q (ln (eg (qb (ln (cbr h ?_ ?_))))))<;>intro h
 refine eg (qb (ln (er (vA ?_))))
 have ⟨h,hs⟩:=hs.hr (h H1 w3)
 refine tE (.inl rfl) results49 (v:=Sl.nil.v) (by kernel_rfl) (v':=(vi 51)) (by kernel_rfl) ⟨Sl.nil,51,rfl,h⟩
 refine zD (zN (eg (qb ?_)))
 have ⟨h,hs⟩:=hs.hr (h H1 w3)
 refine sc call98 (h.mono fun e w4 ⟨r2,k,hk,h⟩=>have ⟨hs,hb⟩:=hk.hh hs hb;⟨_,k,?_⟩)
 refine q (ln (zA (eg (qc (ln (cbr h ?_ ?_))))))<;>intro h
 refine eg (qb (ln (er (vA (tE (.inl rfl) results49 (v:=Sl.nil.v) (by kernel_rfl) (v':=(vi 1)) (by kernel_rfl) ⟨Sl.nil,1,rfl,h⟩)))))
 refine zD (zN (eg (qc (ln (er (tE (.inl rfl) results49 (v:=r2.v) (by kernel_rfl) (v':=(vi 0)) (by kernel_rfl) ⟨r2,0,rfl,h⟩))))))
def m_W3 (p1:Sl) (w0:World) (K:(Option Addr)→WP):Prop :=Calls prog 211 #[p1.v] w0 (fun e w1=>∃r1:Sl,e=.returned r1.v∧∀p2 w2,New w1 (.cells #[r1.v,(vi 0),(vi 0),(vi 0)] 258) p2 w2→K (some p2) w2)
theorem w_W3 (p1 w0 K) (h:m_W3 p1 w0 K):
  Calls prog 163 #[p1.v] w0 (fun e w'=>∃r2,e=.returned (vp r2)∧K r2 w'):=by
 refine cw (args:=[p1.v]) func163 ntmps163 (eg (q0 (vp none) (ln (eg (q0 p1.v ?_)))))
 refine sc call211 (h.mono fun e w1 ⟨r1,k,h⟩=>⟨_,k,?_⟩)
 refine q (nw1 h xb fun p2 w2 h=>q (ln (er (rs1 results163 ⟨(some p2),rfl,h⟩))))
def m_X3 (r1:Option Addr) (w0:World) (K:Int→WP):Prop :=Br (Option.isNone r1) (K 0 w0) (∃a1,r1=some a1∧∀w1,Hst w0 None w0 None w1→∃v1:Sl,w1.cell? a1=some v1.v∧∃a2,r1=some a2∧∃v2,w1.cell? (a2.add 1)=some (vi v2)∧K (q6.wrap ((v1.len:Int) - v2)) w1)
theorem w_X3 (r1 w0 K) (h:m_X3 r1 w0 K):
  Calls prog 164 #[(vp r1)] w0 (fun e w'=>∃r2,e=.returned (vi r2)∧K r2 w'):=by
 refine cw (args:=[(vp r1)]) func164 ntmps164 ?_
 obtain ⟨hs,hb⟩:=st0 w0
 refine eg (q (ln (zA (eg (q (q2 (vb (Option.isNone r1)) (yY (by kernel_rfl) rfl underlying230) (ln (cbr h ?_ ?_))))))))<;>intro h
 refine eg (q (ln (er (vA (rs1 results164 ⟨0,rfl,h⟩)))))
 refine zD (zN (zA (qD (by kernel_rfl) (by kernel_rfl) (by kernel_rfl) (by kernel_rfl) ?_)))
 intro w1 hw1
 have hs:Hst w0 None w0 None w1:=by rw [hw1];exact hs.drew
 have hb:HB None w1 []:=by rw [hw1];exact hb.drew
 refine qq 0 (vp r1) Kp0 (qg 1 ?_)
 obtain ⟨a1,hp1,h⟩:=h
 refine sxQ Kp1 (zJ rfl) rfl (xn hp1) (qq 2 (vp (some a1)) Kp2 (qg 3 ?_))
 have ⟨h,hs⟩:=hs.hr (h w1)
 obtain ⟨v1,hv2,h⟩:=h
 refine sxQ Kp3 (zJ rfl) rfl (xl (isAgg54 _) hv2) (qq 4 (vi (v1.len:Int)) Kp4 (qq 5 (vp r1) Kp5 (qg 6 ?_)))
 obtain ⟨a2,hp2,h⟩:=h
 refine sxQ Kp6 (zJ rfl) rfl (xn hp2) (qq 7 (vp (some (a2.add 1))) Kp7 (qg 8 ?_))
 obtain ⟨v2,hv1,h⟩:=h
 refine sxQ Kp8 (zJ rfl) rfl (xl (isAgg3 _) hv1) (qq 9 (vi (q6.wrap ((v1.len:Int) - v2))) Kp9 (qq 10 (vi (q6.wrap ((v1.len:Int) - v2))) (zG (S8 (zB (zB zF)))) (wn (zN (er (rs1 results164 ⟨(q6.wrap ((v1.len:Int) - v2)),rfl,h⟩))))))
def m_Y3 (r1:Option Addr) (w0:World) (K:Int→WP):Prop :=Br (Option.isNone r1) (K 0 w0) (∃a1,r1=some a1∧∃v1,w0.cell? (a1.add 1)=some (vi v1)∧K v1 w0)
theorem w_Y3 (r1 w0 K) (h:m_Y3 r1 w0 K):
  Calls prog 165 #[(vp r1)] w0 (fun e w'=>∃r2,e=.returned (vi r2)∧K r2 w'):=by
 refine cw (args:=[(vp r1)]) func165 ntmps165 (eg (q0 (vi 0) (ln (zA (eg (q0 (vp r1) (q2 (vb (Option.isNone r1)) (yY (by kernel_rfl) rfl underlying230) (zC ?_))))))))
 refine zN (cbr h ?_ ?_)<;>intro h
 refine eg (q (ln (er (vA (rs1 results165 ⟨0,rfl,h⟩)))))
 refine zD (zN (eg (q (qm h fun a1 h=>q (ql (isAgg3 _) h fun v1 h=>q (ln (er (rs1 results165 ⟨v1,rfl,h⟩))))))))
def m_Z3 (r1:Option Addr) (w0:World) (K:Int→WP):Prop :=∀p1 w1,New w0 (.cells #[(vp r1)] 230) p1 w1→∀p2 w2,New w1 (.cells #[(.int .u8 0)] 5) p2 w2→∃v1,w2.cell? p1=some (vp v1)∧Calls prog 227 #[(vp v1),(.func (.func 240) #[] #[(vp (some p1)),(vp (some p2))])] w2 (fun e w3=>e=.returned (.tuple #[])∧∃v2:Int,w3.cell? p2=some (.int .u8 v2)∧zW w3 p2∧∀w4,w4=w3.setCell p2 (.int .u8 v2)→∃aK:Int,w4.cell? p2=some (.int .u8 aK)∧K aK w4)
theorem w_Z3 (r1 w0 K) (h:m_Z3 r1 w0 K):
  Calls prog 212 #[(vp r1)] w0 (fun e w'=>∃r2:Int,e=.returned (.int .u8 r2)∧K r2 w'):=by
 refine cw (args:=[(vp r1)]) func212 ntmps212 (eg (sn (O:=(.cells #[(vp r1)] 230)) xb ?_))
 intro p1 w1 hn3
 have h:=h p1 w1 hn3
 refine nw1 h (zH (zeroValue5 _) rfl) fun p2 w2 h=>ln (eg (ql (isAgg230 _) h fun v1 h=>q (sc call227 (h.mono fun e w3 ⟨k,h⟩=>⟨_,k,?_⟩))))
 refine ln (eg (ql (isAgg5 _) h fun v2 h=>st1 (sizeOf5 _) h fun w4 h=>ln (er ?_)))
 obtain ⟨aK,hv1,h⟩:=h
 refine gg1 results212 (RV.cell1 (A:=p2) (by kernel_rfl) (isAgg5 _) hv1) ⟨aK,rfl,h⟩
def m_A4 (r1:Option Addr) (w0:World) (K:Int→Int→WP):Prop :=Br (Option.isNone r1) (K 0 0 w0) (∃a1,r1=some a1∧∀w1,Hst w0 None w0 None w1→∃v1,w1.cell? (a1.add 2)=some (vi v1)∧∃a2,r1=some a2∧∃v2,w1.cell? (a2.add 3)=some (vi v2)∧K v1 v2 w1)
theorem w_A4 (r1 w0 K) (h:m_A4 r1 w0 K):
  Calls prog 213 #[(vp r1)] w0 (fun e w'=>∃r2 r3,e=.returned (.tuple #[(vi r2),(vi r3)])∧K r2 r3 w'):=by
 refine cw (args:=[(vp r1)]) func213 ntmps213 ?_
 obtain ⟨hs,hb⟩:=st0 w0
 refine eg (qb (ln (zA (eg (q (q2 (vb (Option.isNone r1)) (yY (by kernel_rfl) rfl underlying230) (zC (zN (cbr h ?_ ?_)))))))))<;>intro h
 refine eg (qb (ln (er (vA (tE (.inl rfl) results213 (v:=(vi 0)) (by kernel_rfl) (v':=(vi 0)) (by kernel_rfl) ⟨0,0,rfl,h⟩)))))
 refine zD (zN (zA (qD (by kernel_rfl) (by kernel_rfl) (by kernel_rfl) (by kernel_rfl) ?_)))
 intro w1 hw1
 have hs:Hst w0 None w0 None w1:=by rw [hw1];exact hs.drew
 have hb:HB None w1 []:=by rw [hw1];exact hb.drew
 refine qq 0 (vp r1) Kp0 (qg 1 ?_)
 obtain ⟨a1,hp1,h⟩:=h
 refine sxQ Kp1 (zJ rfl) rfl (xn hp1) (qq 2 (vp (some (a1.add 2))) Kp2 (qg 3 ?_))
 have ⟨h,hs⟩:=hs.hr (h w1)
 obtain ⟨v1,hv2,h⟩:=h
 refine sxQ Kp3 (zJ rfl) rfl (xl (isAgg33 _) hv2) (qq 4 (vp r1) Kp4 (qg 5 ?_))
 obtain ⟨a2,hp2,h⟩:=h
 refine sxQ Kp5 (zJ rfl) rfl (xn hp2) (qq 6 (vp (some (a2.add 3))) Kp6 (qg 7 ?_))
 obtain ⟨v2,hv1,h⟩:=h
 refine sxQ Kp7 (zJ rfl) rfl (xl (isAgg3 _) hv1) (qq 8 (vi v1) Kp8 (qq 9 (vi v2) Kp9 (wn (zN (er (tE (.inl rfl) results213 (v:=(vi v1)) (by kernel_rfl) (v':=(vi v2)) (by kernel_rfl) ⟨v1,v2,rfl,h⟩))))))
def s_P (n1:Int):Int :=(cond (decide (n1>2147483647)) (-1) (q6.wrap n1))
theorem pw_P (n1:Int) (w0:World) :
  Calls prog 214 #[(vu n1)] w0 (fun e w'=>∃b'0:Bool,((decide (n1>2147483647))=b'0)∧(e=.returned (vi (cond b'0 (-1) (q6.wrap n1))))∧Pure w0 w'):=by
 refine cw (args:=[(vu n1)]) func214 ntmps214 (eg (q0 (vi 0) (ln (zA (eg (q0 (vu n1) (q0 (vb (decide (n1>2147483647))) (zC ?_))))))))
 refine zN (vJ (t:=(decide (n1>2147483647))) (by kernel_rfl) (fun hc1=>?_) (fun hc1=>?_))
 refine eg (q (ln (er (vA (rs1 results214 (v:=(vi (-1))) ⟨true,hc1,by kernel_rfl,Ext.refl _⟩)))))
 refine zD (zN (eg (qc (ln (er (rs1 results214 (v:=(vi (q6.wrap n1))) ⟨false,hc1,by kernel_rfl,Ext.refl _⟩))))))
theorem p_P (n1:Int) (w0:World):Calls prog 214 #[(.int .u64 n1)] w0 (fun e w'=>e=.returned (.int .i64 (s_P n1))∧Pure w0 w'):=by
 refine (pw_P n1 w0).mono ?_;rintro e w' ⟨b'0,e0,h,E⟩;subst e0;exact ⟨h,E⟩
def s_S (aB aA:Int) (aC aE:Int) (aF:ByteArray) (aG aH:Int):Int :=(cond (((((decide (aA<0)) || (decide (aA≥16))) || (decide (aC<0))) || (decide (aC≥16))) || (((aB == 8) || (aB == 9)) && (aA == aC))) 50 0)
theorem pw_S (aB aA:Int) (aC aE:Int) (aF:ByteArray) (aG aH:Int) (w0:World) :
  Calls prog 215 #[(.agg #[(vi aB),(vi aA),(vi aC),(vu aE),(vs aF),(vi aG),(vi aH)])] w0 (fun e w'=>∃b'0:Bool,((((((decide (aA<0)) || (decide (aA≥16))) || (decide (aC<0))) || (decide (aC≥16))) || (((aB == 8) || (aB == 9)) && (aA == aC)))=b'0)∧(e=.returned (vi (cond b'0 50 0)))∧Pure w0 w'):=by
 refine cw (args:=[(Ae aB aA aC aE aF aG aH)]) func215 ntmps215 ?_
 obtain ⟨hs,hb⟩:=st0 w0
 refine eg (nw3 (Ad aB aA aC aE aF aG aH) 103 hs hb xb fun p1 w1 H1 hs hb=>q (ln (zA (vO (fun ρ wJ=>∃HJ:NP,Hst w0 None w0 HJ wJ∧HB HJ wJ [(p1,(Ad aB aA aC aE aF aG aH),103)]∧Has ρ [(1,(vp (some p1))),(3,(vb ((aB == 8) || (aB == 9))))]) ?_ ?_))))
 refine rg (q (q3 (xl (isAgg3 _) (hb.d0 0 gZ)) (qb (zK 4 (fun ρ wJ=>∃b3'0:Bool,∃HJ:NP,((aB == 8)=b3'0)∧Hst w0 None w0 HJ wJ∧HB HJ wJ [(p1,(Ad aB aA aC aE aF aG aH),103)]∧Has ρ [(1,(vp (some p1))),(11,(vb (b3'0 || (aB == 9))))]) ?_ ?_))))
 rintro ρ w4 ⟨b3'0,H4,he0,hs,hb,hH⟩
 subst he0
 refine zQ hH (q (ln ⟨_,hs,hb,hm⟩))
 rcases bte (aB == 8) with hg4 | hg4
 refine sj3 7 hg4 (q2 (vb true) (xT hg4) (zC ⟨true,_,hg4,hs,hb,hm⟩))
 refine qk 7 hg4 (q4 7 hg4 (xl (isAgg3 _) (hb.d0 0 gZ)) (qk 7 hg4 (q2 (vb (aB == 9)) (xF hg4) (zC ⟨false,_,hg4,hs,hb,hm⟩))))
 rintro ρ w3 ⟨H3,hs,hb,hH⟩
 refine vC hH (zN (zA (zA (vO (fun ρ wJ=>∃b8'0:Bool,∃HJ:NP,(((((decide (aA<0)) || (decide (aA≥16))) || (decide (aC<0))) || (decide (aC≥16)))=b8'0)∧Hst w0 None w0 HJ wJ∧HB HJ wJ [(p1,(Ad aB aA aC aE aF aG aH),103)]∧Has ρ [(39,(vb (b8'0 || (((aB == 8) || (aB == 9)) && (aA == aC)))))]) ?_ ?_))))
 refine rg (q (q3 (xl (isAgg3 _) (hb.d 0 1 gZ)) (qb (zK 4 (fun ρ wJ=>∃b9'0:Bool,∃HJ:NP,((decide (aA<0))=b9'0)∧Hst w0 None w0 HJ wJ∧HB HJ wJ [(p1,(Ad aB aA aC aE aF aG aH),103)]∧Has ρ [(1,(vp (some p1))),(3,(vb ((aB == 8) || (aB == 9)))),(19,(vb (b9'0 || (decide (aA≥16)))))]) ?_ ?_))))
 rintro ρ w10 ⟨b9'0,H10,he0,hs,hb,hH⟩
 subst he0
 refine zQ hH (q (zK 4 (fun ρ wJ=>∃b10'0:Bool,∃HJ:NP,(((decide (aA<0)) || (decide (aA≥16)))=b10'0)∧Hst w0 None w0 HJ wJ∧HB HJ wJ [(p1,(Ad aB aA aC aE aF aG aH),103)]∧Has ρ [(1,(vp (some p1))),(3,(vb ((aB == 8) || (aB == 9)))),(24,(vb (b10'0 || (decide (aC<0)))))]) ?_ ?_))
 rintro ρ w11 ⟨b10'0,H11,he0,hs,hb,hH⟩
 subst he0
 refine zQ hH (q (zK 4 (fun ρ wJ=>∃b11'0:Bool,∃HJ:NP,((((decide (aA<0)) || (decide (aA≥16))) || (decide (aC<0)))=b11'0)∧Hst w0 None w0 HJ wJ∧HB HJ wJ [(p1,(Ad aB aA aC aE aF aG aH),103)]∧Has ρ [(1,(vp (some p1))),(3,(vb ((aB == 8) || (aB == 9)))),(29,(vb (b11'0 || (decide (aC≥16)))))]) ?_ ?_))
 rintro ρ w12 ⟨b11'0,H12,he0,hs,hb,hH⟩
 subst he0
 refine zQ hH (q ?_)
 rcases bte ((((decide (aA<0)) || (decide (aA≥16))) || (decide (aC<0))) || (decide (aC≥16))) with hg20 | hg20
 refine sj2 30 hg20 (sm (sm (sm (sm (sm (sj 30 hg20 (q2 (vb true) (xT hg20) (ln ⟨true,_,hg20,hs,hb,hm⟩))))))))
 refine qk 30 hg20 (qk 30 hg20 (zK 6 (fun ρ wJ=>∃b12'0:Bool,∃HJ:NP,(((aB == 8) || (aB == 9))=b12'0)∧Hst w0 None w0 HJ wJ∧HB HJ wJ [(p1,(Ad aB aA aC aE aF aG aH),103)]∧Has ρ [(30,(vb ((((decide (aA<0)) || (decide (aA≥16))) || (decide (aC<0))) || (decide (aC≥16))))),(38,(vb (b12'0 && (aA == aC))))]) ?_ ?_))
 rintro ρ w13 ⟨b12'0,H13,he0,hs,hb,hH⟩
 subst he0
 refine zQ hH (q2 (vb (((aB == 8) || (aB == 9)) && (aA == aC))) (xF hg20) (ln ⟨false,_,hg20,hs,hb,hm⟩))
 rcases bte ((aB == 8) || (aB == 9)) with hg22 | hg22
 refine qk 32 hg22 (q4 32 hg22 (xl (isAgg3 _) (hb.d 0 1 gZ)) (qk 32 hg22 (q4 32 hg22 (xl (isAgg3 _) (hb.d 0 2 gZ)) (qk 32 hg22 (stq (v:=(vb (aA == aC))) (wy 30 hg20) (xT hg22) (zC ⟨true,_,hg22,hs,hb,hm⟩))))))
 refine sj5 32 hg22 (stq (v:=(vb false)) (wy 30 hg20) (xF hg22) (zC ⟨false,_,hg22,hs,hb,hm⟩))
 rcases bte (((decide (aA<0)) || (decide (aA≥16))) || (decide (aC<0))) with hg19 | hg19
 refine sj3 25 hg19 (q2 (vb true) (xT hg19) (zC ⟨true,_,hg19,hs,hb,hm⟩))
 refine qk 25 hg19 (q4 25 hg19 (xl (isAgg3 _) (hb.d 0 2 gZ)) (qk 25 hg19 (q2 (vb (decide (aC≥16))) (xF hg19) (zC ⟨false,_,hg19,hs,hb,hm⟩))))
 rcases bte ((decide (aA<0)) || (decide (aA≥16))) with hg17 | hg17
 refine sj3 20 hg17 (q2 (vb true) (xT hg17) (zC ⟨true,_,hg17,hs,hb,hm⟩))
 refine qk 20 hg17 (q4 20 hg17 (xl (isAgg3 _) (hb.d 0 2 gZ)) (qk 20 hg17 (q2 (vb (decide (aC<0))) (xF hg17) (zC ⟨false,_,hg17,hs,hb,hm⟩))))
 rcases bte (decide (aA<0)) with hg15 | hg15
 refine sj3 15 hg15 (q2 (vb true) (xT hg15) (zC ⟨true,_,hg15,hs,hb,hm⟩))
 refine qk 15 hg15 (q4 15 hg15 (xl (isAgg3 _) (hb.d 0 1 gZ)) (qk 15 hg15 (q2 (vb (decide (aA≥16))) (xF hg15) (zC ⟨false,_,hg15,hs,hb,hm⟩))))
 rintro ρ w9 ⟨b8'0,H9,he0,hs,hb,hH⟩
 subst he0
 refine vC hH (zN (vJ (t:=(((((decide (aA<0)) || (decide (aA≥16))) || (decide (aC<0))) || (decide (aC≥16))) || (((aB == 8) || (aB == 9)) && (aA == aC)))) (by kernel_rfl) (fun hc1=>?_) (fun hc1=>?_)))
 refine eg (q (ln (er (vA (rs1 results215 (v:=(vi 50)) ⟨true,hc1,by kernel_rfl,(Ext.refl (F:=None) _).hst hs⟩)))))
 refine zD (zN (eg (q (ln (er (rs1 results215 (v:=(vi 0)) ⟨false,hc1,by kernel_rfl,(Ext.refl (F:=None) _).hst hs⟩))))))
theorem p_S (aB aA:Int) (aC aE:Int) (aF:ByteArray) (aG aH:Int) (w0:World):Calls prog 215 #[(.agg #[(.int .i64 aB),(.int .i64 aA),(.int .i64 aC),(.int .u64 aE),(.string aF),(.int .i64 aG),(.int .i64 aH)])] w0 (fun e w'=>e=.returned (.int .i64 (s_S aB aA aC aE aF aG aH))∧Pure w0 w'):=by
 refine (pw_S aB aA aC aE aF aG aH w0).mono ?_;rintro e w' ⟨b'0,e0,h,E⟩;subst e0;exact ⟨h,E⟩
def m_G_j4 (aK:Option Addr) (p1:Addr) (H:NP) (w:World) (K:Int→WP):Prop :=∃dB dC dD dE dF dG dH,Row w p1 (Ad dB dC dD dE dF dG dH)∧Calls prog 216 #[(vp aK),(.agg #[(vi dB),(vi dC),(vi dD),(vu dE),(vs dF),(vi dG),(vi dH)])] w (fun e w14=>∃r8 r9,e=.returned (.tuple #[(vi r8),(vb r9)])∧Kept H w w14∧Br r9 (K 72 w14) (∃dI dJ dK dL dM dN dO,Row w14 p1 (Ad dI dJ dK dL dM dN dO)∧Calls prog 97 #[(vp aK),(.agg #[(vi dI),(vi dJ),(vi dK),(vu dL),(vs dM),(vi dN),(vi dO)])] w14 (fun e w15=>∃r10 r11,e=.returned (.tuple #[(vi r10),(vi r11)])∧Kept H w14 w15∧K r11 w15)))
def m_G_j3 (aK:Option Addr) (p1:Addr) (H:NP) (w:World) (K:Int→WP):Prop :=∃v7,w.cell? (p1.add 11)=some (vi v7)∧Br (decide (v7>1)) (∃v8,w.cell? (p1.add 10)=some (vu v8)∧zW w (p1.add 6)∧¬ H (p1.add 6).block∧∀w16,w16=w.setCell (p1.add 6) (vi (q6.wrap (IntKind.u64.wrap (v8+1))))→m_G_j4 aK p1 H w16 K) (m_G_j4 aK p1 H w K)
def m_G_j2 (aK:Option Addr) (p1:Addr) (x2:Bool) (H:NP) (w:World) (K:Int→WP):Prop :=Br x2 (K 71 w) (∃v6,w.cell? (p1.add 11)=some (vi v6)∧Br (decide (v6>0)) (∃v9,w.cell? (p1.add 9)=some (vu v9)∧zW w (p1.add 5)∧¬ H (p1.add 5).block∧∀w17,w17=w.setCell (p1.add 5) (vi (q6.wrap (IntKind.u64.wrap (v9+1))))→m_G_j3 aK p1 H w17 K) (m_G_j3 aK p1 H w K))
def m_G_j5 (aK:Option Addr) (p1:Addr) (r7:Int) (x3:Bool) (H:NP) (w:World) (K:Int→WP):Prop :=Br x3 (m_G_j2 aK p1 true H w K) (∃v11,w.cell? (p1.add 11)=some (vi v11)∧Br (decide (v11>1)) (∃v12,w.cell? (p1.add 10)=some (vu v12)∧m_G_j2 aK p1 (decide (v12≥(IntKind.u64.wrap r7))) H w K) (m_G_j2 aK p1 false H w K))
def m_G_l1 (aK:Option Addr) (r1:Option Addr) (p1:Addr) (v2:Sl) (x1:Int) (w0:World) (Hl1:NP) (wl1:World) (Kc1:Int→NP→WP) (K:Int→WP):Prop :=Br (decide (x1<(v2.len:Int))) (∃a1:Addr,At v2 x1 2 a1∧∃vput1:Value,∃vget1:Value,Row wl1 a1 [vput1,vget1]∧∀p2 w3,New wl1 (.cells #[(.nilFunc:Value),(.nilFunc:Value)] 213) p2 w3→([vput1,vget1].all vY=true∧∀j,j<2→zW w3 (p2.add j))∧¬ Hl1 p2.block∧∀w4,w4=storeRow w3 p2 [vput1,vget1]→∃v3:Value,w4.cell? (p2.add 1)=some v3∧∃(f1:FuncId) (fs1 cs1:Array Value),v3=.func (.func f1) fs1 cs1∧(∀args w,(callFunc f1 args).run prog w=.ok (.enter f1 args) w)∧Calls prog f1 (fs1++#[(vp r1),(vp (some p1))]++cs1) w4 (fun e w5=>e=.returned (.tuple #[])∧Kept Hl1 w4 w5∧Kc1 (q6.wrap (x1+1)) Hl1 w5)) (Calls prog 213 #[(vp r1)] wl1 (fun e w6=>∃r3 r4,e=.returned (.tuple #[(vi r3),(vi r4)])∧Kept Hl1 wl1 w6∧Br (r3 != 0) (K r3 w6) (∃C1:WP,C1 w6.drew∧∀w7,w7=w6.drew→∃v4,w7.cell? (p1.add 7)=some (vu v4)∧∃v5,(∀w',C1 w'→w'.cell? (p1.add 8)=some (vu v5))∧Calls prog 214 #[(vu v4)] w7 (fun e w8=>∃r5,e=.returned (vi r5)∧C1 w8∧Kept Hl1 w7 w8∧Calls prog 214 #[(vu v5)] w8 (fun e w9=>∃r6,e=.returned (vi r6)∧C1 w9∧Kept Hl1 w8 w9∧zW w9 (p1.add 1)∧¬ Hl1 (p1.add 1).block∧∀w10,w10=w9.setCell (p1.add 1) (vi r5)→C1 w10∧zW w10 (p1.add 2)∧¬ Hl1 (p1.add 2).block∧∀w11,w11=w10.setCell (p1.add 2) (vi r6)→∃aD bC aV aU aN aM aL,Row w11 p1 (Ad aD bC aV aU aN aM aL)∧Br (((s_S aD bC aV aU aN aM aL):Int) != 0) (∀w12,Hst w0 Hl1 w11 Hl1 w12→K (s_S aD bC aV aU aN aM aL) w12) (∀w12,Hst w0 Hl1 w11 Hl1 w12→Calls prog 22 #[(vp aK)] w12 (fun e w13=>∃r7,e=.returned (vi r7)∧Kept Hl1 w12 w13∧∃v10,w13.cell? (p1.add 11)=some (vi v10)∧Br (decide (v10>0)) (∃v13,w13.cell? (p1.add 9)=some (vu v13)∧m_G_j5 aK p1 r7 (decide (v13≥(IntKind.u64.wrap r7))) Hl1 w13 K) (m_G_j5 aK p1 r7 false Hl1 w13 K))))))))
def m_G (aK:Option Addr) (r1:Option Addr) (kinds1:Option Nat) (w0:World) (K:Int→WP):Prop :=Calls prog 212 #[(vp r1)] w0 (fun e w1=>∃r2:Int,e=.returned (.int .u8 r2)∧Kept None w0 w1∧∀p1 w2,New w1 (.cells #[(vi (q6.wrap r2)),(vi 0),(vi 0),(vu 0),ve,(vi 0),(vi 0),(vu 0),(vu 0),(vu 0),(vu 0),(vi 0)] 253) p1 w2→∃v1,w2.cell? p1=some (vi v1)∧∃v2:Sl,∃ok1,(Instr.lookup 203 (.map kinds1) (vi v1) true).run prog w2=.ok (.tuple #[v2.v,(vb ok1)]) w2∧Br (!ok1) (K 70 w2) (∃(I1:Int→NP→WP) (mu1:Int→World→Nat),I1 0 None w2∧∀(x1:Int) (Hl1:NP) (wl1:World),Hst w0 Hl1 wl1 Hl1 wl1→I1 x1 Hl1 wl1→m_G_l1 aK r1 p1 v2 x1 w0 Hl1 wl1 (fun y'0 H' w'=>I1 y'0 H' w'∧mu1 y'0 w'<mu1 x1 wl1) K))
theorem w_G (aK r1 kinds1 w0 K) (h:m_G aK r1 kinds1 w0 K):
  Calls prog 166 #[(vp aK),(vp r1),(.map kinds1)] w0 (fun e w'=>∃r12,e=.returned (vi r12)∧K r12 w'):=by
 refine cw (args:=[(vp aK),(vp r1),(.map kinds1)]) func166 ntmps166 ?_
 obtain ⟨hs,hb⟩:=st0 w0
 refine eg (q (ln (eg (q (sc call212 (h.mono fun e w1 ⟨r2,k,hk,h⟩=>have ⟨hs,hb⟩:=hk.hh hs hb;⟨_,k,?_⟩))))))
 refine qc (nw2 hs hb h xb fun p1 w2 hs hb h=>q (ln (eg (q (qd (ql (isAgg3 _) h fun v1 h=>?_))))))
 obtain ⟨v2,ok1,hv17,h⟩:=h
 refine q2 (.tuple #[v2.v,(vb ok1)]) (yZ (by kernel_rfl) (by kernel_rfl) hv17) (q (qd (ln (zA (eg (q (q (ln (cbr h ?_ ?_)))))))))<;>intro h
 refine eg (q (ln (er (vA (rs1 results166 ⟨70,rfl,h⟩)))))
 refine zD (zN (zA (eg (qc (ln (zL ?_))))))
 obtain ⟨I1,mu1,h0,hr⟩:=h
 refine vR (σ:=Int×NP×World) (fun s ρ w=>w=s.2.2∧Has ρ [(0,(vp aK)),(1,(vp r1)),(7,(vp (some p1))),(38,v2.v),(39,(vi (v2.len:Int))),(40,(vi s.1))]∧Hst w0 s.2.1 w s.2.1 w∧HB s.2.1 w []∧I1 s.1 s.2.1 s.2.2) (fun s=>mu1 s.1 s.2.2) (0,None,w2) ⟨rfl,hm,hs,hb,h0⟩ ?_
 rintro ⟨x1,Hl1,wl1⟩ ρ w ⟨hw,hH,hs,hb,hI⟩
 dsimp only at hw hH hs hb;subst w
 have h:=hr x1 Hl1 wl1 hs hI
 refine zR hH (eg (q (ln (zA (cbr h ?_ ?_)))))<;>intro h
 refine zD (zN (zA (zL (eg (qi (runUnderlying209 _) (sizeOf213 _) h fun a1 h=>?_)))))
 obtain ⟨vput1,vget1,hv2,h⟩:=h
 refine qa (isAgg213 _) (sizeOf213 _) hv2 (nw2 hs hb h (zH (zeroValue213 _) rfl) fun p2 w3 hs hb h=>?_)
 obtain ⟨hp1,hnh,h⟩:=h
 refine ss (jAG (a:=p2) (vs:=[vput1,vget1]) (by kernel_rfl) (by kernel_rfl) hp1.1 (sizeOf213 _) rfl hp1.2) ?_
 intro w4 hn1
 have h:=h w4 hn1
 have hk:Kept Hl1 w3 w4:=by rw [hn1];exact Kept.storeRow hnh
 obtain ⟨hs,hb⟩:=hk.hh hs hb
 refine ln (rg (q (ql (isAgg211 _) h fun v3 h=>qb ?_)))
 obtain ⟨f1,fs1,cs1,hp2,h⟩:=h
 obtain ⟨hf1,h⟩:=h
 refine vX (zJ rfl) (jDZ (fs:=fs1) (caps:=cs1) (args:=#[(vp r1),(vp (some p1))]) (by kernel_rfl) hp2 hf1 (by kernel_rfl) rfl) (h.mono ?_)
 rintro e w5 ⟨rfl,hk,h⟩
 refine ⟨_,rfl,?_⟩
 obtain ⟨hs,hb⟩:=hk.hh hs hb
 refine zC (tG (zN (rg (qb (ln ⟨((q6.wrap (x1+1)),Hl1,w5),⟨rfl,hm,hs,hb,h.1⟩,h.2⟩)))))
 refine vN (xH (xH (xB (zN (zA (eg (q0 (vp r1) (sc call213 (h.mono fun e w6 ⟨r3,r4,k,hk,h⟩=>have ⟨hs,hb⟩:=hk.hh hs hb;⟨_,k,?_⟩)))))))))
 refine q (qd (ln (eg (qb (zC (zN (cbr h ?_ ?_)))))))<;>intro h
 refine eg (qb (ln (er (vA (rs1 results166 ⟨r3,rfl,h⟩)))))
 refine zD (zN (zA ?_))
 obtain ⟨C1,hC,h⟩:=h
 refine dr2 C1 [6,11,15,19] [19] hC h hs hb fun w7 hs hb h=>?_
 have hs:=hs.here
 refine qx 0 (vp (some p1)) Kp0 (qx 1 (vp (some p1)) Kp1 (qx 2 (vp (some p1)) Kp2 (qx 3 (vp (some p1)) Kp3 (qx 4 (vp (some (p1.add 7))) Kp4 (qg 5 ?_)))))
 obtain ⟨v4,hv16,h⟩:=h
 refine sye Kp5 (xl (isAgg26 _) hv16) (qx 7 (vp (some p1)) Kp7 (qx 8 (vp (some p1)) Kp8 (qx 9 (vp (some (p1.add 8))) Kp9 (qg 10 ?_))))
 obtain ⟨v5,hv15,h⟩:=h
 refine sy (zG (S8 (zB (zB zF)))) (fun _ k=>xl (isAgg26 _) (hv15 _ k)) (lg 6 (slc Kp6 call214 (h.mono ?_)))
 rintro e w8 ⟨r5,rfl,hC,hk,h⟩
 refine ⟨_,rfl,.inr hC,?_⟩
 obtain ⟨hs,hb⟩:=hk.hh hs hb
 refine lg 11 (slc (zG (S8 (zB (zB (zB zF))))) call214 (h.mono ?_))
 rintro e w9 ⟨r6,rfl,hC,hk,h⟩
 refine ⟨_,rfl,.inr hC,?_⟩
 obtain ⟨hs,hb⟩:=hk.hh hs hb
 refine qx 12 (vp (some p1)) (zG (S8 (S4 zF))) (qx 13 (vp (some p1)) (zG (S8 (S4 (zB zF)))) (qx 14 (vp (some (p1.add 1))) (zG (S8 (S4 (zB (zB zF))))) (lg 15 ?_)))
 obtain ⟨hp3,hnh,h⟩:=h
 refine jRN (zG (S8 (S4 (zB (zB (zB zF)))))) (xs (v:=(vi r5)) (sizeOf3 _) hp3) ?_
 intro w10 hn3
 have h:=h w10 hn3
 refine ⟨.inr h.1,?_⟩
 have h:=h.2
 have hk:=Kept.sc hnh hn3
 obtain ⟨hs,hb⟩:=hk.hh hs hb
 refine qx 16 (vp (some p1)) (zG (S8 (S8 zF))) (qx 17 (vp (some p1)) (zG (S8 (S8 (zB zF)))) (qx 18 (vp (some (p1.add 2))) (zG (S8 (S8 (zB (zB zF))))) (lg 19 ?_)))
 obtain ⟨hp4,hnh,h⟩:=h
 refine jRN (zG (S8 (S8 (zB (zB (zB zF)))))) (xs (v:=(vi r6)) (sizeOf3 _) hp4) ?_
 intro w11 hn4
 have h:=h w11 hn4
 refine ⟨.inl (by kernel_rfl),?_⟩
 have hk:=Kept.sc hnh hn4
 obtain ⟨hs,hb⟩:=hk.hh hs hb
 refine wn (zN (zA (eg (qc ?_))))
 obtain ⟨aD,bC,aV,aU,aN,aM,aL,hv14,h⟩:=h
 refine qa (isAgg103 _) (sizeOf103 _) hv14 (sc call215 ((p_S aD bC aV aU aN aM aL w11).mono ?_))
 rintro e w12 ⟨he,hE⟩
 refine ⟨_,he,?_⟩
 obtain ⟨hs,hb⟩:=hs.pp hb hE
 refine q (ln (eg (qb (ln (cbr h ?_ ?_)))))<;>intro h
 refine eg (qb (ln (er (vA ?_))))
 have ⟨h,hs⟩:=hs.hr (h w12)
 refine rs1 results166 ⟨(s_S aD bC aV aU aN aM aL),rfl,h⟩
 refine zD (zN (eg (q ?_)))
 have ⟨h,hs⟩:=hs.hr (h w12)
 refine sc call22 (h.mono fun e w13 ⟨r7,k,hk,h⟩=>have ⟨hs,hb⟩:=hk.hh hs hb;⟨_,k,?_⟩)
 refine qb (ln (zA (zA (vD (fun ρ w=>∃x2,∃H:NP,Has ρ [(0,(vp aK)),(7,(vp (some p1))),(114,(vb x2))]∧Hst w0 H w H w∧HB H w []∧m_G_j2 aK p1 x2 H w K) ?_ ?_))))
 rintro ρ w ⟨x2,H,hH,hs,hb,h⟩
 refine zR hH (cbr h ?_ ?_)<;>intro h
 refine eg (q (ln (er (vA (rs1 results166 ⟨71,rfl,h⟩)))))
 refine zD (zN (zA (eg (qc (ql (isAgg3 _) h fun v6 h=>q (ln (vD (fun ρ w=>∃H:NP,Has ρ [(0,(vp aK)),(7,(vp (some p1)))]∧Hst w0 H w H w∧HB H w []∧m_G_j3 aK p1 H w K) ?_ ?_)))))))
 rintro ρ w ⟨H,hH,hs,hb,h⟩
 refine zR hH (zA (eg (qc (ql (isAgg3 _) h fun v7 h=>q (ln (vD (fun ρ w=>∃H:NP,Has ρ [(0,(vp aK)),(7,(vp (some p1)))]∧Hst w0 H w H w∧HB H w []∧m_G_j4 aK p1 H w K) ?_ ?_))))))
 rintro ρ w ⟨H,hH,hs,hb,h⟩
 refine zR hH (zA (eg (qd ?_)))
 obtain ⟨dB,dC,dD,dE,dF,dG,dH,hv5,h⟩:=h
 refine qa (isAgg103 _) (sizeOf103 _) hv5 (sc call216 (h.mono fun e w14 ⟨r8,r9,k,hk,h⟩=>have ⟨hs,hb⟩:=hk.hh hs hb;⟨_,k,?_⟩))
 refine q (qd (ln (eg (q (ln (cbr h ?_ ?_))))))<;>intro h
 refine eg (q (ln (er (vA (rs1 results166 ⟨72,rfl,h⟩)))))
 refine zD (zN (eg (qd ?_)))
 obtain ⟨dI,dJ,dK,dL,dM,dN,dO,hv4,h⟩:=h
 refine qa (isAgg103 _) (sizeOf103 _) hv4 (sc call97 (h.mono fun e w15 ⟨r10,r11,k,hk,h⟩=>have ⟨hs,hb⟩:=hk.hh hs hb;⟨_,k,?_⟩))
 refine q (qd (ln (eg (qb (zC (zN (er (rs1 results166 ⟨r11,rfl,h⟩))))))))
 refine cbr h ?_ ?_<;>intro h
 refine rg (qd (ql (isAgg26 _) h fun v8 h=>q (qd (st2 (sizeOf23 _) hs hb h fun w16 hs hb h=>ln ⟨H,hm,hs,hb,h⟩))))
 refine zD (zN ⟨H,hm,hs,hb,h⟩)
 refine cbr h ?_ ?_<;>intro h
 refine rg (qd (ql (isAgg26 _) h fun v9 h=>q (qd (st2 (sizeOf23 _) hs hb h fun w17 hs hb h=>ln ⟨H,hm,hs,hb,h⟩))))
 refine zD (zN ⟨H,hm,hs,hb,h⟩)
 refine rg (qc (ql (isAgg3 _) h fun v10 h=>qb (zK 7 (fun ρ w=>∃x3,∃H:NP,Has ρ [(0,(vp aK)),(7,(vp (some p1))),(15,(vu (IntKind.u64.wrap r7))),(99,(vb x3))]∧Hst w0 H w H w∧HB H w []∧m_G_j5 aK p1 r7 x3 H w K) ?_ ?_)))
 rintro ρ w ⟨x3,H,hH,hs,hb,h⟩
 refine zQ hH (q ?_)
 obtain ⟨hg1,h⟩|⟨hg1,h⟩:=h.br
 refine sj 100 hg1 (sj5 100 hg1 (sm (sm (sm (sm (sm (sm (sj 100 hg1 (q2 (vb true) (xT hg1) (ln ⟨true,H,hm,hs,hb,h⟩))))))))))
 refine qk 100 hg1 (qk 100 hg1 (qk 100 hg1 ?_))
 obtain ⟨v11,hv11,h⟩:=h
 refine q4 100 hg1 (xl (isAgg3 _) hv11) (qk 100 hg1 (qk 100 hg1 ?_))
 obtain ⟨hg2,h⟩|⟨hg2,h⟩:=h.br
 refine qk 106 hg2 (qk 106 hg2 (qk 106 hg2 ?_))
 obtain ⟨v12,hv10,h⟩:=h
 refine q4 106 hg2 (xl (isAgg26 _) hv10) (qk 106 hg2 (qk 106 hg2 (stq (v:=(vb (decide (v12≥(IntKind.u64.wrap r7))))) (wy 100 hg1) (xT hg2) (q2 (vb (decide (v12≥(IntKind.u64.wrap r7)))) (xF hg1) (ln ⟨(decide (v12≥(IntKind.u64.wrap r7))),H,hm,hs,hb,h⟩)))))
 refine sj 106 hg2 (sj5 106 hg2 (stq (v:=(vb false)) (wy 100 hg1) (xF hg2) (q2 (vb false) (xF hg1) (ln ⟨false,H,hm,hs,hb,h⟩))))
 obtain ⟨hg3,h⟩|⟨hg3,h⟩:=h.br
 refine qk 92 hg3 (qk 92 hg3 (qk 92 hg3 ?_))
 obtain ⟨v13,hv12,h⟩:=h
 refine q4 92 hg3 (xl (isAgg26 _) hv12) (qk 92 hg3 (qk 92 hg3 (q2 (vb (decide (v13≥(IntKind.u64.wrap r7)))) (xT hg3) (zC ⟨(decide (v13≥(IntKind.u64.wrap r7))),Hl1,hm,hs,hb,h⟩))))
 refine sj 92 hg3 (sj5 92 hg3 (q2 (vb false) (xF hg3) (zC ⟨false,Hl1,hm,hs,hb,h⟩)))
def m_R1_l1 (r1:Option Addr) (r2:Option Addr) (r3:Option Nat) (places1:Sl) (w0:World) (Hl1:NP) (wl1:World) (Kc1:Sl→NP→WP) (K:(Option Addr)→Int→Int→WP):Prop :=Calls prog 164 #[(vp r2)] wl1 (fun e w4=>∃r4,e=.returned (vi r4)∧Kept Hl1 wl1 w4∧Br (decide (r4>0)) (Calls prog 165 #[(vp r2)] w4 (fun e w5=>∃r5,e=.returned (vi r5)∧Kept Hl1 w4 w5∧Calls prog 166 #[(vp r1),(vp r2),(.map r3)] w5 (fun e w6=>∃r6,e=.returned (vi r6)∧Kept Hl1 w5 w6∧Br (r6 != 0) (K none r6 r5 w6) (∀p1 w7,New w6 (.cells #[(vi r5)] 3) p1 w7→∃s1:Sl,∃w8:World,(Builtin.append_ #[50,50] 50 #[places1.v,(Sl.mk (some p1) 1 1).v]).run prog w7=.ok s1.v w8∧Kept Hl1 w7 w8∧Kc1 s1 Hl1 w8)))) (∀p2 w9,New w4 (.cells #[(vi 0)] 3) p2 w9→zW w9 p2∧¬ Hl1 p2.block∧∀w10,w10=w9.setCell p2 (vi 0)→Calls prog 22 #[(vp r1)] w10 (fun e w11=>∃r7,e=.returned (vi r7)∧Kept Hl1 w10 w11∧Calls prog 139 #[(vp r1),(vi r7)] w11 (fun e w12=>∃r8:Value,e=.returned r8∧Kept Hl1 w11 w12∧∃(f1:FuncId) (cs1:Array Value),r8=.func (.func f1) #[] cs1∧(∀args w,(callFunc f1 args).run prog w=.ok (.enter f1 args) w)∧∃(xs1:List (Int)) (Rd1:WP),jRM prog f1 cs1 (fun (z2:Int)=>#[(vi z2)]) xs1 Rd1 w12∧∃(I2 Ix1:List (Int)→NP→WP),RngI w0 Rd1 I2 Ix1 (fun _ _ _=>False)∧I2 [] Hl1 w12∧(∀(pre1:List (Int)) (z2:Int) (Y1:NP) (A1:World),I2 pre1 Y1 A1→Hst w0 Y1 A1 Y1 A1→(∃post,xs1=pre1++z2 :: post)→∃v1,A1.cell? p2=some (vi v1)∧Br (z2 != (q6.wrap (v1+1))) (Kept Y1 A1 A1∧Ix1 (pre1++[z2]) Y1 A1) (∃v2,A1.cell? p2=some (vi v2)∧zW A1 p2∧¬ None p2.block∧∀w14,w14=A1.setCell p2 (vi (q6.wrap (v2+1)))→Kept Y1 A1 w14∧I2 (pre1++[z2]) Y1 w14))∧∀H1 w15,Hst w0 H1 w15 H1 w15→(∀b,Hl1 b→H1 b)→Kept Hl1 w12 w15→(I2 xs1 H1 w15∨∃pre,Ix1 pre H1 w15)→∃v3,w15.cell? p2=some (vi v3)∧Br (decide (v3<(places1.len:Int))) (∀w16,Hst w0 H1 w15 H1 w16→∃v4,w16.cell? p2=some (vi v4)∧∃a1:Addr,At places1 v4 1 a1∧∃v5,w16.cell? a1=some (vi v5)∧∀w17,Hst w0 H1 w16 H1 w17→K none 73 v5 w17) (∀w18,Hst w0 H1 w15 H1 w18→K r1 0 0 w18)))))
def m_R1 (b1:Sl) (w0:World) (K:(Option Addr)→Int→Int→WP):Prop :=Br (decide ((b1.len:Int)>4096)) (K none 1 0 w0) (Br (((b1.len:Int):Int) == 0) (K none 3 0 w0) (Calls prog 11 #[] w0 (fun e w1=>∃r1,e=.returned (vp r1)∧Kept None w0 w1∧Calls prog 163 #[b1.v] w1 (fun e w2=>∃r2,e=.returned (vp r2)∧Kept None w1 w2∧Calls prog 138 #[] w2 (fun e w3=>∃r3:Option Nat,e=.returned (.map r3)∧Kept None w2 w3∧∃(I1:Sl→NP→WP) (mu1:Sl→World→Nat),I1 Sl.nil None w3∧∀(places1:Sl) (Hl1:NP) (wl1:World),Hst w0 Hl1 wl1 Hl1 wl1→I1 places1 Hl1 wl1→m_R1_l1 r1 r2 r3 places1 w0 Hl1 wl1 (fun y'0 H' w'=>I1 y'0 H' w'∧mu1 y'0 w'<mu1 places1 wl1) K)))))
theorem w_R1 (b1 w0 K) (h:m_R1 b1 w0 K):
  Calls prog 121 #[b1.v] w0 (fun e w'=>∃r9 r10 r11,e=.returned (.tuple #[(vp r9),(vi r10),(vi r11)])∧K r9 r10 r11 w'):=by
 refine cw (args:=[b1.v]) func121 ntmps121 ?_
 obtain ⟨hs,hb⟩:=st0 w0
 refine eg (qc (ln (jIF rfl (fun _ _ _ h=>h) (zA (zL (eg (qd (ln (cbr h ?_ ?_)))))))))<;>intro h
 refine eg (qc (ln (er (qU (vA (jHY (.inl rfl) results121 (v:=(vp none)) (by kernel_rfl) (v':=(vi 1)) (by kernel_rfl) (v'':=(vi 0)) (by kernel_rfl) ⟨none,1,0,rfl,h⟩))))))
 refine eg (qd (ln (cbr h ?_ ?_)))<;>intro h
 refine eg (qc (ln (er (qU (vA (jHY (.inl rfl) results121 (v:=(vp none)) (by kernel_rfl) (v':=(vi 3)) (by kernel_rfl) (v'':=(vi 0)) (by kernel_rfl) ⟨none,3,0,rfl,h⟩))))))
 refine zD (tG (zN (eg (sc call11 (h.mono fun e w1 ⟨r1,k,hk,h⟩=>have ⟨hs,hb⟩:=hk.hh hs hb;⟨_,k,?_⟩)))))
 refine q (ln (eg (q (sc call163 (h.mono fun e w2 ⟨r2,k,hk,h⟩=>have ⟨hs,hb⟩:=hk.hh hs hb;⟨_,k,?_⟩)))))
 refine q (ln (eg (sc call138 (h.mono fun e w3 ⟨r3,k,hk,h⟩=>have ⟨hs,hb⟩:=hk.hh hs hb;⟨_,k,?_⟩))))
 refine q (ln (eg (q (ln (zA (zL ?_))))))
 obtain ⟨I1,mu1,h0,hr⟩:=h
 refine vR (σ:=Sl×NP×World) (fun s ρ w=>w=s.2.2∧Has ρ [(5,(vp r1)),(6,(vp r2)),(7,(.map r3)),(8,s.1.v)]∧Hst w0 s.2.1 w s.2.1 w∧HB s.2.1 w []∧I1 s.1 s.2.1 s.2.2) (fun s=>mu1 s.1 s.2.2) (Sl.nil,None,w3) ⟨rfl,hm,hs,hb,h0⟩ ?_
 rintro ⟨places1,Hl1,wl1⟩ ρ w ⟨hw,hH,hs,hb,hI⟩
 dsimp only at hw hH hs hb;subst w
 have h:=hr places1 Hl1 wl1 hs hI
 refine zR hH (zA (eg (q (sc call164 (h.mono fun e w4 ⟨r4,k,hk,h⟩=>have ⟨hs,hb⟩:=hk.hh hs hb;⟨_,k,?_⟩)))))
 refine q (ln (cbr h ?_ ?_))<;>intro h
 refine zD (zN (zL (eg (q (sc call165 (h.mono fun e w5 ⟨r5,k,hk,h⟩=>have ⟨hs,hb⟩:=hk.hh hs hb;⟨_,k,?_⟩))))))
 refine q (ln (zA (eg (qc (sc call166 (h.mono fun e w6 ⟨r6,k,hk,h⟩=>have ⟨hs,hb⟩:=hk.hh hs hb;⟨_,k,?_⟩))))))
 refine q (ln (eg (qb (ln (cbr h ?_ ?_)))))<;>intro h
 refine eg (q (qd (ln (er (vA (qU (vA (qU (vA (jHY (.inl rfl) results121 (v:=(vp none)) (by kernel_rfl) (v':=(vi r6)) (by kernel_rfl) (v'':=(vi r5)) (by kernel_rfl) ⟨none,r6,r5,rfl,h⟩))))))))))
 refine zD (zN (rg (qb (nw5 (fun p=>(Sl.mk (some p) 1 1).v) hs hb h fun p1 w7 hs hb h=>?_))))
 obtain ⟨s1,w8,hv1,hk,h⟩:=h
 refine st (v:=s1.v) (zJ rfl) (vL (args:=#[places1.v,(Sl.mk (some p1) 1 1).v]) (by kernel_rfl) (fun _=>rfl) hv1) ?_
 obtain ⟨hs,hb⟩:=hk.hh hs hb
 refine q (zC (tG (zN ⟨(s1,Hl1,w8),⟨rfl,hm,hs,hb,h.1⟩,h.2⟩)))
 refine vN (xH (xH (xB (zN (eg (sn (O:=(.cells #[(vi 0)] 3)) (zH (zeroValue3 _) rfl) ?_))))))
 intro p2 w9 hn4
 have h:=h p2 w9 hn4
 obtain ⟨hs,hb⟩:=hs.nw hb hn4
 refine st2 (sizeOf3 _) hs hb h fun w10 hs hb h=>ln (zA (jIG (zN (jHD (rg (q0 (vp r1) (q0 (vp r1) (sc call22 (h.mono fun e w11 ⟨r7,k,hk,h⟩=>have ⟨hs,hb⟩:=hk.hh hs hb;⟨_,k,?_⟩)))))))))
 refine sc call139 (h.mono fun e w12 ⟨r8,k,hk,h⟩=>have ⟨hs,hb⟩:=hk.hh hs hb;⟨_,k,?_⟩)
 refine ln ?_
 obtain ⟨f1,cs1,hv2,hf1,h⟩:=h
 obtain ⟨xs1,Rd1,hit,I2,Ix1,hRI,h0,hbody,h⟩:=h
 refine jEO (encs:=(fun (z2:Int)=>#[(vi z2)])) (Eq.trans (b:=r8) (by kernel_rfl) hv2) hf1 hit (fun _=>rfl) (by decide) hs I2 Ix1 (fun _ _ _=>False) hRI h0 ?ha ?hr ?ht
 case ha =>
  intro l z2 w19
  refine rg (q (ln ⟨rfl,?_⟩))
  intro pre1 Y1 A1 hi hY hpost
  have h:=hbody pre1 z2 Y1 A1 hi hY hpost
  obtain ⟨hs,hb⟩:=st0 A1
  refine zL (zA (eg (q (ql (isAgg3 _) h fun v1 h=>qb (ln (cbr h ?_ ?_))))))<;>intro h
  refine vN (xH (bl_ne rfl ?_))
  exact rd_x h
  refine zD (zN (rg (ql (isAgg3 _) h fun v2 h=>q (st2 (sizeOf3 _) hs hb h fun w14 hs hb h=>zC (tG ?_)))))
  exact rd_n h
 case hr =>
  intro D1 H1 w15 hs' hD hDe dA hk1 hio1
  have hb':=hb.behind hk1 dA hD hDe
  have hs:=hs'
  have hb:=hb'
  have h:=h H1 w15 hs dA hk1 hio1
  refine zA (eg (ql (isAgg3 _) h fun v3 h=>qc (ln (cbr h ?_ ?_))))<;>intro h
  refine zA (qD (by kernel_rfl) (by kernel_rfl) (by kernel_rfl) (by kernel_rfl) ?_)
  intro w16 hw16
  have hs:Hst w0 H1 w15 H1 w16:=by rw [hw16];exact hs.drew
  have hb:HBZ [(D1,.deferred (some []))] H1 w16 []:=by rw [hw16];exact hb.drew
  refine qq 0 places1.v Kp0 (qg 1 ?_)
  have ⟨h,hs⟩:=hs.hr (h w16)
  obtain ⟨v4,hv7,h⟩:=h
  refine sxQ Kp1 (zJ rfl) rfl (xl (isAgg3 _) hv7) (qg 2 ?_)
  obtain ⟨a1,hv6,h⟩:=h
  refine sxQ Kp2 (zJ rfl) rfl (xi (runUnderlying50 _) (sizeOf3 _) hv6) (qg 3 ?_)
  obtain ⟨v5,hv5,h⟩:=h
  refine sxQ Kp3 (zJ rfl) rfl (xl (isAgg3 _) hv5) (qq 4 (vp none) Kp4 (qq 5 (vi 73) Kp5 (qq 6 (vi v5) Kp6 (wn (zN (er (vA (af_r hb.dead ?_))))))))
  intro w17 hw'
  have hl:=hb.leave hs hw'
  obtain ⟨hs,hb⟩:=hl
  -- behind the loop
  have ⟨h,hs⟩:=hs.hr (h w17)
  refine jHY (.inl rfl) results121 (v:=(vp none)) (by kernel_rfl) (v':=(vi 73)) (by kernel_rfl) (v'':=(vi v5)) (by kernel_rfl) ⟨none,73,v5,rfl,h⟩
  refine zD (zN (eg (qd (ln (er (af_r hb.dead ?_))))))
  intro w18 hw'
  have hl:=hb.leave hs hw'
  obtain ⟨hs,hb⟩:=hl
  -- behind the loop
  have ⟨h,hs⟩:=hs.hr (h w18)
  refine jHY (.inl rfl) results121 (v:=(vp r1)) (by kernel_rfl) (v':=(vi 0)) (by kernel_rfl) (v'':=(vi 0)) (by kernel_rfl) ⟨r1,0,0,rfl,h⟩
 case ht =>
  intro _ _ _ _ _ _ _ h
  exact h.elim
def m_B4 (p1:Option Addr) (b1:Sl) (w0:World) (K:Int→Int→Int→WP):Prop :=Br (Option.isNone p1) (K 0 2 0 w0) (Calls prog 121 #[b1.v] w0 (fun e w1=>∃r1 r2 r3,e=.returned (.tuple #[(vp r1),(vi r2),(vi r3)])∧Br (r2 != 0) (K 0 r2 r3 w1) (Calls prog 22 #[(vp r1)] w1 (fun e w2=>∃r4,e=.returned (vi r4)∧Calls prog 122 #[(vp p1),(vp r1),(vi r4)] w2 (fun e w3=>∃r5 r6,e=.returned (.tuple #[(vi r5),(vi r6)])∧K r5 r6 0 w3)))))
theorem w_B4 (p1 b1 w0 K) (h:m_B4 p1 b1 w0 K):
  Calls prog 68 #[(vp p1),b1.v] w0 (fun e w'=>∃r7 r8 r9,e=.returned (.tuple #[(vi r7),(vi r8),(vi r9)])∧K r7 r8 r9 w'):=by
 refine cw (args:=[(vp p1),b1.v]) func68 ntmps68 (eg (q0 (vi 0) (q0 (vi 0) (q0 (vi 0) (ln (zA (eg (q0 (vp p1) ?_))))))))
 refine q2 (vb (Option.isNone p1)) (yY (by kernel_rfl) rfl underlying29) (ln (cbr h ?_ ?_))<;>intro h
 refine eg (qc (ln (er (vA (jHY (.inl rfl) results68 (v:=(vi 0)) (by kernel_rfl) (v':=(vi 2)) (by kernel_rfl) (v'':=(vi 0)) (by kernel_rfl) ⟨0,2,0,rfl,h⟩)))))
 refine zD (zN (eg (q (sc call121 (h.mono fun e w1 ⟨r1,r2,r3,k,h⟩=>⟨_,k,?_⟩)))))
 refine qc (qd (ln (zA (eg (qb (ln (cbr h ?_ ?_)))))))<;>intro h
 refine eg (q (qd (ln (er (vA (jHY (.inl rfl) results68 (v:=(vi 0)) (by kernel_rfl) (v':=(vi r2)) (by kernel_rfl) (v'':=(vi r3)) (by kernel_rfl) ⟨0,r2,r3,rfl,h⟩))))))
 refine zD (zN (eg (qc (sc call22 (h.mono fun e w2 ⟨r4,k,h⟩=>⟨_,k,?_⟩)))))
 refine sc call122 (h.mono fun e w3 ⟨r5,r6,k,h⟩=>⟨_,k,?_⟩)
 refine q (qd (ln (eg (qc (qb (ln (er (jHY (.inl rfl) results68 (v:=(vi r5)) (by kernel_rfl) (v':=(vi r6)) (by kernel_rfl) (v'':=(vi 0)) (by kernel_rfl) ⟨r5,r6,0,rfl,h⟩))))))))
def m_C4 (r1:Option Addr) (e1 at1:Int) (w0:World) (K:WP):Prop :=∃a1,r1=some a1∧∃v1,w0.cell? (a1.add 2)=some (vi v1)∧Br (v1 == 0) (∃a2,r1=some a2∧zW w0 (a2.add 2)∧∀w1,w1=w0.setCell (a2.add 2) (vi e1)→∃a3,r1=some a3∧zW w1 (a3.add 3)∧∀w2,w2=w1.setCell (a3.add 3) (vi at1)→K w2) (K w0)
theorem w_C4 (r1 e1 at1 w0 K) (h:m_C4 r1 e1 at1 w0 K):
  Calls prog 242 #[(vp r1),(vi e1),(vi at1)] w0 (fun e w'=>e=.returned (.tuple #[])∧K  w'):=by
 refine cw (args:=[(vp r1),(vi e1),(vi at1)]) func242 ntmps242 (eg (q0 (vp r1) ?_))
 refine qm h fun a1 h=>q (ql (isAgg3 _) h fun v1 h=>q (ln (cbr h ?_ ?_)))<;>intro h
 refine eg (qb (qm h fun a2 h=>q (st1 (sizeOf3 _) h fun w1 h=>ln (rg (qb (qm h fun a3 h=>q (st1 (sizeOf3 _) h fun w2 h=>zC (jHZ (.inr rfl) results242 ⟨rfl,h⟩))))))))
 refine zD (jHZ (.inr rfl) results242 ⟨rfl,h⟩)
def m_S1_l1 (r1:Option Addr) (n1 i1:Int) (w0:World) (Hl1:NP) (wl1:World) (Kc1:Int→Int→NP→WP) (K:Int→WP):Prop :=∃a2,r1=some a2∧∀w1,Hst w0 Hl1 wl1 Hl1 w1→∃v2,w1.cell? (a2.add 1)=some (vi v2)∧∃a3,r1=some a3∧∃v3:Sl,w1.cell? a3=some v3.v∧Br (decide ((q6.wrap (v2+i1))≥(v3.len:Int))) (∃a4,r1=some a4∧∃v4,w1.cell? (a4.add 1)=some (vi v4)∧Calls prog 242 #[(vp r1),(vi 3),(vi v4)] w1 (fun e w2=>e=.returned (.tuple #[])∧Kept Hl1 w1 w2∧K 0 w2)) (∃a5,r1=some a5∧∀w3,Hst w0 Hl1 w1 Hl1 w3→∃v5:Sl,w3.cell? a5=some v5.v∧∃a6,r1=some a6∧∃v6,w3.cell? (a6.add 1)=some (vi v6)∧∃a7:Addr,At v5 (q6.wrap (v6+i1)) 1 a7∧∃v7:Int,w3.cell? a7=some (.int .u8 v7)∧Br ((i1 == 9) && (decide (v7>1))) (∃a8,r1=some a8∧∀H1 w4,Hst w0 Hl1 w3 H1 w4→∃v8,w4.cell? (a8.add 1)=some (vi v8)∧Calls prog 242 #[(vp r1),(vi 11),(vi v8)] w4 (fun e w5=>e=.returned (.tuple #[])∧Kept H1 w4 w5∧K 0 w5)) (∀H1 w4,Hst w0 Hl1 w3 H1 w4→∃z1:Int,(Go.binOp .rem 5 (.int .u8 v7) (.int .u8 128)).run prog w4=.ok (.int .u8 z1) w4∧∃z2,(Go.binOp .shl 26 (vu (IntKind.u64.wrap z1)) (vu (IntKind.u64.wrap (q6.wrap (7*i1))))).run prog w4=.ok (vu z2) w4∧Br (decide (v7≥128)) (Kc1 (IntKind.u64.wrap (n1+z2)) (q6.wrap (i1+1)) H1 w4) (Br ((v7 == 0) && (decide (i1>0))) (∃a9,r1=some a9∧∀H2 w6,Hst w0 H1 w4 H2 w6→∃v9,w6.cell? (a9.add 1)=some (vi v9)∧Calls prog 242 #[(vp r1),(vi 10),(vi v9)] w6 (fun e w7=>e=.returned (.tuple #[])∧Kept H2 w6 w7∧K 0 w7)) (∃a10,r1=some a10∧∀H2 w6,Hst w0 H1 w4 H2 w6→∃v10,w6.cell? (a10.add 1)=some (vi v10)∧∃a11,r1=some a11∧zW w6 (a11.add 1)∧¬ H2 (a11.add 1).block∧∀w8,w8=w6.setCell (a11.add 1) (vi (q6.wrap ((q6.wrap (v10+i1))+1)))→K (IntKind.u64.wrap (n1+z2)) w8))))
def m_S1 (r1:Option Addr) (w0:World) (K:Int→WP):Prop :=∃a1,r1=some a1∧∃v1,w0.cell? (a1.add 2)=some (vi v1)∧Br (v1 != 0) (K 0 w0) (∃(I1:Int→Int→NP→WP) (mu1:Int→Int→World→Nat),I1 0 0 None w0∧∀(n1 i1:Int) (Hl1:NP) (wl1:World),Hst w0 Hl1 wl1 Hl1 wl1→I1 n1 i1 Hl1 wl1→m_S1_l1 r1 n1 i1 w0 Hl1 wl1 (fun y'0 y'1 H' w'=>I1 y'0 y'1 H' w'∧mu1 y'0 y'1 w'<mu1 n1 i1 wl1) K)
theorem w_S1 (r1 w0 K) (h:m_S1 r1 w0 K):
  Calls prog 219 #[(vp r1)] w0 (fun e w'=>∃r2,e=.returned (vu r2)∧K r2 w'):=by
 refine cw (args:=[(vp r1)]) func219 ntmps219 ?_
 obtain ⟨hs,hb⟩:=st0 w0
 refine eg (q (ln (zA (eg (q (qm h fun a1 h=>q (ql (isAgg3 _) h fun v1 h=>q (ln (cbr h ?_ ?_)))))))))<;>intro h
 refine eg (q (ln (er (vA (rs1 results219 ⟨0,rfl,h⟩)))))
 refine zD (zN (eg (q (ln (eg (q (ln (zL ?_))))))))
 obtain ⟨I1,mu1,h0,hr⟩:=h
 refine vR (σ:=Int×Int×NP×World) (fun s ρ w=>w=s.2.2.2∧Has ρ [(0,(vp r1)),(3,(vu s.1)),(4,(vi s.2.1))]∧Hst w0 s.2.2.1 w s.2.2.1 w∧HB s.2.2.1 w []∧I1 s.1 s.2.1 s.2.2.1 s.2.2.2) (fun s=>mu1 s.1 s.2.1 s.2.2.2) (0,0,None,w0) ⟨rfl,hm,hs,hb,h0⟩ ?_
 rintro ⟨n1,i1,Hl1,wl1⟩ ρ w ⟨hw,hH,hs,hb,hI⟩
 dsimp only at hw hH hs hb;subst w
 have h:=hr n1 i1 Hl1 wl1 hs hI
 refine zR hH (zA (zL (zA (zA (qD (by kernel_rfl) (by kernel_rfl) (by kernel_rfl) (by kernel_rfl) ?_)))))
 intro w1 hw1
 have hs:Hst w0 Hl1 wl1 Hl1 w1:=by rw [hw1];exact hs.drew
 have hb:HB Hl1 w1 []:=by rw [hw1];exact hb.drew
 refine qq 0 (vp r1) Kp0 (qg 1 ?_)
 obtain ⟨a2,hp2,h⟩:=h
 refine sxQ Kp1 (zJ rfl) rfl (xn hp2) (qq 2 (vp (some (a2.add 1))) Kp2 (qg 3 ?_))
 have ⟨h,hs⟩:=hs.hr (h w1)
 obtain ⟨v2,hv12,h⟩:=h
 refine sxQ Kp3 (zJ rfl) rfl (xl (isAgg3 _) hv12) (qq 4 (vi i1) Kp4 (qq 5 (vi (q6.wrap (v2+i1))) Kp5 (qq 6 (vp r1) Kp6 (qg 7 ?_))))
 obtain ⟨a3,hp3,h⟩:=h
 refine sxQ Kp7 (zJ rfl) rfl (xn hp3) (qq 8 (vp (some a3)) Kp8 (qg 9 ?_))
 obtain ⟨v3,hv11,h⟩:=h
 refine sxQ Kp9 (zJ rfl) rfl (xl (isAgg54 _) hv11) (qq 10 (vi (v3.len:Int)) (zG (S8 (zB (zB zF)))) (qq 11 (vb (decide ((q6.wrap (v2+i1))≥(v3.len:Int)))) (zG (S8 (zB (zB (zB zF))))) (wn (zN (cbr h ?_ ?_)))))<;>intro h
 refine eg (qb (qm h fun a4 h=>q (ql (isAgg3 _) h fun v4 h=>sc call242 (h.mono fun e w2 ⟨k,hk,h⟩=>have ⟨hs,hb⟩:=hk.hh hs hb;⟨_,k,?_⟩))))
 refine ln (eg (q (ln (er (vA (qU (vA (vA (qU (rs1 results219 ⟨0,rfl,h⟩))))))))))
 refine zD (zN (zA (qD (by kernel_rfl) (by kernel_rfl) (by kernel_rfl) (by kernel_rfl) ?_)))
 intro w3 hw3
 have hs:Hst w0 Hl1 w1 Hl1 w3:=by rw [hw3];exact hs.drew
 have hb:HB Hl1 w3 []:=by rw [hw3];exact hb.drew
 refine qq 0 (vp r1) Kp0 (qg 1 ?_)
 obtain ⟨a5,hp5,h⟩:=h
 refine sxQ Kp1 (zJ rfl) rfl (xn hp5) (qq 2 (vp (some a5)) Kp2 (qg 3 ?_))
 have ⟨h,hs⟩:=hs.hr (h w3)
 obtain ⟨v5,hv10,h⟩:=h
 refine sxQ Kp3 (zJ rfl) rfl (xl (isAgg54 _) hv10) (qq 4 (vp r1) Kp4 (qg 5 ?_))
 obtain ⟨a6,hp6,h⟩:=h
 refine sxQ Kp5 (zJ rfl) rfl (xn hp6) (qq 6 (vp (some (a6.add 1))) Kp6 (qg 7 ?_))
 obtain ⟨v6,hv9,h⟩:=h
 refine sxQ Kp7 (zJ rfl) rfl (xl (isAgg3 _) hv9) (qq 8 (vi i1) Kp8 (qq 9 (vi (q6.wrap (v6+i1))) Kp9 (qg 10 ?_)))
 obtain ⟨a7,hv8,h⟩:=h
 refine sxQ (zG (S8 (zB (zB zF)))) (zJ rfl) rfl (xi (runUnderlying54 _) (sizeOf5 _) hv8) (qg 11 ?_)
 obtain ⟨v7,hv7,h⟩:=h
 refine sxQ (zG (S8 (zB (zB (zB zF))))) (zJ rfl) rfl (xl (isAgg5 _) hv7) (qq 12 (.int .u8 v7) (zG (S8 (S4 zF))) (wn (zN (zA (zA (vO (fun ρ wJ=>∃b1'0:Bool,∃HJ:NP,((i1 == 9)=b1'0)∧Hst w0 Hl1 w3 HJ wJ∧HB HJ wJ []∧Has ρ [(0,(vp r1)),(3,(vu n1)),(4,(vi i1)),(5,(.int .u8 v7)),(48,(vb (b1'0 && (decide (v7>1)))))]) ?_ ?_))))))
 refine rg (qc ?_)
 rcases bte (i1 == 9) with hg2 | hg2
 refine qk 45 hg2 (qk 45 hg2 (q2 (vb (decide (v7>1))) (xT hg2) (ln ⟨true,_,hg2,hs,hb,hm⟩)))
 refine sj2 45 hg2 (q2 (vb false) (xF hg2) (ln ⟨false,_,hg2,hs,hb,hm⟩))
 rintro ρ w4 ⟨b1'0,H1,he0,hs,hb,hH⟩
 subst he0
 refine vC hH (zN (cbr h ?_ ?_))<;>intro h
 refine eg (qb (qm h fun a8 h=>q ?_))
 have ⟨h,hs⟩:=hs.hr (h H1 w4)
 refine ql (isAgg3 _) h fun v8 h=>sc call242 (h.mono fun e w5 ⟨k,hk,h⟩=>have ⟨hs,hb⟩:=hk.hh hs hb;⟨_,k,?_⟩)
 refine ln (eg (q (ln (er (vA (qU (vA (vA (qU (rs1 results219 ⟨0,rfl,h⟩))))))))))
 refine zD (zN (eg (qb ?_)))
 have ⟨h,hs⟩:=hs.hr (h H1 w4)
 obtain ⟨z1,hv6,h⟩:=h
 refine q2 (.int .u8 z1) (xG (by kernel_rfl) (by kernel_rfl) (by kernel_rfl) hv6) (qd ?_)
 obtain ⟨z2,hv5,h⟩:=h
 refine q2 (vu z2) (xG (by kernel_rfl) (by kernel_rfl) (by kernel_rfl) hv5) (qb (ln (zA (eg (qb (ln (cbr h ?_ ?_)))))))<;>intro h
 refine vN (xH (xB (zN (rg (q0 (vi i1) (q0 (vi (q6.wrap (i1+1))) (q0 (vi (q6.wrap (i1+1))) (ln ⟨((IntKind.u64.wrap (n1+z2)),(q6.wrap (i1+1)),H1,w4),⟨rfl,hm,hs,hb,h.1⟩,h.2⟩))))))))
 refine zD (zN (zA (zA (vO (fun ρ wJ=>∃b2'0:Bool,∃HJ:NP,((v7 == 0)=b2'0)∧Hst w0 H1 w4 HJ wJ∧HB HJ wJ []∧Has ρ [(0,(vp r1)),(3,(vu (IntKind.u64.wrap (n1+z2)))),(4,(vi i1)),(71,(vb (b2'0 && (decide (i1>0)))))]) ?_ ?_))))
 refine rg (qc ?_)
 rcases bte (v7 == 0) with hg4 | hg4
 refine qk 68 hg4 (qk 68 hg4 (q2 (vb (decide (i1>0))) (xT hg4) (ln ⟨true,_,hg4,hs,hb,hm⟩)))
 refine sj2 68 hg4 (q2 (vb false) (xF hg4) (ln ⟨false,_,hg4,hs,hb,hm⟩))
 rintro ρ w6 ⟨b2'0,H2,he0,hs,hb,hH⟩
 subst he0
 refine vC hH (zN (cbr h ?_ ?_))<;>intro h
 refine eg (qb (qm h fun a9 h=>q ?_))
 have ⟨h,hs⟩:=hs.hr (h H2 w6)
 refine ql (isAgg3 _) h fun v9 h=>sc call242 (h.mono fun e w7 ⟨k,hk,h⟩=>have ⟨hs,hb⟩:=hk.hh hs hb;⟨_,k,?_⟩)
 refine ln (eg (q (ln (er (vA (qU (vA (vA (qU (rs1 results219 ⟨0,rfl,h⟩))))))))))
 refine zD (zN (eg (qb (qm h fun a10 h=>q ?_))))
 have ⟨h,hs⟩:=hs.hr (h H2 w6)
 refine ql (isAgg3 _) h fun v10 h=>qc (qm h fun a11 h=>q (st2 (sizeOf3 _) hs hb h fun w8 hs hb h=>ln (eg (qb (ln (er (qU (vA (vA (qU (rs1 results219 ⟨(IntKind.u64.wrap (n1+z2)),rfl,h⟩)))))))))))
def m_T1_l1 (b2:Sl) (n2:Int) (wl1:World) (Kc1:Sl→Int→WP) (K:Sl→WP):Prop :=Br (decide (n2≥128)) (∃z1:Int,(Go.binOp .or 5 (.int .u8 (IntKind.u8.wrap n2)) (.int .u8 128)).run prog wl1=.ok (.int .u8 z1) wl1∧∀p1 w2,New wl1 (.cells #[(.int .u8 z1)] 5) p1 w2→∃s1:Sl,∃w3:World,(Builtin.append_ #[54,54] 54 #[b2.v,(Sl.mk (some p1) 1 1).v]).run prog w2=.ok s1.v w3∧∃z2,(Go.binOp .shr 26 (vu n2) (vu 7)).run prog w3=.ok (vu z2) w3∧Kc1 s1 z2 w3) (∀p2 w4,New wl1 (.cells #[(.int .u8 (IntKind.u8.wrap n2))] 5) p2 w4→∃s2:Sl,∃w5:World,(Builtin.append_ #[54,54] 54 #[b2.v,(Sl.mk (some p2) 1 1).v]).run prog w4=.ok s2.v w5∧K s2 w5)
def m_T1 (b1:Sl) (n1:Int) (w0:World) (K:Sl→WP):Prop :=Calls prog 211 #[b1.v] w0 (fun e w1=>∃r1:Sl,e=.returned r1.v∧∃(I1:Sl→Int→WP) (mu1:Sl→Int→World→Nat),I1 r1 n1 w1∧∀(b2:Sl) (n2:Int) (wl1:World),I1 b2 n2 wl1→m_T1_l1 b2 n2 wl1 (fun y'0 y'1 w'=>I1 y'0 y'1 w'∧mu1 y'0 y'1 w'<mu1 b2 n2 wl1) K)
theorem w_T1 (b1 n1 w0 K) (h:m_T1 b1 n1 w0 K):
  Calls prog 183 #[b1.v,(vu n1)] w0 (fun e w'=>∃r2:Sl,e=.returned r2.v∧K r2 w'):=by
 refine cw (args:=[b1.v,(vu n1)]) func183 ntmps183 (eg (q0 Sl.nil.v (ln (eg (q0 b1.v ?_)))))
 refine sc call211 (h.mono fun e w1 ⟨r1,k,h⟩=>⟨_,k,?_⟩)
 refine q (ln (zA (zL ?_)))
 obtain ⟨I1,mu1,h0,hr⟩:=h
 refine vR (σ:=Sl×Int×World) (fun s ρ w=>w=s.2.2∧Has ρ [(0,s.1.v),(1,(vu s.2.1))]∧I1 s.1 s.2.1 s.2.2) (fun s=>mu1 s.1 s.2.1 s.2.2) (r1,n1,w1) ⟨rfl,hm,h0⟩ ?_
 rintro ⟨b2,n2,wl1⟩ ρ w ⟨hw,hH,hI⟩
 dsimp only at hw hH;subst w
 have h:=hr b2 n2 wl1 hI
 refine zR hH (zA (eg (qb (ln (cbr h ?_ ?_)))))<;>intro h
 refine zD (zN (zL (eg (qc ?_))))
 obtain ⟨z1,hv3,h⟩:=h
 refine q2 (.int .u8 z1) (xG (by kernel_rfl) (by kernel_rfl) (by kernel_rfl) hv3) (nw4 (fun p=>(Sl.mk (some p) 1 1).v) h fun p1 w2 h=>?_)
 obtain ⟨s1,w3,hv2,h⟩:=h
 refine st (v:=s1.v) (zJ rfl) (vL (args:=#[b2.v,(Sl.mk (some p1) 1 1).v]) (by kernel_rfl) (fun _=>rfl) hv2) (q0 s1.v (ln (rg (q0 (vu n2) ?_))))
 obtain ⟨z2,hv1,h⟩:=h
 refine q2 (vu z2) (xG (by kernel_rfl) (by kernel_rfl) (by kernel_rfl) hv1) (q (zC (tG (zN ⟨(s1,z2,w3),⟨rfl,hm,h.1⟩,h.2⟩))))
 refine vN (xH (xH (xB (zN (eg (q0 b2.v (q0 (vu n2) (q0 (.int .u8 (IntKind.u8.wrap n2)) (xI (O:=(.cells #[(.int .u8 (IntKind.u8.wrap n2))] 5)) (fun p=>(Sl.mk (some p) 1 1).v) (zJ rfl) (vI (vs:=#[(0,(.int .u8 (IntKind.u8.wrap n2)))]) (by kernel_rfl) (by kernel_rfl)) ?_)))))))))
 intro p2 w4 hn2
 have h:=h p2 w4 hn2
 obtain ⟨s2,w5,hv4,h⟩:=h
 refine st (v:=s2.v) (zJ rfl) (vL (args:=#[b2.v,(Sl.mk (some p2) 1 1).v]) (by kernel_rfl) (fun _=>rfl) hv4) (q0 s2.v (ln (er (rs1 results183 ⟨s2,rfl,h⟩))))
def m_D4 (b1:Sl) (aB aA:Int) (aC aE:Int) (aF:ByteArray) (aG aH:Int) (x1:Option Nat) (w0:World) (K:Sl→WP):Prop :=∀H1 w1,Hst w0 None w0 H1 w1→Calls prog 183 #[b1.v,(vu (IntKind.u64.wrap aA))] w1 (fun e w2=>∃r1:Sl,e=.returned r1.v∧Kept H1 w1 w2∧K r1 w2)
theorem w_D4 (b1 aB aA aC aE aF aG aH x1 w0 K) (h:m_D4 b1 aB aA aC aE aF aG aH x1 w0 K):
  Calls prog 182 #[b1.v,(.agg #[(vi aB),(vi aA),(vi aC),(vu aE),(vs aF),(vi aG),(vi aH)]),(.map x1)] w0 (fun e w'=>∃r2:Sl,e=.returned r2.v∧K r2 w'):=by
 refine cw (args:=[b1.v,(Ae aB aA aC aE aF aG aH),(.map x1)]) func182 ntmps182 ?_
 obtain ⟨hs,hb⟩:=st0 w0
 refine eg (nw3 (Ad aB aA aC aE aF aG aH) 103 hs hb xb fun p1 w1 H1 hs hb=>q (ln (eg (qb (q3 (xl (isAgg3 _) (hb.d 0 1 gZ)) (q ?_))))))
 have ⟨h,hs⟩:=hs.hr (h H1 w1)
 refine sc call183 (h.mono fun e w2 ⟨r1,k,hk,h⟩=>have ⟨hs,hb⟩:=hk.hh hs hb;⟨_,k,?_⟩)
 refine q (ln (er (rs1 results182 ⟨r1,rfl,h⟩)))
def m_E4 (r1:Option Addr) (w0:World) (K:Int→WP):Prop :=∀p1 w1,New w0 (.cells #[(vp r1)] 230) p1 w1→∀p2 w2,New w1 (.cells #[(vu 0)] 26) p2 w2→∃v1,w2.cell? p1=some (vp v1)∧Calls prog 227 #[(vp v1),(.func (.func 228) #[] #[(vp (some p1)),(vp (some p2))])] w2 (fun e w3=>e=.returned (.tuple #[])∧∃v2,w3.cell? p2=some (vu v2)∧zW w3 p2∧∀w4,w4=w3.setCell p2 (vu v2)→∃aK,w4.cell? p2=some (vu aK)∧K aK w4)
theorem w_E4 (r1 w0 K) (h:m_E4 r1 w0 K):
  Calls prog 185 #[(vp r1)] w0 (fun e w'=>∃r2,e=.returned (vu r2)∧K r2 w'):=by
 refine cw (args:=[(vp r1)]) func185 ntmps185 (eg (sn (O:=(.cells #[(vp r1)] 230)) xb ?_))
 intro p1 w1 hn3
 have h:=h p1 w1 hn3
 refine nw1 h (zH (zeroValue26 _) rfl) fun p2 w2 h=>ln (eg (ql (isAgg230 _) h fun v1 h=>q (sc call227 (h.mono fun e w3 ⟨k,h⟩=>⟨_,k,?_⟩))))
 refine ln (eg (ql (isAgg26 _) h fun v2 h=>st1 (sizeOf26 _) h fun w4 h=>ln (er ?_)))
 obtain ⟨aK,hv1,h⟩:=h
 refine gg1 results185 (RV.cell1 (A:=p2) (by kernel_rfl) (isAgg26 _) hv1) ⟨aK,rfl,h⟩
def m_F4 (r1:Option Addr) (n1:Option Addr) (w0:World) (K:WP):Prop :=Calls prog 185 #[(vp r1)] w0 (fun e w1=>∃r2,e=.returned (vu r2)∧∃a1,n1=some a1∧zW w1 (a1.add 7)∧∀w2,w2=w1.setCell (a1.add 7) (vu r2)→K w2)
theorem w_F4 (r1 n1 w0 K) (h:m_F4 r1 n1 w0 K):
  Calls prog 184 #[(vp r1),(vp n1)] w0 (fun e w'=>e=.returned (.tuple #[])∧K  w'):=by
 refine cw (args:=[(vp r1),(vp n1)]) func184 ntmps184 (rg (q0 (vp n1) (q0 (vp r1) ?_)))
 refine sc call185 (h.mono fun e w1 ⟨r2,k,h⟩=>⟨_,k,?_⟩)
 refine qm h fun a1 h=>q (st1 (sizeOf26 _) h fun w2 h=>zC (jHZ (.inr rfl) results184 ⟨rfl,h⟩))
def m_G4 (b1:Sl) (aB aA:Int) (aC aE:Int) (aF:ByteArray) (aG aH:Int) (x1:Option Nat) (w0:World) (K:Sl→WP):Prop :=∀H1 w1,Hst w0 None w0 H1 w1→Calls prog 183 #[b1.v,(vu (IntKind.u64.wrap aC))] w1 (fun e w2=>∃r1:Sl,e=.returned r1.v∧Kept H1 w1 w2∧K r1 w2)
theorem w_G4 (b1 aB aA aC aE aF aG aH x1 w0 K) (h:m_G4 b1 aB aA aC aE aF aG aH x1 w0 K):
  Calls prog 186 #[b1.v,(.agg #[(vi aB),(vi aA),(vi aC),(vu aE),(vs aF),(vi aG),(vi aH)]),(.map x1)] w0 (fun e w'=>∃r2:Sl,e=.returned r2.v∧K r2 w'):=by
 refine cw (args:=[b1.v,(Ae aB aA aC aE aF aG aH),(.map x1)]) func186 ntmps186 ?_
 obtain ⟨hs,hb⟩:=st0 w0
 refine eg (nw3 (Ad aB aA aC aE aF aG aH) 103 hs hb xb fun p1 w1 H1 hs hb=>q (ln (eg (qb (q3 (xl (isAgg3 _) (hb.d 0 2 gZ)) (q ?_))))))
 have ⟨h,hs⟩:=hs.hr (h H1 w1)
 refine sc call183 (h.mono fun e w2 ⟨r1,k,hk,h⟩=>have ⟨hs,hb⟩:=hk.hh hs hb;⟨_,k,?_⟩)
 refine q (ln (er (rs1 results186 ⟨r1,rfl,h⟩)))
def m_H4 (r1:Option Addr) (n1:Option Addr) (w0:World) (K:WP):Prop :=Calls prog 185 #[(vp r1)] w0 (fun e w1=>∃r2,e=.returned (vu r2)∧∃a1,n1=some a1∧zW w1 (a1.add 8)∧∀w2,w2=w1.setCell (a1.add 8) (vu r2)→K w2)
theorem w_H4 (r1 n1 w0 K) (h:m_H4 r1 n1 w0 K):
  Calls prog 187 #[(vp r1),(vp n1)] w0 (fun e w'=>e=.returned (.tuple #[])∧K  w'):=by
 refine cw (args:=[(vp r1),(vp n1)]) func187 ntmps187 (rg (q0 (vp n1) (q0 (vp r1) ?_)))
 refine sc call185 (h.mono fun e w1 ⟨r2,k,h⟩=>⟨_,k,?_⟩)
 refine qm h fun a1 h=>q (st1 (sizeOf26 _) h fun w2 h=>zC (jHZ (.inr rfl) results187 ⟨rfl,h⟩))
def m_I4 (b1:Sl) (aB aA:Int) (aC aE:Int) (aF:ByteArray) (aG aH:Int) (x1:Option Nat) (w0:World) (K:Sl→WP):Prop :=∀H1 w1,Hst w0 None w0 H1 w1→Calls prog 183 #[b1.v,(vu aE)] w1 (fun e w2=>∃r1:Sl,e=.returned r1.v∧Kept H1 w1 w2∧K r1 w2)
theorem w_I4 (b1 aB aA aC aE aF aG aH x1 w0 K) (h:m_I4 b1 aB aA aC aE aF aG aH x1 w0 K):
  Calls prog 188 #[b1.v,(.agg #[(vi aB),(vi aA),(vi aC),(vu aE),(vs aF),(vi aG),(vi aH)]),(.map x1)] w0 (fun e w'=>∃r2:Sl,e=.returned r2.v∧K r2 w'):=by
 refine cw (args:=[b1.v,(Ae aB aA aC aE aF aG aH),(.map x1)]) func188 ntmps188 ?_
 obtain ⟨hs,hb⟩:=st0 w0
 refine eg (nw3 (Ad aB aA aC aE aF aG aH) 103 hs hb xb fun p1 w1 H1 hs hb=>q (ln (eg (qb (q3 (xl (isAgg26 _) (hb.d 0 3 gZ)) ?_)))))
 have ⟨h,hs⟩:=hs.hr (h H1 w1)
 refine sc call183 (h.mono fun e w2 ⟨r1,k,hk,h⟩=>have ⟨hs,hb⟩:=hk.hh hs hb;⟨_,k,?_⟩)
 refine q (ln (er (rs1 results188 ⟨r1,rfl,h⟩)))
def m_J4 (r1:Option Addr) (n1:Option Addr) (w0:World) (K:WP):Prop :=Calls prog 185 #[(vp r1)] w0 (fun e w1=>∃r2,e=.returned (vu r2)∧∃a1,n1=some a1∧zW w1 (a1.add 3)∧∀w2,w2=w1.setCell (a1.add 3) (vu r2)→K w2)
theorem w_J4 (r1 n1 w0 K) (h:m_J4 r1 n1 w0 K):
  Calls prog 189 #[(vp r1),(vp n1)] w0 (fun e w'=>e=.returned (.tuple #[])∧K  w'):=by
 refine cw (args:=[(vp r1),(vp n1)]) func189 ntmps189 (rg (q0 (vp n1) (q0 (vp r1) ?_)))
 refine sc call185 (h.mono fun e w1 ⟨r2,k,h⟩=>⟨_,k,?_⟩)
 refine qm h fun a1 h=>qb (st1 (sizeOf26 _) h fun w2 h=>zC (jHZ (.inr rfl) results189 ⟨rfl,h⟩))
def m_K4 (b1:Sl) (s1:ByteArray) (w0:World) (K:Sl→WP):Prop :=Calls prog 183 #[b1.v,(vu (IntKind.u64.wrap (s1.size:Int)))] w0 (fun e w1=>∃r1:Sl,e=.returned r1.v∧∃s2:Sl,∃w2:World,(Builtin.append_ #[54,9] 54 #[r1.v,(vs s1)]).run prog w1=.ok s2.v w2∧K s2 w2)
theorem w_K4 (b1 s1 w0 K) (h:m_K4 b1 s1 w0 K):
  Calls prog 191 #[b1.v,(vs s1)] w0 (fun e w'=>∃r2:Sl,e=.returned r2.v∧K r2 w'):=by
 refine cw (args:=[b1.v,(vs s1)]) func191 ntmps191 (eg (q0 Sl.nil.v (ln (eg (q0 b1.v (q0 (vs s1) (q0 (vi (s1.size:Int)) (q0 (vu (IntKind.u64.wrap (s1.size:Int))) ?_))))))))
 refine sc call183 (h.mono fun e w1 ⟨r1,k,h⟩=>⟨_,k,?_⟩)
 refine q ?_
 obtain ⟨s2,w2,hv1,h⟩:=h
 refine st (v:=s2.v) (zJ rfl) (vL (args:=#[r1.v,(vs s1)]) (by kernel_rfl) (fun _=>rfl) hv1) (q0 s2.v (ln (er (rs1 results191 ⟨s2,rfl,h⟩))))
def m_L4 (b1:Sl) (aB aA:Int) (aC aE:Int) (aF:ByteArray) (aG aH:Int) (x1:Option Nat) (w0:World) (K:Sl→WP):Prop :=∀H1 w1,Hst w0 None w0 H1 w1→Calls prog 191 #[b1.v,(vs aF)] w1 (fun e w2=>∃r1:Sl,e=.returned r1.v∧Kept H1 w1 w2∧K r1 w2)
theorem w_L4 (b1 aB aA aC aE aF aG aH x1 w0 K) (h:m_L4 b1 aB aA aC aE aF aG aH x1 w0 K):
  Calls prog 190 #[b1.v,(.agg #[(vi aB),(vi aA),(vi aC),(vu aE),(vs aF),(vi aG),(vi aH)]),(.map x1)] w0 (fun e w'=>∃r2:Sl,e=.returned r2.v∧K r2 w'):=by
 refine cw (args:=[b1.v,(Ae aB aA aC aE aF aG aH),(.map x1)]) func190 ntmps190 ?_
 obtain ⟨hs,hb⟩:=st0 w0
 refine eg (nw3 (Ad aB aA aC aE aF aG aH) 103 hs hb xb fun p1 w1 H1 hs hb=>q (ln (eg (qb (q3 (xl (isAgg9 _) (hb.d 0 4 gZ)) ?_)))))
 have ⟨h,hs⟩:=hs.hr (h H1 w1)
 refine sc call191 (h.mono fun e w2 ⟨r1,k,hk,h⟩=>have ⟨hs,hb⟩:=hk.hh hs hb;⟨_,k,?_⟩)
 refine q (ln (er (rs1 results190 ⟨r1,rfl,h⟩)))
def m_M4 (r1:Option Addr) (most1:Int) (w0:World) (K:ByteArray→WP):Prop :=∀p1 w1,New w0 (.cells #[(vp r1)] 230) p1 w1→∀p2 w2,New w1 (.cells #[(vi most1)] 3) p2 w2→∀p3 w3,New w2 (.cells #[ve] 9) p3 w3→∃v1,w3.cell? p1=some (vp v1)∧Calls prog 227 #[(vp v1),(.func (.func 230) #[] #[(vp (some p1)),(vp (some p2)),(vp (some p3))])] w3 (fun e w4=>e=.returned (.tuple #[])∧∃v2,w4.cell? p3=some (vs v2)∧zW w4 p3∧∀w5,w5=w4.setCell p3 (vs v2)→∃aK,w5.cell? p3=some (vs aK)∧K aK w5)
theorem w_M4 (r1 most1 w0 K) (h:m_M4 r1 most1 w0 K):
  Calls prog 193 #[(vp r1),(vi most1)] w0 (fun e w'=>∃r2,e=.returned (vs r2)∧K r2 w'):=by
 refine cw (args:=[(vp r1),(vi most1)]) func193 ntmps193 (eg (sn (O:=(.cells #[(vp r1)] 230)) xb ?_))
 intro p1 w1 hn4
 have h:=h p1 w1 hn4
 refine nw1 h xb fun p2 w2 h=>nw1 h (zH (zeroValue9 _) rfl) fun p3 w3 h=>ln (eg (ql (isAgg230 _) h fun v1 h=>q (sc call227 (h.mono fun e w4 ⟨k,h⟩=>⟨_,k,?_⟩))))
 refine ln (eg (ql (isAgg9 _) h fun v2 h=>st1 (sizeOf9 _) h fun w5 h=>ln (er ?_)))
 obtain ⟨aK,hv1,h⟩:=h
 refine gg1 results193 (RV.cell1 (A:=p3) (by kernel_rfl) (isAgg9 _) hv1) ⟨aK,rfl,h⟩
def m_N4 (r1:Option Addr) (n1:Option Addr) (w0:World) (K:WP):Prop :=Calls prog 193 #[(vp r1),(vi 64)] w0 (fun e w1=>∃r2,e=.returned (vs r2)∧∃a1,n1=some a1∧zW w1 (a1.add 4)∧∀w2,w2=w1.setCell (a1.add 4) (vs r2)→K w2)
theorem w_N4 (r1 n1 w0 K) (h:m_N4 r1 n1 w0 K):
  Calls prog 192 #[(vp r1),(vp n1)] w0 (fun e w'=>e=.returned (.tuple #[])∧K  w'):=by
 refine cw (args:=[(vp r1),(vp n1)]) func192 ntmps192 (rg (q0 (vp n1) (q0 (vp r1) ?_)))
 refine sc call193 (h.mono fun e w1 ⟨r2,k,h⟩=>⟨_,k,?_⟩)
 refine qm h fun a1 h=>qb (st1 (sizeOf9 _) h fun w2 h=>zC (jHZ (.inr rfl) results192 ⟨rfl,h⟩))
def m_O4 (b1:Sl) (aB aA:Int) (aC aE:Int) (aF:ByteArray) (aG aH:Int) (number1:Option Nat) (w0:World) (K:Sl→WP):Prop :=∀H1 w1,Hst w0 None w0 H1 w1→∃v1,(Instr.lookup 205 (.map number1) (vi aG) false).run prog w1=.ok (vi v1) w1∧Calls prog 183 #[b1.v,(vu (IntKind.u64.wrap v1))] w1 (fun e w2=>∃r1:Sl,e=.returned r1.v∧Kept H1 w1 w2∧K r1 w2)
theorem w_O4 (b1 aB aA aC aE aF aG aH number1 w0 K) (h:m_O4 b1 aB aA aC aE aF aG aH number1 w0 K):
  Calls prog 194 #[b1.v,(.agg #[(vi aB),(vi aA),(vi aC),(vu aE),(vs aF),(vi aG),(vi aH)]),(.map number1)] w0 (fun e w'=>∃r2:Sl,e=.returned r2.v∧K r2 w'):=by
 refine cw (args:=[b1.v,(Ae aB aA aC aE aF aG aH),(.map number1)]) func194 ntmps194 ?_
 obtain ⟨hs,hb⟩:=st0 w0
 refine eg (nw3 (Ad aB aA aC aE aF aG aH) 103 hs hb xb fun p1 w1 H1 hs hb=>q (ln (eg (qc (q3 (xl (isAgg23 _) (hb.d 0 5 gZ)) ?_)))))
 have ⟨h,hs⟩:=hs.hr (h H1 w1)
 obtain ⟨v1,hv1,h⟩:=h
 refine q2 (vi v1) (yZ (by kernel_rfl) (by kernel_rfl) hv1) (q (sc call183 (h.mono fun e w2 ⟨r1,k,hk,h⟩=>have ⟨hs,hb⟩:=hk.hh hs hb;⟨_,k,?_⟩)))
 refine q (ln (er (rs1 results194 ⟨r1,rfl,h⟩)))
def m_P4 (r1:Option Addr) (n1:Option Addr) (w0:World) (K:WP):Prop :=Calls prog 185 #[(vp r1)] w0 (fun e w1=>∃r2,e=.returned (vu r2)∧∃a1,n1=some a1∧zW w1 (a1.add 9)∧∀w2,w2=w1.setCell (a1.add 9) (vu r2)→∃a2,n1=some a2∧zW w2 (a2.add 11)∧∀w3,w3=w2.setCell (a2.add 11) (vi 1)→K w3)
theorem w_P4 (r1 n1 w0 K) (h:m_P4 r1 n1 w0 K):
  Calls prog 195 #[(vp r1),(vp n1)] w0 (fun e w'=>e=.returned (.tuple #[])∧K  w'):=by
 refine cw (args:=[(vp r1),(vp n1)]) func195 ntmps195 (rg (q0 (vp n1) (q0 (vp n1) (q0 (vp r1) ?_))))
 refine sc call185 (h.mono fun e w1 ⟨r2,k,h⟩=>⟨_,k,?_⟩)
 refine qm h fun a1 h=>q (st1 (sizeOf26 _) h fun w2 h=>qm h fun a2 h=>q (st1 (sizeOf3 _) h fun w3 h=>zC (jHZ (.inr rfl) results195 ⟨rfl,h⟩)))
def m_Q4 (b1:Sl) (aB aA:Int) (aC aE:Int) (aF:ByteArray) (aG aH:Int) (number1:Option Nat) (w0:World) (K:Sl→WP):Prop :=∀H1 w1,Hst w0 None w0 H1 w1→∃v1,(Instr.lookup 205 (.map number1) (vi aH) false).run prog w1=.ok (vi v1) w1∧Calls prog 183 #[b1.v,(vu (IntKind.u64.wrap v1))] w1 (fun e w2=>∃r1:Sl,e=.returned r1.v∧Kept H1 w1 w2∧K r1 w2)
theorem w_Q4 (b1 aB aA aC aE aF aG aH number1 w0 K) (h:m_Q4 b1 aB aA aC aE aF aG aH number1 w0 K):
  Calls prog 196 #[b1.v,(.agg #[(vi aB),(vi aA),(vi aC),(vu aE),(vs aF),(vi aG),(vi aH)]),(.map number1)] w0 (fun e w'=>∃r2:Sl,e=.returned r2.v∧K r2 w'):=by
 refine cw (args:=[b1.v,(Ae aB aA aC aE aF aG aH),(.map number1)]) func196 ntmps196 ?_
 obtain ⟨hs,hb⟩:=st0 w0
 refine eg (nw3 (Ad aB aA aC aE aF aG aH) 103 hs hb xb fun p1 w1 H1 hs hb=>q (ln (eg (qc (q3 (xl (isAgg23 _) (hb.d 0 6 gZ)) ?_)))))
 have ⟨h,hs⟩:=hs.hr (h H1 w1)
 obtain ⟨v1,hv1,h⟩:=h
 refine q2 (vi v1) (yZ (by kernel_rfl) (by kernel_rfl) hv1) (q (sc call183 (h.mono fun e w2 ⟨r1,k,hk,h⟩=>have ⟨hs,hb⟩:=hk.hh hs hb;⟨_,k,?_⟩)))
 refine q (ln (er (rs1 results196 ⟨r1,rfl,h⟩)))
def m_R4 (r1:Option Addr) (n1:Option Addr) (w0:World) (K:WP):Prop :=Calls prog 185 #[(vp r1)] w0 (fun e w1=>∃r2,e=.returned (vu r2)∧∃a1,n1=some a1∧zW w1 (a1.add 10)∧∀w2,w2=w1.setCell (a1.add 10) (vu r2)→∃a2,n1=some a2∧zW w2 (a2.add 11)∧∀w3,w3=w2.setCell (a2.add 11) (vi 2)→K w3)
theorem w_R4 (r1 n1 w0 K) (h:m_R4 r1 n1 w0 K):
  Calls prog 197 #[(vp r1),(vp n1)] w0 (fun e w'=>e=.returned (.tuple #[])∧K  w'):=by
 refine cw (args:=[(vp r1),(vp n1)]) func197 ntmps197 (rg (q0 (vp n1) (q0 (vp n1) (q0 (vp r1) ?_))))
 refine sc call185 (h.mono fun e w1 ⟨r2,k,h⟩=>⟨_,k,?_⟩)
 refine qm h fun a1 h=>q (st1 (sizeOf26 _) h fun w2 h=>qm h fun a2 h=>q (st1 (sizeOf3 _) h fun w3 h=>zC (jHZ (.inr rfl) results197 ⟨rfl,h⟩)))
def m_P1_j1 (r1:Option Addr) (w0:World) (H:NP) (w:World) (K:Option (List PanicEntry)→Int→WP):Prop :=∃a3,r1=some a3∧∃v3,w.cell? (a3.add 1)=some (vi v3)∧∃a4,r1=some a4∧zW w (a4.add 1)∧¬ H (a4.add 1).block∧∀w2,w2=w.setCell (a4.add 1) (vi (q6.wrap (v3+1)))→∃a5,r1=some a5∧∀w3,Hst w0 H w2 H w3→∃v4:Sl,w3.cell? a5=some v4.v∧∃a6,r1=some a6∧∃v5,w3.cell? (a6.add 1)=some (vi v5)∧∃a7:Addr,At v4 (q6.wrap (v5 - 1)) 1 a7∧∃v6:Int,w3.cell? a7=some (.int .u8 v6)∧K none v6 w3
def m_P1 (r1:Option Addr) (w0:World) (K:Option (List PanicEntry)→Int→WP):Prop :=∃a1,r1=some a1∧∀w1,Hst w0 None w0 None w1→∃v1,w1.cell? (a1.add 1)=some (vi v1)∧∃a2,r1=some a2∧∃v2:Sl,w1.cell? a2=some v2.v∧Br (v1 == (v2.len:Int)) (K (some [{ v:=(.iface 274 (vi 3)),recovered:=false }]) 0 w1) (m_P1_j1 r1 w0 None w1 K)
theorem w_P1 (r1 w0 K) (h:m_P1 r1 w0 K):
  Calls prog 241 #[(vp r1)] w0 (fun e w'=>(∃r2:Int,e=.returned (.int .u8 r2)∧K none r2 w')∨∃ch,e=.panicked ch∧K (some ch) 0 w'):=by
 refine uD (args:=[(vp r1)]) func241 rfl ntmps241 (Nat.le_of_ble_eq_true rfl) ?_
 obtain ⟨hs,hb⟩:=st0 w0
 refine eg (q (ln (zA (zA (qD (by kernel_rfl) (by kernel_rfl) (by kernel_rfl) (by kernel_rfl) ?_)))))
 intro w1 hw1
 have hs:Hst w0 None w0 None w1:=by rw [hw1];exact hs.drew
 have hb:HB None w1 []:=by rw [hw1];exact hb.drew
 refine qq 0 (vp r1) Kp0 (qg 1 ?_)
 obtain ⟨a1,hp1,h⟩:=h
 refine sxQ Kp1 (zJ rfl) rfl (xn hp1) (qq 2 (vp (some (a1.add 1))) Kp2 (qg 3 ?_))
 have ⟨h,hs⟩:=hs.hr (h w1)
 obtain ⟨v1,hv7,h⟩:=h
 refine sxQ Kp3 (zJ rfl) rfl (xl (isAgg3 _) hv7) (qq 4 (vp r1) Kp4 (qg 5 ?_))
 obtain ⟨a2,hp2,h⟩:=h
 refine sxQ Kp5 (zJ rfl) rfl (xn hp2) (qq 6 (vp (some a2)) Kp6 (qg 7 ?_))
 obtain ⟨v2,hv6,h⟩:=h
 refine sxQ Kp7 (zJ rfl) rfl (xl (isAgg54 _) hv6) (qq 8 (vi (v2.len:Int)) Kp8 (qq 9 (vb (v1 == (v2.len:Int))) Kp9 (wn (zN (vD (fun ρ w=>∃H:NP,Has ρ [(0,(vp r1))]∧Hst w0 H w H w∧HB H w []∧m_P1_j1 r1 w0 H w K) ?_ ?_)))))
 rintro ρ w ⟨H,hH,hs,hb,h⟩
 refine zR hH (eg (q (qm h fun a3 h=>q (ql (isAgg3 _) h fun v3 h=>q (qm h fun a4 h=>q (st2 (sizeOf3 _) hs hb h fun w2 hs hb h=>ln (zA (qD (by kernel_rfl) (by kernel_rfl) (by kernel_rfl) (by kernel_rfl) ?_))))))))
 intro w3 hw3
 have hs:Hst w0 H w2 H w3:=by rw [hw3];exact hs.drew
 have hb:HB H w3 []:=by rw [hw3];exact hb.drew
 refine qq 0 (vp r1) Kp0 (qg 1 ?_)
 obtain ⟨a5,hp6,h⟩:=h
 refine sxQ Kp1 (zJ rfl) rfl (xn hp6) (qq 2 (vp (some a5)) Kp2 (qg 3 ?_))
 have ⟨h,hs⟩:=hs.hr (h w3)
 obtain ⟨v4,hv4,h⟩:=h
 refine sxQ Kp3 (zJ rfl) rfl (xl (isAgg54 _) hv4) (qq 4 (vp r1) Kp4 (qg 5 ?_))
 obtain ⟨a6,hp7,h⟩:=h
 refine sxQ Kp5 (zJ rfl) rfl (xn hp7) (qq 6 (vp (some (a6.add 1))) Kp6 (qg 7 ?_))
 obtain ⟨v5,hv3,h⟩:=h
 refine sxQ Kp7 (zJ rfl) rfl (xl (isAgg3 _) hv3) (qq 8 (vi (q6.wrap (v5 - 1))) Kp8 (qg 9 ?_))
 obtain ⟨a7,hv2,h⟩:=h
 refine sxQ Kp9 (zJ rfl) rfl (xi (runUnderlying54 _) (sizeOf5 _) hv2) (qg 10 ?_)
 obtain ⟨v6,hv1,h⟩:=h
 refine sxQ (zG (S8 (zB (zB zF)))) (zJ rfl) rfl (xl (isAgg5 _) hv1) (qq 11 (.int .u8 v6) (zG (S8 (zB (zB (zB zF))))) (wn (zN (er (ep (rs1 results241 (v:=(.int .u8 v6)) ?_))))))
 exact .inl ⟨v6,rfl,h⟩
 refine cbr h ?_ ?_<;>intro h
 refine qM (by kernel_rfl) (qC 1 (q0 (.iface 274 (vi 3)) (zC (jBX (zJ rfl) (by intro c hc;cases hc) (jEJ (by kernel_rfl)) (fun ρ'=>.inr ⟨_,rfl,h⟩)))))
 refine zD (zN ⟨None,hm,hs,hb,h⟩)
def m_X_j2 (n1 i1 r2:Int) (w:World) (Kc1:Int→Int→WP) (K:Option (List PanicEntry)→Int→WP):Prop :=∃z1:Int,(Go.binOp .and 5 (.int .u8 r2) (.int .u8 127)).run prog w=.ok (.int .u8 z1) w∧∃z2,(Go.binOp .shl 26 (vu (IntKind.u64.wrap z1)) (vi (q6.wrap (7*i1)))).run prog w=.ok (vu z2) w∧∃z3,(Go.binOp .or 26 (vu n1) (vu z2)).run prog w=.ok (vu z3) w∧Br (decide (r2<128)) (Br ((r2 == 0) && (decide (i1>0))) (K (some [{ v:=(.iface 274 (vi 10)),recovered:=false }]) 0 w) (K none z3 w)) (Kc1 z3 (q6.wrap (i1+1)) w)
def m_X_l1 (r1:Option Addr) (n1 i1:Int) (wl1:World) (Kc1:Int→Int→WP) (K:Option (List PanicEntry)→Int→WP):Prop :=Calls prog 241 #[(vp r1)] wl1 (fun e w1=>(∃r2:Int,e=.returned (.int .u8 r2)∧Br ((i1 == 9) && (decide (r2>1))) (K (some [{ v:=(.iface 274 (vi 11)),recovered:=false }]) 0 w1) (m_X_j2 n1 i1 r2 w1 Kc1 K))∨∃ch,e=.panicked ch∧K (some ch) 0 w1)
def m_X (r1:Option Addr) (w0:World) (K:Option (List PanicEntry)→Int→WP):Prop :=∃(I1:Int→Int→WP) (mu1:Int→Int→World→Nat),I1 0 0 w0∧∀(n1 i1:Int) (wl1:World),I1 n1 i1 wl1→m_X_l1 r1 n1 i1 wl1 (fun y'0 y'1 w'=>I1 y'0 y'1 w'∧mu1 y'0 y'1 w'<mu1 n1 i1 wl1) K
theorem w_X (r1 w0 K) (h:m_X r1 w0 K):
  Calls prog 229 #[(vp r1)] w0 (fun e w'=>(∃r3,e=.returned (vu r3)∧K none r3 w')∨∃ch,e=.panicked ch∧K (some ch) 0 w'):=by
 refine uD (args:=[(vp r1)]) func229 rfl ntmps229 (Nat.le_of_ble_eq_true rfl) (eg (q0 (vu 0) (ln (eg (q0 (vu 0) (ln (zA (rg (q (ln (zL ?_)))))))))))
 obtain ⟨I1,mu1,h0,hr⟩:=h
 refine vR (σ:=Int×Int×World) (fun s ρ w=>w=s.2.2∧Has ρ [(0,(vp r1)),(3,(vu s.1)),(4,(vi s.2.1))]∧I1 s.1 s.2.1 s.2.2) (fun s=>mu1 s.1 s.2.1 s.2.2) (0,0,w0) ⟨rfl,hm,h0⟩ ?_
 rintro ⟨n1,i1,wl1⟩ ρ w ⟨hw,hH,hI⟩
 dsimp only at hw hH;subst w
 have h:=hr n1 i1 wl1 hI
 refine zR hH (zA (zL (zA (qM (by kernel_rfl) (qC 1 (q0 (vp r1) (zC (jEV (zJ rfl) (by intro c hc;cases hc) (xc call241) (h.mono ?_)))))))))
 rintro e w1 (⟨r2,rfl,h⟩ | ⟨ch,rfl,h⟩)
 rotate_left
 exact .inr ⟨ch,rfl,fun ρ'=>.inr ⟨ch,rfl,h⟩⟩
 refine .inl ⟨_,rfl,?_⟩
 refine jBM (q0 (.int .u8 r2) (ln (zA (zA (vO (fun ρ wJ=>∃b1'0:Bool,((i1 == 9)=b1'0)∧w1=wJ∧Has ρ [(0,(vp r1)),(3,(vu n1)),(4,(vi i1)),(5,(.int .u8 r2)),(15,(vb (b1'0 && (decide (r2>1)))))]) ?_ ?_)))))
 refine rg (qc ?_)
 rcases bte (i1 == 9) with hg2 | hg2
 refine qk 12 hg2 (qk 12 hg2 (q2 (vb (decide (r2>1))) (xT hg2) (ln ⟨true,hg2,rfl,hm⟩)))
 refine sj2 12 hg2 (q2 (vb false) (xF hg2) (ln ⟨false,hg2,rfl,hm⟩))
 rintro ρ w2 ⟨b1'0,he0,hw,hH⟩
 subst he0
 subst hw
 refine vC hH (zN (vD (fun ρ w=>Has ρ [(0,(vp r1)),(3,(vu n1)),(4,(vi i1)),(5,(.int .u8 r2))]∧m_X_j2 n1 i1 r2 w (fun y'0 y'1 w'=>I1 y'0 y'1 w'∧mu1 y'0 y'1 w'<mu1 n1 i1 wl1) K) ?_ ?_))
 rintro ρ w ⟨hH,h⟩
 refine zR hH (eg (qb ?_))
 obtain ⟨z1,hv3,h⟩:=h
 refine q2 (.int .u8 z1) (xG (by kernel_rfl) (by kernel_rfl) (by kernel_rfl) hv3) (qc ?_)
 obtain ⟨z2,hv2,h⟩:=h
 refine q2 (vu z2) (xG (by kernel_rfl) (by kernel_rfl) (by kernel_rfl) hv2) ?_
 obtain ⟨z3,hv1,h⟩:=h
 refine q2 (vu z3) (xG (by kernel_rfl) (by kernel_rfl) (by kernel_rfl) hv1) (q (ln (eg (qb (ln (cbr h ?_ ?_))))))<;>intro h
 refine zA (zA (vO (fun ρ wJ=>∃b2'0:Bool,((r2 == 0)=b2'0)∧w=wJ∧Has ρ [(3,(vu z3)),(32,(vb (b2'0 && (decide (i1>0)))))]) ?_ ?_))
 refine rg (qc ?_)
 rcases bte (r2 == 0) with hg4 | hg4
 refine qk 29 hg4 (qk 29 hg4 (q2 (vb (decide (i1>0))) (xT hg4) (ln ⟨true,hg4,rfl,hm⟩)))
 refine sj2 29 hg4 (q2 (vb false) (xF hg4) (ln ⟨false,hg4,rfl,hm⟩))
 rintro ρ w3 ⟨b2'0,he0,hw,hH⟩
 subst he0
 subst hw
 refine vC hH (zN (cbr h ?_ ?_))<;>intro h
 refine qM (by kernel_rfl) (qC 1 (q0 (.iface 274 (vi 10)) (zC (jBX (zJ rfl) (by intro c hc;cases hc) (jEJ (by kernel_rfl)) (fun ρ'=>.inr ⟨_,rfl,h⟩)))))
 refine zD (zN (eg (qb (ln (er (qU (vA (vA (qU (ep (rs1 results229 (v:=(vu z3)) ?_)))))))))))
 exact .inl ⟨z3,rfl,h⟩
 refine zD (tG (zN (rg (qc (ln ⟨(z3,(q6.wrap (i1+1)),w),⟨rfl,hm,h.1⟩,h.2⟩)))))
 refine cbr h ?_ ?_<;>intro h
 refine qM (by kernel_rfl) (qC 1 (q0 (.iface 274 (vi 11)) (zC (jBX (zJ rfl) (by intro c hc;cases hc) (jEJ (by kernel_rfl)) (fun ρ'=>.inr ⟨_,rfl,h⟩)))))
 refine zD (zN ⟨hm,h⟩)
def m_S4 (cap1 cap2:Addr) (w0:World) (K:Option (List PanicEntry)→WP):Prop :=∃v1,w0.cell? cap1=some (vp v1)∧Calls prog 229 #[(vp v1)] w0 (fun e w1=>(∃r1,e=.returned (vu r1)∧zW w1 cap2∧∀w2,w2=w1.setCell cap2 (vu r1)→K none w2)∨∃ch,e=.panicked ch∧K (some ch)  w1)
theorem w_S4 (cap1 cap2 w0 K) (h:m_S4 cap1 cap2 w0 K):
  Calls prog 228 #[(vp (some cap1)),(vp (some cap2))] w0 (fun e w'=>(e=.returned (.tuple #[])∧K none  w')∨∃ch,e=.panicked ch∧K (some ch)  w'):=by
 refine uD (args:=[(vp (some cap1)),(vp (some cap2))]) func228 rfl ntmps228 (Nat.le_of_ble_eq_true rfl) (qM (by kernel_rfl) (qC 1 (ql (isAgg230 _) h fun v1 h=>zC (jEV (zJ rfl) (by intro c hc;cases hc) (xc call229) (h.mono ?_)))))
 rintro e w1 (⟨r1,rfl,h⟩ | ⟨ch,rfl,h⟩)
 rotate_left
 exact .inr ⟨ch,rfl,fun ρ'=>.inr ⟨ch,rfl,h⟩⟩
 refine .inl ⟨_,rfl,?_⟩
 refine jBM (st1 (sizeOf26 _) h fun w2 h=>zC (ep (jHZ (.inr rfl) results228 ?_)))
 exact .inl ⟨rfl,h⟩
def m_R_j3 (cap1 cap3:Addr) (r1:Int) (H:NP) (w:World) (K:Option (List PanicEntry)→WP):Prop :=∃C1:WP,C1 w.drew∧∀w3,w3=w.drew→∃v6,w3.cell? cap1=some (vp v6)∧∃a3,v6=some a3∧∃v7:Sl,w3.cell? a3=some v7.v∧∃v8,w3.cell? cap1=some (vp v8)∧∃a4,v8=some a4∧∃v9,w3.cell? (a4.add 1)=some (vi v9)∧∃v10,w3.cell? cap1=some (vp v10)∧∃a5,v10=some a5∧∃v11,w3.cell? (a5.add 1)=some (vi v11)∧∃s1:Sl,(Instr.sliceAt 54 v7.v (some (vi v9)) (some (vi (q6.wrap (v11+(q6.wrap r1))))) none).run prog w3=.ok s1.v w3∧∃c1,(convert 54 9 s1.v).run prog w3=.ok (vs c1) w3∧zW w3 cap3∧¬ H cap3.block∧∀w4,w4=w3.setCell cap3 (vs c1)→∃v12,w4.cell? cap1=some (vp v12)∧∃a6,v12=some a6∧∃v13,w4.cell? (a6.add 1)=some (vi v13)∧∃a7,v12=some a7∧zW w4 (a7.add 1)∧¬ H (a7.add 1).block∧∀w5,w5=w4.setCell (a7.add 1) (vi (q6.wrap (v13+(q6.wrap r1))))→K none w5
def m_R_j2 (cap1 cap3:Addr) (r1:Int) (w0:World) (H:NP) (w:World) (K:Option (List PanicEntry)→WP):Prop :=∀w2,Hst w0 H w H w2→∃v2,w2.cell? cap1=some (vp v2)∧∃a1,v2=some a1∧∃v3:Sl,w2.cell? a1=some v3.v∧∃v4,w2.cell? cap1=some (vp v4)∧∃a2,v4=some a2∧∃v5,w2.cell? (a2.add 1)=some (vi v5)∧Br (decide (r1>(IntKind.u64.wrap (q6.wrap ((v3.len:Int) - v5))))) (K (some [{ v:=(.iface 274 (vi 3)),recovered:=false }])  w2) (m_R_j3 cap1 cap3 r1 H w2 K)
def m_R_j1 (cap1 cap3:Addr) (r1:Int) (x1:Bool) (w0:World) (H:NP) (w:World) (K:Option (List PanicEntry)→WP):Prop :=Br x1 (K (some [{ v:=(.iface 274 (vi 1)),recovered:=false }])  w) (m_R_j2 cap1 cap3 r1 w0 H w K)
def m_R (cap1 cap2 cap3:Addr) (w0:World) (K:Option (List PanicEntry)→WP):Prop :=∃v1,w0.cell? cap1=some (vp v1)∧Calls prog 229 #[(vp v1)] w0 (fun e w1=>(∃r1,e=.returned (vu r1)∧Kept None w0 w1∧∃v14,w1.cell? cap2=some (vi v14)∧Br (decide (v14<0)) (m_R_j1 cap1 cap3 r1 true w0 None w1 K) (∃v15,w1.cell? cap2=some (vi v15)∧m_R_j1 cap1 cap3 r1 (decide (r1>(IntKind.u64.wrap v15))) w0 None w1 K))∨∃ch,e=.panicked ch∧K (some ch)  w1)
theorem w_R (cap1 cap2 cap3 w0 K) (h:m_R cap1 cap2 cap3 w0 K):
  Calls prog 230 #[(vp (some cap1)),(vp (some cap2)),(vp (some cap3))] w0 (fun e w'=>(e=.returned (.tuple #[])∧K none  w')∨∃ch,e=.panicked ch∧K (some ch)  w'):=by
 refine uD (args:=[(vp (some cap1)),(vp (some cap2)),(vp (some cap3))]) func230 rfl ntmps230 (Nat.le_of_ble_eq_true rfl) ?_
 obtain ⟨hs,hb⟩:=st0 w0
 refine zA (qM (by kernel_rfl) (qC 1 (ql (isAgg230 _) h fun v1 h=>zC (jEV (zJ rfl) (by intro c hc;cases hc) (xc call229) (h.mono ?_)))))
 rintro e w1 (⟨r1,rfl,hk,h⟩ | ⟨ch,rfl,h⟩)
 rotate_left
 exact .inr ⟨ch,rfl,fun ρ'=>.inr ⟨ch,rfl,h⟩⟩
 refine .inl ⟨_,rfl,?_⟩
 obtain ⟨hs,hb⟩:=hk.hh hs hb
 refine jBM (q0 (vu r1) (ln (zA (zA (vD (fun ρ w=>∃x1,∃H:NP,Has ρ [(0,(vp (some cap1))),(2,(vp (some cap3))),(3,(vu r1)),(13,(vb x1))]∧Hst w0 H w H w∧HB H w []∧m_R_j1 cap1 cap3 r1 x1 w0 H w K) ?_ ?_)))))
 rintro ρ w ⟨x1,H,hH,hs,hb,h⟩
 refine zR hH (vD (fun ρ w=>∃H:NP,Has ρ [(0,(vp (some cap1))),(2,(vp (some cap3))),(3,(vu r1))]∧Hst w0 H w H w∧HB H w []∧m_R_j2 cap1 cap3 r1 w0 H w K) ?_ ?_)
 rintro ρ w ⟨H,hH,hs,hb,h⟩
 refine zR hH (zA (zA (qD (by kernel_rfl) (by kernel_rfl) (by kernel_rfl) (by kernel_rfl) ?_)))
 intro w2 hw2
 have hs:Hst w0 H w H w2:=by rw [hw2];exact hs.drew
 have hb:HB H w2 []:=by rw [hw2];exact hb.drew
 refine qq 0 (vu r1) Kp0 (qg 1 ?_)
 have ⟨h,hs⟩:=hs.hr (h w2)
 obtain ⟨v2,hv14,h⟩:=h
 refine sxQ Kp1 (zJ rfl) rfl (xl (isAgg230 _) hv14) (qg 2 ?_)
 obtain ⟨a1,hp1,h⟩:=h
 refine sxQ Kp2 (zJ rfl) rfl (xn hp1) (qq 3 (vp (some a1)) Kp3 (qg 4 ?_))
 obtain ⟨v3,hv13,h⟩:=h
 refine sxQ Kp4 (zJ rfl) rfl (xl (isAgg54 _) hv13) (qq 5 (vi (v3.len:Int)) Kp5 (qg 6 ?_))
 obtain ⟨v4,hv12,h⟩:=h
 refine sxQ Kp6 (zJ rfl) rfl (xl (isAgg230 _) hv12) (qg 7 ?_)
 obtain ⟨a2,hp2,h⟩:=h
 refine sxQ Kp7 (zJ rfl) rfl (xn hp2) (qq 8 (vp (some (a2.add 1))) Kp8 (qg 9 ?_))
 obtain ⟨v5,hv11,h⟩:=h
 refine sxQ Kp9 (zJ rfl) rfl (xl (isAgg3 _) hv11) (qq 10 (vi (q6.wrap ((v3.len:Int) - v5))) (zG (S8 (zB (zB zF)))) (qq 11 (vu (IntKind.u64.wrap (q6.wrap ((v3.len:Int) - v5)))) (zG (S8 (zB (zB (zB zF))))) (qq 12 (vb (decide (r1>(IntKind.u64.wrap (q6.wrap ((v3.len:Int) - v5)))))) (zG (S8 (S4 zF))) (wn (zN (vD (fun ρ w=>∃H:NP,Has ρ [(0,(vp (some cap1))),(2,(vp (some cap3))),(3,(vu r1))]∧Hst w0 H w H w∧HB H w []∧m_R_j3 cap1 cap3 r1 H w K) ?_ ?_))))))
 rintro ρ w ⟨H,hH,hs,hb,h⟩
 refine zR hH (zA ?_)
 obtain ⟨C1,hC,h⟩:=h
 refine dr2 C1 [17] [17] hC h hs hb fun w3 hs hb h=>?_
 have hs:=hs.here
 refine qg 0 ?_
 obtain ⟨v6,hv10,h⟩:=h
 refine sye Kp0 (xl (isAgg230 _) hv10) (qg 1 ?_)
 obtain ⟨a3,hp3,h⟩:=h
 refine sy Kp1 (fun _ _=>xn hp3) (qx 2 (vp (some a3)) Kp2 (qg 3 ?_))
 obtain ⟨v7,hv9,h⟩:=h
 refine sye Kp3 (xl (isAgg54 _) hv9) (qg 4 ?_)
 obtain ⟨v8,hv8,h⟩:=h
 refine sye Kp4 (xl (isAgg230 _) hv8) (qg 5 ?_)
 obtain ⟨a4,hp4,h⟩:=h
 refine sy Kp5 (fun _ _=>xn hp4) (qx 6 (vp (some (a4.add 1))) Kp6 (qg 7 ?_))
 obtain ⟨v9,hv7,h⟩:=h
 refine sye Kp7 (xl (isAgg3 _) hv7) (qg 8 ?_)
 obtain ⟨v10,hv6,h⟩:=h
 refine sye Kp8 (xl (isAgg230 _) hv6) (qg 9 ?_)
 obtain ⟨a5,hp5,h⟩:=h
 refine sy Kp9 (fun _ _=>xn hp5) (qx 10 (vp (some (a5.add 1))) (zG (S8 (zB (zB zF)))) (qg 11 ?_))
 obtain ⟨v11,hv5,h⟩:=h
 refine sye (zG (S8 (zB (zB (zB zF))))) (xl (isAgg3 _) hv5) (qx 12 (vu r1) (zG (S8 (S4 zF))) (qx 13 (vi (q6.wrap r1)) (zG (S8 (S4 (zB zF)))) (qx 14 (vi (q6.wrap (v11+(q6.wrap r1)))) (zG (S8 (S4 (zB (zB zF))))) (qg 15 ?_))))
 obtain ⟨s1,hv4,h⟩:=h
 refine sye (v:=s1.v) (zG (S8 (S4 (zB (zB (zB zF)))))) (uJ (by kernel_rfl) (by kernel_rfl) (by kernel_rfl) (by kernel_rfl) hv4) (qg 16 ?_)
 obtain ⟨c1,hv3,h⟩:=h
 refine sye (v:=(vs c1)) (zG (S8 (S8 zF))) (jBK (by kernel_rfl) hv3) (lg 17 ?_)
 obtain ⟨hp6,hnh,h⟩:=h
 refine jRN (zG (S8 (S8 (zB zF)))) (xs (v:=(vs c1)) (sizeOf9 _) hp6) ?_
 intro w4 hn1
 have h:=h w4 hn1
 refine ⟨.inl (by kernel_rfl),?_⟩
 have hk:=Kept.sc hnh hn1
 obtain ⟨hs,hb⟩:=hk.hh hs hb
 refine wn (zN (rg (ql (isAgg230 _) h fun v12 h=>qm h fun a6 h=>q (ql (isAgg3 _) h fun v13 h=>qc (qm h fun a7 h=>q (st2 (sizeOf3 _) hs hb h fun w5 hs hb h=>zC (ep (jHZ (.inr rfl) results230 ?_))))))))
 exact .inl ⟨rfl,h⟩
 refine cbr h ?_ ?_<;>intro h
 refine qM (by kernel_rfl) (qC 1 (q0 (.iface 274 (vi 3)) (zC (jBX (zJ rfl) (by intro c hc;cases hc) (jEJ (by kernel_rfl)) (fun ρ'=>.inr ⟨_,rfl,h⟩)))))
 refine zD (zN ⟨H,hm,hs,hb,h⟩)
 refine cbr h ?_ ?_<;>intro h
 refine qM (by kernel_rfl) (qC 1 (q0 (.iface 274 (vi 1)) (zC (jBX (zJ rfl) (by intro c hc;cases hc) (jEJ (by kernel_rfl)) (fun ρ'=>.inr ⟨_,rfl,h⟩)))))
 refine zD (zN ⟨H,hm,hs,hb,h⟩)
 refine rg (ql (isAgg3 _) h fun v14 h=>qb ?_)
 obtain ⟨hg1,h⟩|⟨hg1,h⟩:=h.br
 refine sj4 8 hg1 (q2 (vb true) (xT hg1) (ln ⟨true,None,hm,hs,hb,h⟩))
 refine qk 8 hg1 ?_
 obtain ⟨v15,hv15,h⟩:=h
 refine q4 8 hg1 (xl (isAgg3 _) hv15) (qk 8 hg1 (qk 8 hg1 (q2 (vb (decide (r1>(IntKind.u64.wrap v15)))) (xF hg1) (ln ⟨(decide (r1>(IntKind.u64.wrap v15))),None,hm,hs,hb,h⟩))))
def m_T4 (cap1 cap2:Addr) (w0:World) (K:Option (List PanicEntry)→WP):Prop :=∃v1,w0.cell? cap1=some (vp v1)∧Calls prog 241 #[(vp v1)] w0 (fun e w1=>(∃r1:Int,e=.returned (.int .u8 r1)∧zW w1 cap2∧∀w2,w2=w1.setCell cap2 (.int .u8 r1)→K none w2)∨∃ch,e=.panicked ch∧K (some ch)  w1)
theorem w_T4 (cap1 cap2 w0 K) (h:m_T4 cap1 cap2 w0 K):
  Calls prog 240 #[(vp (some cap1)),(vp (some cap2))] w0 (fun e w'=>(e=.returned (.tuple #[])∧K none  w')∨∃ch,e=.panicked ch∧K (some ch)  w'):=by
 refine uD (args:=[(vp (some cap1)),(vp (some cap2))]) func240 rfl ntmps240 (Nat.le_of_ble_eq_true rfl) (qM (by kernel_rfl) (qC 1 (ql (isAgg230 _) h fun v1 h=>zC (jEV (zJ rfl) (by intro c hc;cases hc) (xc call241) (h.mono ?_)))))
 rintro e w1 (⟨r1,rfl,h⟩ | ⟨ch,rfl,h⟩)
 rotate_left
 exact .inr ⟨ch,rfl,fun ρ'=>.inr ⟨ch,rfl,h⟩⟩
 refine .inl ⟨_,rfl,?_⟩
 refine jBM (st1 (sizeOf5 _) h fun w2 h=>zC (ep (jHZ (.inr rfl) results240 ?_)))
 exact .inl ⟨rfl,h⟩
end Go.Proofs
end
section
open Go Go.SE
namespace Go.SE
def byr (bs:List UInt8):List (List Value):=bs.map fun b=>[.int .u8 (b.toNat:Int)]
theorem qA (bs:List UInt8):(byr bs).length=bs.length:=by simp [byr]
theorem jVR (bs:List UInt8):∀q∈byr bs,q.all vY=true:=by intro q hq;obtain ⟨t,_,rfl⟩:=List.mem_map.1 hq;rfl
theorem jGZ (bs:List UInt8):∀q∈byr bs,q.length=1:=by intro q hq;obtain ⟨t,_,rfl⟩:=List.mem_map.1 hq;rfl
theorem jHW (bs:List UInt8):(byr bs).flatten=bs.map fun b=>Value.int .u8 (b.toNat:Int):=by
 induction bs with
 | nil=>rfl
 | cons b bs ih=>simp only [byr,List.map_cons,List.flatten_cons] at ih ⊢;rw [ih];rfl
theorem jLY (a b:List UInt8):byr (a++b)=byr a++byr b:=by simp [byr]
theorem jNC {S:NP} {w:World} {s:Sl} {bs:List UInt8} (h:Lst S w 1 s (byr bs)) {j:Nat} (hj:j<bs.length):∃a,At s j 1 a∧S a.block∧w.cell? a=some (.int .u8 (bs[j].toNat:Int)):=by
 obtain ⟨a,h1,h2,h3⟩:=h.at_ j (by simpa [byr] using hj);exact ⟨a,h1,h2,jCB (by simpa [byr] using h3)⟩
theorem jCT (n:Nat):IntKind.u8.wrap (n:Int)=((UInt8.ofNat n).toNat:Int):=by
 rw [UInt8.toNat_ofNat'];simp [IntKind.wrap,IntKind.bits,IntKind.signed]
theorem jUL {P:Program} {src dst e:TypeId} (hs:P.underlying src=some (.slice e)) (he:P.underlying e=some (.int .u8)) (hd:P.underlying dst=some .string) {S:NP} {w:World} {s:Sl} {bs:List UInt8} (h:Lst S w 1 s (byr bs)) :
  (convert src dst s.v).run P w=.ok (.string ⟨bs.toArray⟩) w:=by
 have hl:s.len=bs.length:=by rw [h.len,qA]
 cases ha:s.a with
 | none =>
  have hb:bs=[]:=by
   cases bs with
   | nil=>rfl
   | cons b bs=>obtain ⟨_,⟨_,_,p,hp,_⟩,_⟩:=jNC h (j:=0) (by simp);rw [ha] at hp;cases hp
  subst hb
  have:s.v=.slice none 0 s.cap:=by unfold Sl.v;rw [ha,hl];rfl
  rw [this,run_convert_bytes_string w src dst e none 0 s.cap hs he hd];rfl
 | some p =>
  have:s.v=.slice (some p) bs.length s.cap:=by unfold Sl.v;rw [ha,hl]
  rw [this]
  refine run_convert_bytes_back w src dst e p s.cap bs hs he hd fun j hj=>?_
  obtain ⟨a,⟨_,_,b,hb,rfl⟩,_,hc⟩:=jNC h hj
  rw [ha] at hb;cases hb
  simpa using hc
section
variable {P:Program} {t u e ty:TypeId} {w:World}
theorem jAV (b:ByteArray):(Builtin.firstCells 1 b.size (.string b)).run P w=.ok (b.data.map fun x=>Value.int .u8 (x.toNat:Int)) w:=by
 have hx:(Array.map (fun b:UInt8=>Value.int IntKind.u8 (b.toNat:Int)) b.data).extract 0 b.size=Array.map (fun b:UInt8=>Value.int IntKind.u8 (b.toNat:Int)) b.data:=by
  have hs:b.size=(Array.map (fun b:UInt8=>Value.int IntKind.u8 (b.toNat:Int)) b.data).size:=by rw [Array.size_map];rfl
  rw [hs,Array.extract_size]
 simp [Builtin.firstCells,hx]
theorem jBB (T:SlType P t e 1 1) (hu:P.underlying u=some .string) (s:Sl) (hc:s.len≤s.cap) (b:ByteArray) (hb:b.size=0):(Builtin.append_ #[t,u] ty #[s.v,.string b]).run P w=.ok s.v w:=by
 obtain ⟨a,n,c⟩:=s;simp only at hc;have hbd:b=⟨#[]⟩:=by cases b;simp only [ByteArray.size] at hb;congr;exact Array.eq_empty_of_size_eq_zero hb
 subst hbd;cases a <;> simp [Builtin.append_,Sl.v,run_underlying T.ht,run_underlying hu,T.sizeOf,Builtin.lenOf,Builtin.firstCells,storeCells,hc,ByteArray.size]
theorem Rws.appendStr (T:SlType P t e 1 1) (hu:P.underlying u=some .string) {s:Sl} {rs:List (List Value)} (h:Rws w e 1 s rs) (b:ByteArray) (hb:rs.length+b.size≤140737488355328) (hm:rs.length+b.size≤maxLen) :
  ∃s' w',(Builtin.append_ #[t,u] ty #[s.v,.string b]).run P w=.ok s'.v w'∧Rws w' e 1 s' (rs++byr b.data.toList)∧Ext s.blk w w'∧(∀b,s'.blk b→s.blk b∨w.heap.size≤b):=by
 obtain ⟨i,z,hi,hz,hsz,hby,hzs⟩:=T.hi
 have hbl:b.data.toList.length=b.size:=by rw [Array.length_toList];rfl
 by_cases h0:b.size=0
 ·have hc : s.len ≤ s.cap := by
   rcases h.own with ⟨rfl,_⟩ | ⟨g,cur,_,_,hc,_⟩
   ·exact Nat.le_refl _
   ·rw [h.len];exact hc
  have:b.data.toList=[]:=List.length_eq_zero_iff.1 (by omega)
  rw [this]
  exact ⟨s,w,jBB T hu s hc b h0,by simpa [byr] using h,Ext.refl w,fun b hb=>.inl hb⟩
 have hml:rs.length+b.size≤9223372036854775807:=by simp only [maxLen] at hm;omega
 have hfl:=vG h.each
 have hql:(byr b.data.toList).length=b.size:=by rw [qA,hbl]
 have heach:∀q∈rs++byr b.data.toList,q.length=1:=fun q hq=>(List.mem_append.1 hq).elim (h.each q) (jGZ _ q)
 have hfq:(b.data.map (fun x=>Value.int .u8 (x.toNat:Int))).toList=(byr b.data.toList).flatten:=by rw [jHW];simp
 have hsv:(b.data.map (fun x=>Value.int .u8 (x.toNat:Int))).size=b.size:=by rw [Array.size_map];rfl
 rcases h.own with ⟨rfl,rfl⟩ | ⟨g,cur,ha,hg,hcap,hcm,hcs,htake⟩
 ·simp only [List.length_nil,Nat.zero_add] at hb hml hm
  have hrun:=run_append_nil_string (P:=P) w t u ty e i z T.ht hu hi hz b (by omega) (by omega) (by rw [hby];omega)
  have hgr:=Rws.grown (w:=w) (e:=e) (sz:=1) (rs:=byr b.data.toList) (jGZ _) (cur:=b.data.map (fun x=>Value.int .u8 (x.toNat:Int))) (by rw [hzs]) hfq (cap:=grownCap w b.size 0 e) (by rw [hql];exact grownCap_ge w _ 0 e) (grownCap_le_maxLen w _ 0 e hm)
  rw [hql] at hgr
  exact ⟨⟨some ⟨w.heap.size,0,none⟩,b.size,grownCap w b.size 0 e⟩,_,hrun,by simpa using hgr,⟨rfl,rfl,rfl,(by first | exact Nat.le_refl _ | exact Nat.le_succ _),by simp,fun b hb _=>tO w.drew _ b hb⟩,fun b hb=>by obtain ⟨a,ha,rfl⟩:=hb;cases ha;right;exact Nat.le_refl _⟩
 ·have hs':s.v=.slice (some ⟨g,0,none⟩) rs.length s.cap:=by unfold Sl.v;rw [ha,h.len]
  by_cases hroom:rs.length+b.size≤s.cap
  ·have hfit:rs.length+(byr b.data.toList).flatten.length≤cur.size:=by rw [vG (jGZ _),hql,hcs];omega
   have h1':∀u∈(byr b.data.toList).flatten,u.oneCell'=true:=fun u hu=>by
    rw [jHW] at hu;obtain ⟨x,_,rfl⟩:=List.mem_map.1 hu;rfl
   have hst:=run_storeCells_at P g rs.length e (byr b.data.toList).flatten 0 cur w hg (by simpa using hfit) h1'
   have hrun:(Builtin.append_ #[t,u] ty #[s.v,.string b]).run P w=.ok (.slice (some ⟨g,0,none⟩) (rs.length+b.size) s.cap) (w.setRow g (cur.toList.take rs.length++(byr b.data.toList).flatten++cur.toList.drop (rs.length+(byr b.data.toList).flatten.length)).toArray):=by
    rw [hs'];simp only [Nat.add_zero] at hst;have hf:=jAV (P:=P) (w:=w) b;rw [jHW] at hst ⊢;simp [Builtin.append_,run_underlying T.ht,run_underlying hu,T.sizeOf,Builtin.lenOf,hroom,hf,Addr.add_lit,hst]
   refine ⟨⟨some ⟨g,0,none⟩,rs.length+b.size,s.cap⟩,_,hrun,⟨heach,by simp [hql],.inr ⟨g,_,rfl,setRow_heap w g cur _ e _ hg,by simpa [hql] using hroom,hcm,?_,?_⟩⟩,⟨rfl,rfl,rfl,(by first | exact Nat.le_refl _ | exact Nat.le_succ _),by simp,fun b hb hf=>setRow_other w g b _ (fun e=>hf ⟨_,ha,e.symm⟩)⟩,fun b hb=>by obtain ⟨a,ha',rfl⟩:=hb;cases ha';exact .inl ⟨_,ha,rfl⟩⟩
   ·simp only [List.size_toArray,List.length_append,List.length_take,List.length_drop,Array.length_toList]
    omega
   ·simp only [Nat.mul_one] at htake hfl ⊢
    rw [htake,List.flatten_append,List.length_append,hql]
    rw [vG (jGZ _),hql,← hfl]
    simp only [Nat.mul_one]
    rw [show rs.flatten.length+b.size=(rs.flatten++(byr b.data.toList).flatten).length by rw [List.length_append,vG (jGZ _),hql];omega]
    exact List.take_left
  ·have holds : ∀ j u, rs.flatten[j]? = some u → w.cell? ((⟨g, 0, none⟩ : Addr).add j) = some u := fun j u hu => by
    have hadd:(⟨g,0,none⟩:Addr).add j=⟨g,j,none⟩:=by unfold Addr.add;split <;> simp_all
    rw [hadd,cell_of_row w g j cur e (0,0) hg];rw [← htake,List.getElem?_take] at hu;split at hu
    ·simpa using hu
    ·cases hu
   have hfit:=growslice_fits (need:=rs.length+b.size) (old:=s.cap) (bytes:=1) (by omega) (by omega)
   have hgr:=Rws.grown (w:=w) (e:=e) (sz:=1) (rs:=rs++byr b.data.toList) heach (cur:=rs.flatten.toArray++b.data.map (fun x=>Value.int .u8 (x.toNat:Int))) (by rw [hzs]) (by simp [← hfq]) (cap:=grownCap w (rs.length+b.size) s.cap e) (by rw [List.length_append,hql];exact grownCap_ge w _ s.cap e) (grownCap_le_maxLen w _ _ e hm)
   have hrun:(Builtin.append_ #[t,u] ty #[s.v,.string b]).run P w=.ok (.slice (some ⟨w.heap.size,0,none⟩) (rs.length+b.size) (grownCap w (rs.length+b.size) s.cap e)) (w.drew.alloc (.cells (rs.flatten.toArray++b.data.map (fun x=>Value.int .u8 (x.toNat:Int))++Builtin.zeroCells z.cells (grownCap w (rs.length+b.size) s.cap e - (rs.length+b.size))) e)):=by
    rw [hs'];have hn:¬ (rs.length+b.size≤s.cap):=by omega
    have h63':¬ (9223372036854775807<((rs.length:Int)+(b.size:Int))):=by omega
    have h48':¬ (281474976710656<Builtin.nextslicecap (rs.length+b.size) s.cap*i.bytes):=by rw [hby];omega
    have hfo:=run_firstCells_some (P:=P) w.drew i.size rs.length ⟨g,0,none⟩ rs.length s.cap rs.flatten (by rw [hsz];exact hfl) (by simpa using holds);have hf:=jAV (P:=P) (w:=w.drew) b;rw [hsz] at hfo;simp [Builtin.append_,run_underlying T.ht,run_underlying hu,sizeOf,typeInfo,zeroValue,hi,hz,Builtin.lenOf,hn,h63',h48',Question.forced,hf,hfo,newRow,grownCap,hsz]
    try (congr 2;apply Array.ext';simp [List.append_assoc])
   rw [List.length_append,hql] at hgr
   exact ⟨⟨some ⟨w.heap.size,0,none⟩,rs.length+b.size,grownCap w (rs.length+b.size) s.cap e⟩,_,hrun,hgr,⟨rfl,rfl,rfl,(by first | exact Nat.le_refl _ | exact Nat.le_succ _),by simp,fun b hb _=>tO w.drew _ b hb⟩,fun b hb=>by obtain ⟨a,ha,rfl⟩:=hb;cases ha;right;exact Nat.le_refl _⟩
end
section
variable {P:Program} {w:World} {t:TypeId}
set_option maxRecDepth 4000 in
theorem or128:∀m:Fin 256,m.val ||| 128=m.val % 128+128:=by decide
theorem jPM (n:Nat):(Go.binOp .or t (.int .u8 (IntKind.u8.wrap (n:Int))) (.int .u8 128)).run P w=.ok (.int .u8 ((UInt8.ofNat (n % 128+128)).toNat:Int)) w:=by
 have h:IntKind.u8.wrap ((BitVec.ofInt IntKind.u8.bits (IntKind.u8.wrap (n:Int)) ||| BitVec.ofInt IntKind.u8.bits 128).toNat:Int)=((UInt8.ofNat (n % 128+128)).toNat:Int):=by
  have e1:(BitVec.ofInt IntKind.u8.bits (IntKind.u8.wrap (n:Int))).toNat=n % 256:=by
   rw [jCT,UInt8.toNat_ofNat',BitVec.toNat_ofInt];simp [IntKind.bits];omega
  have e2:(BitVec.ofInt IntKind.u8.bits 128).toNat=128:=by decide
  rw [BitVec.toNat_or,e1,e2,or128 ⟨n % 256,Nat.mod_lt _ (by omega)⟩,jCT];simp only [UInt8.toNat_ofNat'];omega
 show ((pure (Value.int .u8 _):Sem Value)).run P w=_;rw [h];rfl
theorem jRX (n:Nat):(Go.binOp .shr t (.int .u64 (n:Int)) (.int .u64 7)).run P w=.ok (.int .u64 ((n / 128:Nat):Int)) w:=by
 simp [Go.binOp,go_sem,IntKind.bits]
theorem jNN (c:Nat) (h:c<256):(Go.binOp .and t (.int .u8 (c:Int)) (.int .u8 127)).run P w=.ok (.int .u8 ((c % 128:Nat):Int)) w:=by
 have hr:IntKind.u8.wrap ((BitVec.ofInt IntKind.u8.bits (c:Int) &&& BitVec.ofInt IntKind.u8.bits 127).toNat:Int)=((c % 128:Nat):Int):=by
  have e1:(BitVec.ofInt IntKind.u8.bits (c:Int)).toNat=c:=by
   rw [BitVec.toNat_ofInt];simp [IntKind.bits];omega
  have e2:(BitVec.ofInt IntKind.u8.bits 127).toNat=2 ^ 7 - 1:=by decide
  rw [BitVec.toNat_and,e1,e2,Nat.and_two_pow_sub_one_eq_mod,jCT];simp only [UInt8.toNat_ofNat'];omega
 show ((pure (Value.int .u8 _):Sem Value)).run P w=_;rw [hr];rfl
theorem qO {n:Nat} (h:n<18446744073709551616):IntKind.u64.wrap (n:Int)=(n:Int):=by
 simp [IntKind.wrap,IntKind.bits,IntKind.signed];omega
theorem jUM (x k:Nat) (hk:k<64) (h:x*2 ^ k<18446744073709551616):(Go.binOp .shl t (.int .u64 (x:Int)) (.int .i64 (k:Int))).run P w=.ok (.int .u64 ((x*2 ^ k:Nat):Int)) w:=by
 have hr:IntKind.u64.wrap ((x:Int)*2 ^ min (k:Int).toNat IntKind.u64.bits)=((x*2 ^ k:Nat):Int):=by
  have:min (k:Int).toNat IntKind.u64.bits=k:=by simp [IntKind.bits];omega
  rw [this,← qO h];simp
 have h0:¬ ((k:Int)<0):=by omega
 show (Op.shift .shl .u64 (x:Int) .i64 (k:Int)).run P w=_;unfold Op.shift;rw [if_neg h0];show ((pure (Value.int .u64 (IntKind.u64.wrap ((x:Int)*2 ^ min (k:Int).toNat IntKind.u64.bits))):Sem Value)).run P w=_;rw [hr];rfl
theorem jSA (x y:Nat) (hx:x<18446744073709551616) (hy:y<18446744073709551616):(Go.binOp .or t (.int .u64 (x:Int)) (.int .u64 (y:Int))).run P w=.ok (.int .u64 ((x ||| y:Nat):Int)) w:=by
 have hr:IntKind.u64.wrap ((BitVec.ofInt IntKind.u64.bits (x:Int) ||| BitVec.ofInt IntKind.u64.bits (y:Int)).toNat:Int)=((x ||| y:Nat):Int):=by
  have e (z:Nat) (hz:z<18446744073709551616):(BitVec.ofInt IntKind.u64.bits (z:Int)).toNat=z:=by
   rw [BitVec.toNat_ofInt];simp [IntKind.bits];omega
  rw [BitVec.toNat_or,e x hx,e y hy,qO (Nat.or_lt_two_pow (n:=64) hx hy)]
 show ((pure (Value.int .u64 _):Sem Value)).run P w=_;rw [hr];rfl
theorem jTP {x y k:Nat} (h:x<2 ^ k):x ||| (y*2 ^ k)=x+y*2 ^ k:=by
 have:=Nat.shiftLeft_add_eq_or_of_lt h y;rw [Nat.shiftLeft_eq] at this;rw [Nat.or_comm,← this,Nat.add_comm]
end
theorem Lst.sub {P:Program} {t e:TypeId} {sz bytes:Nat} {S:NP} (T:SlType P t e sz bytes) {w:World} {s:Sl} {rs:List (List Value)} (h:Lst S w sz s rs) (hcap:s.len≤s.cap) {k:IntKind} {lo n:Nat} (hn:lo+n≤rs.length) :
  ∃s':Sl,(Instr.sliceAt t s.v (some (.int k (lo:Int))) (some (.int k ((lo+n:Nat):Int))) none).run P w=.ok s'.v w∧Lst S w sz s' ((rs.drop lo).take n):=by
 have h1:((lo+n:Nat):Int)≤(s.cap:Int):=by rw [h.len] at hcap;omega
 have h2:(lo:Int)≤((lo+n:Nat):Int):=by omega
 refine ⟨⟨if s.cap=lo then s.a else s.a.map (·.add (lo*sz)),n,s.cap - lo⟩,?_,⟨by simp;omega,fun i hi=>?_⟩⟩
 ·simp [Instr.sliceAt,Instr.slice,Sl.v,run_underlying T.ht,Instr.sliceBounds,Instr.sliceBound,asIntOf,T.sizeOf]
  rw [if_pos (by omega),if_pos (by omega),show ((lo:Int)+(n:Int)).toNat - lo=n by omega]
 ·have hi':lo+i<rs.length:=by simp at hi;omega
  obtain ⟨a,⟨_,hlt,p,hp,rfl⟩,hS,hr⟩:=h.at_ (lo+i) hi'
  refine ⟨_,⟨by omega,by simp at hi ⊢;omega,p.add (lo*sz),?_,rfl⟩,?_,?_⟩
  ·rw [if_neg (by rw [h.len] at hcap;omega),hp];rfl
  ·simpa [zU] using hS
  ·have : (p.add (lo * sz)).add ((i : Int).toNat * sz) = p.add (((lo + i : Nat) : Int).toNat * sz) := by
    rw [uV,Int.toNat_natCast,Int.toNat_natCast,Nat.add_mul]
   rw [this,List.getElem_take,List.getElem_drop];exact hr
end Go.SE
end
section
open Go Go.SE
namespace Go.Proofs
attribute [local irreducible] wpL wpX opE wpE Calls
end Go.Proofs
end
section
open Go Go.SE
namespace Go.Proofs
open Tryz
attribute [local irreducible] Calls
def tmr (ts:List Int):List (List Value):=ts.map fun t=>[.int .i64 t]
theorem tR (ts:List Int):(tmr ts).length=ts.length:=by simp [tmr]
theorem slT_tm:SlType prog 137 23 1 8:=by
 refine ⟨underlying137,⟨t23,_,by kernel_rfl,(by kernel_rfl:t23.zero=some (.int .i64 0)),by kernel_rfl,by kernel_rfl,rfl⟩,by omega⟩
structure RetO (w:World) (e:TypeId) (sz:Nat) (rs:List (List Value)) (s:Sl) (w':World):Prop where
 rows:Rws w' e sz s rs
 own:∀b,s.blk b→w.heap.size≤b
 pure:Pure w w'
theorem RetO.kept {w:World} {H:NP} {e:TypeId} {sz:Nat} {rs:List (List Value)} {s:Sl} {w':World} (h:RetO w e sz rs s w'):Kept H w w':=h.pure.keptP
theorem jPF {S:NP} {w:World} {s:Sl} {ts:List Int} (h:Lst S w 1 s (tmr ts)) {j:Nat} (hj:j<ts.length):∃a,At s j 1 a∧S a.block∧w.cell? a=some (.int .i64 ts[j]):=by
 obtain ⟨a,h1,h2,h3⟩:=h.at_ j (by simpa [tmr] using hj);exact ⟨a,h1,h2,jCB (by simpa [tmr] using h3)⟩
theorem jCX {P:Program} (w:World) (d:Nat) {t e:TypeId} (a:Option Addr) (l c:Nat) (h:P.underlying t=some (.slice e)):(Op.equalIn (d+1) t (.slice a l c) (.slice none 0 0)).run P w=.ok a.isNone w:=by
 cases a <;> simp [Op.equalIn,run_underlying h]
theorem jHI {P:Program} (w:World) {t e:TypeId} (a:Option Addr) (l c:Nat) (h:P.underlying t=some (.slice e)):(Go.binOp .eql t (.slice a l c) (.slice none 0 0)).run P w=.ok (.bool a.isNone) w:=by
 simp only [Go.binOp];simp [Op.equal,Op.maxDepth,jCX w 9999 a l c h]
end Go.Proofs
end
section
open Nat
namespace Go.Proofs
def vS (n:Nat):List UInt8:=if h:n<128 then [UInt8.ofNat n] else UInt8.ofNat (n % 128+128) :: vS (n / 128)
theorem tH {n:Nat} (h:n<128):vS n=[UInt8.ofNat n]:=by rw [vS,dif_pos h]
theorem jBO {n:Nat} (h:128≤n):vS n=UInt8.ofNat (n % 128+128) :: vS (n / 128):=by rw [vS,dif_neg (by omega)]
theorem jNH (k:Nat):∀n,n<128 ^ (k+1)→(vS n).length≤k+1:=by
 induction k with
 | zero=>intro n h;rw [tH (by simpa using h)];simp
 | succ k ih =>
  intro n h
  by_cases h1:n<128
  ·rw [tH h1];simp
  ·rw [jBO (by omega),List.length_cons]
   have:=ih (n / 128) (by rw [Nat.div_lt_iff_lt_mul (by omega)];rw [Nat.pow_succ] at h;exact h)
   omega
theorem yF {n:Nat} (h:n<18446744073709551616):(vS n).length≤10:=jNH 9 n (by omega)
def yG (s:ByteArray):List UInt8:=vS s.size++s.data.toList
def xK:Nat→Nat→List UInt8→Except Nat (Nat×Nat)
 | _,_,[]=>.error 3
 | i,n,c :: l =>
  if i=9∧1<c.toNat then .error 11
  else if c.toNat<128 then (if c.toNat=0∧0<i then .error 10 else .ok (n+c.toNat*128 ^ i,i+1))
  else xK (i+1) (n+c.toNat % 128*128 ^ i) l
theorem tM (i n:Nat) (c:UInt8) (l:List UInt8):xK i n (c :: l)=(if i=9∧1<c.toNat then .error 11
  else if c.toNat<128 then (if c.toNat=0∧0<i then .error 10 else .ok (n+c.toNat*128 ^ i,i+1))
  else xK (i+1) (n+c.toNat % 128*128 ^ i) l):=rfl
structure Rd where
 at_:Nat
 err:Nat
 spot:Nat
def qN (bs:List UInt8) (r:Rd):Nat×Rd :=
 if r.err=0 then match xK 0 0 (bs.drop r.at_) with
  | .ok (n,k)=>(n,⟨r.at_+k,0,r.spot⟩)
  | .error x=>(0,⟨r.at_,x,r.at_⟩)
 else (0,r)
def uF (bs:List UInt8) (r:Rd):Nat×Rd :=
 if r.err=0 then (if h:r.at_<bs.length then (bs[r.at_].toNat,⟨r.at_+1,0,r.spot⟩) else (0,⟨r.at_,3,r.at_⟩))
 else (0,r)
def qR (bs:List UInt8) (most:Nat) (r:Rd):List UInt8×Rd :=
 if r.err=0 then match xK 0 0 (bs.drop r.at_) with
  | .ok (n,k)=>if most<n then ([],⟨r.at_,1,r.at_⟩) else if bs.length<r.at_+k+n then ([],⟨r.at_,3,r.at_⟩) else ((bs.drop (r.at_+k)).take n,⟨r.at_+k+n,0,r.spot⟩)
  | .error x=>([],⟨r.at_,x,r.at_⟩)
 else ([],r)
end Go.Proofs
end
section
open Go Go.SE
namespace Go.Proofs
open Tryz
attribute [local irreducible] Calls
theorem jEY:SlType prog 54 5 1 1:=by
 refine ⟨underlying54,⟨t5,_,by kernel_rfl,(by kernel_rfl:t5.zero=some (.int .u8 0)),by kernel_rfl,by kernel_rfl,rfl⟩,by omega⟩
theorem jKD {S:NP} (s:Sl) (bs:List UInt8) (w0:World) (hs:Lst S w0 1 s (byr bs)) (hz:s.a=none→s=Sl.nil) (hn:bs.length≤100000000000) :
  Calls prog 211 #[s.v] w0 (fun e w'=>∃r:Sl,e=.returned r.v∧RetO w0 5 1 (byr bs) r w'):=by
 refine w_N3 _ w0 (fun r w'=>RetO w0 5 1 (byr bs) r w') ?_
 unfold m_N3
 refine ⟨s.a.isNone,?_,fun h=>?_,fun h=>?_⟩
 ·exact jHI w0 s.a s.len s.cap underlying54
 ·have hs0:=hz (Option.isNone_iff_eq_none.1 h)
  subst hs0
  have:bs=[]:=by have:=hs.len;rw [qA] at this;exact List.length_eq_zero_iff.1 this.symm
  subst this
  exact ⟨Rws.nil _ _ _,fun b hb=>(by obtain ⟨a,ha,_⟩:=hb;cases ha),Ext.refl _⟩
 ·intro p1 w1 h1
  have E1:Pure w0 w1:=Ext.new h1
  obtain ⟨s2,w2,hr,hR,hE,hb⟩:=(Rws.empty (sz:=1) h1).appendL (P:=prog) (ty:=54) jEY (hs.pure E1) (jGZ _) (jVR _) (by rw [qA];simp;omega) (by rw [qA];simp [maxLen];omega)
  have hp:=h1.at_size
  have hp':∀b,(Sl.mk (some p1) 0 0).blk b→w0.heap.size≤b:=fun b hb=>(by obtain ⟨a,ha,e⟩:=hb;cases ha;omega)
  exact ⟨s2,w2,hr,by simpa using hR,fun b h=>(hb b h).elim (hp' b) (fun h=>by have:=E1.size;omega),E1.trans' hE (fun i hi h=>by have:=hp' i h;omega)⟩
theorem RetO.put {w0 w w1:World} {s:Sl} {bs:List UInt8} {x:UInt8} {p:Addr} (h:RetO w0 5 1 (byr bs) s w) (hn:New w (.cells #[.int .u8 (x.toNat:Int)] 5) p w1) (hl:bs.length≤100000000000) :
  ∃s' w',(Builtin.append_ #[54,54] 54 #[s.v,(Sl.mk (some p) 1 1).v]).run prog w1=.ok s'.v w'∧RetO w0 5 1 (byr (bs++[x])) s' w':=by
 have E1:Pure w w1:=Ext.new hn
 have hrow:Row w1 p [.int .u8 (x.toNat:Int)]:=(Box.of_newA hn).row
 obtain ⟨s',w',hr,hR,hE,hb⟩:=(h.rows.pure E1).append (ty:=54) (c:=1) jEY hrow rfl rfl (by rw [qA];omega) (by rw [qA];simp [maxLen];omega)
 have h1:=(h.pure.trans E1)
 exact ⟨s',w',hr,by rw [jLY];exact hR,fun b hb'=>(hb b hb').elim (h.own b) (fun h2=>by have:=h1.size;omega),h1.trans' hE (fun i hi h2=>by have:=h.own i h2;omega)⟩
theorem RetO.text {w0 w:World} {s:Sl} {bs:List UInt8} {x:ByteArray} (h:RetO w0 5 1 (byr (bs++vS x.size)) s w) (hn:bs.length≤10000000000) (hN:x.size≤10000000000) :
  ∃s' w',(Builtin.append_ #[54,9] 54 #[s.v,.string x]).run prog w=.ok s'.v w'∧RetO w0 5 1 (byr (bs++yG x)) s' w':=by
 have hv:=yF (n:=x.size) (by omega)
 obtain ⟨s',w',hr,hR,hE,hb⟩:=h.rows.appendStr (ty:=54) jEY underlying9 x (by rw [qA,List.length_append];omega) (by rw [qA,List.length_append];simp [maxLen];omega)
 refine ⟨s',w',hr,?_,fun b hb'=>(hb b hb').elim (h.own b) (fun h2=>by have:=h.pure.size;omega),h.pure.trans' hE (fun i hi h2=>by have:=h.own i h2;omega)⟩
 rw [yG,← List.append_assoc,jLY];exact hR
theorem jAP {S:NP} (s:Sl) (bs:List UInt8) (n:Nat) (w0:World) (hs:Lst S w0 1 s (byr bs)) (hz:s.a=none→s=Sl.nil) (hn:bs.length≤10000000000) (hN:n<18446744073709551616) :
  Calls prog 183 #[s.v,.int .u64 (n:Int)] w0 (fun e w'=>∃r:Sl,e=.returned r.v∧RetO w0 5 1 (byr (bs++vS n)) r w'):=by
 refine w_T1 _ _ w0 (fun r w'=>RetO w0 5 1 (byr (bs++vS n)) r w') ?_
 unfold m_T1
 refine (jKD s bs w0 hs hz (by omega)).mono ?_
 rintro _ w1 ⟨r1,rfl,h1⟩
 refine ⟨r1,rfl,fun b m w=>∃k:Nat,∃xs:List UInt8,m=(k:Int)∧k<18446744073709551616∧xs++vS k=bs++vS n∧RetO w0 5 1 (byr xs) b w,fun _ m _=>m.toNat,⟨n,bs,rfl,hN,rfl,h1⟩,?_⟩
 rintro b _ w ⟨k,xs,rfl,hk,hx,hR⟩
 have hlen:xs.length≤10000000010:=by
  have:=congrArg List.length hx;have:=yF hN;simp only [List.length_append] at *;omega
 unfold m_T1_l1
 refine ⟨fun h=>?_,fun h=>?_⟩
 ·have h:=of_decide_eq_true h
  refine ⟨_,jPM k,fun p2 w2 h2=>?_⟩
  obtain ⟨s',w',hr,hR'⟩:=hR.put h2 (by omega)
  refine ⟨s',w',hr,_,jRX k,⟨k / 128,xs++[UInt8.ofNat (k % 128+128)],rfl,by omega,?_,hR'⟩,by show (((k / 128:Nat):Int)).toNat<((k:Int)).toNat;omega⟩
  rw [← hx,jBO (n:=k) (by omega)];simp
 ·have h:=of_decide_eq_false h
  intro p2 w2 h2
  rw [jCT] at h2
  obtain ⟨s',w',hr,hR'⟩:=hR.put h2 (by omega)
  refine ⟨s',w',hr,?_⟩
  rw [← hx,tH (n:=k) (by omega)];exact hR'
theorem jQY {S:NP} (s:Sl) (bs:List UInt8) (x:ByteArray) (w0:World) (hs:Lst S w0 1 s (byr bs)) (hz:s.a=none→s=Sl.nil) (hn:bs.length≤10000000000) (hN:x.size≤10000000000) :
  Calls prog 191 #[s.v,.string x] w0 (fun e w'=>∃r:Sl,e=.returned r.v∧RetO w0 5 1 (byr (bs++yG x)) r w'):=by
 refine w_K4 _ _ w0 (fun r w'=>RetO w0 5 1 (byr (bs++yG x)) r w') ?_
 unfold m_K4
 rw [show IntKind.u64.wrap (x.size:Int)=(x.size:Int) by simp [IntKind.wrap,IntKind.bits,IntKind.signed];omega]
 refine (jAP s bs x.size w0 hs hz hn (by omega)).mono ?_
 rintro _ w1 ⟨r1,rfl,h1⟩
 exact ⟨r1,rfl,h1.text hn hN⟩
end Go.Proofs
end
section
namespace Go.SE
section
variable {P:Program} {n:Nat} {ρ:Env} {w:World} {ds:List Deferred} {Q:Exit→Act→World→Prop} {a:Act}
theorem jEN {c1 c2:Code} (ha:Rep ds n ρ a)
  (h:wpE (x:=⟨none,ds⟩) P n c1 (fun e ρ' w'=>match e with | .normal=>∀a',Rep ds n ρ' a'→c2.wp P Q a' w' | .panic ch=>∀a',Rep ds n ρ' a'→Q (.panic ch) a' w' | _=>False) ρ w):(Code.seq c1 c2).wp P Q a w:=by
 refine wp_seq (wpIn_wide.1 (wpIn_mono (h a ha) ?_))
 rintro e a' w' ⟨ρ',⟨hr,hq⟩ | ⟨rfl,_,_,D,hr,hD,hq⟩⟩
 ·cases e <;> first | exact hq.elim | exact hq _ hr
 ·exact hq.elim
theorem jLZ {c:Code} (ha:Rep ds n ρ a)
  (h:wpE (x:=⟨none,ds⟩) P n c (fun e ρ' w'=>match e with | .normal=>∀a',Rep ds n ρ' a'→Q .normal a' w' | .panic ch=>∀a',Rep ds n ρ' a'→Q (.panic ch) a' w' | _=>False) ρ w):c.wp P Q a w:=by
 refine wpIn_wide.1 (wpIn_mono (h a ha) ?_)
 rintro e a' w' ⟨ρ',⟨hr,hq⟩ | ⟨rfl,_,_,D,hr,hD,hq⟩⟩
 ·cases e <;> first | exact hq.elim | exact hq _ hr
 ·exact hq.elim
theorem jOV {id t:Nat} {f:FuncId} {caps:Array Operand} {ty ty':TypeId} {pos pos':String} {aft aft':Array Edge} {c2:Code} (ha:Rep ds n ρ a) (ht:t<n)
  (h:∀a',Rep (⟨.fn (.func f) (caps.map (evE ρ)),#[]⟩ :: ds) n (put ρ (some t) (.func (.func f) #[] (caps.map (evE ρ)))) a'→c2.wp P Q a' w) :
  (Code.seq (.region id #[⟨some t,.makeFunc (.func f) #[] caps,ty,pos,aft,none⟩,⟨none,.defer ⟨.value (.tmp t),#[],#[]⟩,ty',pos',aft',none⟩] false) c2).wp P Q a w:=by
 have h1:Rep ds n (put ρ (some t) (.func (.func f) #[] (caps.map (evE ρ)))) (a.put (some t) (.func (.func f) #[] (caps.map (evE ρ)))):=ha.put (fun k e=>by cases e;exact ht) _
 have h2:=h ({ (a.put (some t) (.func (.func f) #[] (caps.map (evE ρ)))) with defers:=⟨.fn (.func f) (caps.map (evE ρ)),#[]⟩ :: ds }.put none undef) ⟨rfl,h1.size,h1.get⟩
 refine wp_seq ((wpIn_wide (n:=0)).1 (wpIn_region_lit (l:=[_,_]) ?_))
 unfold wpListIn
 rw [if_pos (by simp [Region.wanted])]
 refine jDG (ro:=none) ⟨by simp,?_⟩
 rw [ha.eval]
 simp only [execOp,Instr.makeFunc]
 show wpListIn _ 0 P _ _ _ _ _
 unfold wpListIn
 rw [if_pos (by simp [Region.wanted])]
 refine ⟨fun f _=>trivial,?_⟩
 have hev:(a.put (some t) (.func (.func f) #[] (caps.map (evE ρ)))).eval (.tmp t)=.func (.func f) #[] (caps.map (evE ρ)):=by
  rw [h1.eval];simp [evE,put,upd]
 have hd:=h1.defers
 simp [Oper.semAt,Fence.wide,execOp,resolve,hev,Deferred.ofValue,Oper.uponIn,wpListIn,Exit.then,hd]
 exact h2
theorem jJS {f:FuncId} {fn:Func} {c:Code} {args:List Value} {R:Ending→World→Prop} (hf:P.funcs[f]?=some fn) (hb:fn.body=some c) (hn:fn.ntmps=n) (hl:args.length≤n)
  (h:∀a,Rep [] n (jHX args) a→c.wp P (bodyPostD P fn R) a w):Calls P f args.toArray w R:=by
 subst hn;exact calls_of_wp_defers hf hb (h _ (jEE args hl))
inductive Recov:FrameMode→Value→FrameMode→Prop
 | idle:Recov .returning .nilIface .returning
 | hit (v:Value) (older:List PanicEntry):Recov (.panicking ({ v:=v,recovered:=false } :: older)) v (.panicking ({ v:=v,recovered:=true } :: older))
def bodyEN (P:Program) (fn:Func) (n:Nat) (R:Ending→World→Prop):Exit→Env→World→Prop
 | .normal,ρ,w=>∃v,(∀ds a,Rep ds n ρ a→(results fn a.tmps).run P w=.ok v w)∧R (.returned v) w
 | .panic ch,_,w=>R (.panicked ch) w
 | _,_,_=>False
theorem jAX {id t t2:Nat} {f:FuncId} {fn:Func} {c:Code} {args:List Value} {v:Value} {u u':FrameMode} {R:Ending→World→Prop} {ty ty':TypeId} {pos pos':String} {aft aft':Array Edge}
  (hu:Recov u v u') (hf:P.funcs[f]?=some fn)
  (hb:fn.body=some (Code.seq (.region id #[⟨some t,.call ⟨.builtin .recover,#[],#[]⟩,ty,pos,aft,none⟩,⟨some t2,.assign (.tmp t),ty',pos',aft',none⟩] false) c))
  (hn:fn.ntmps=n) (hl:args.length≤n) (ht:t<n) (ht2:t2<n)
  (h:wpE (x:=⟨none,[]⟩) P n c (bodyEN P fn n R) (put (put (jHX args) (some t) v) (some t2) v) w) :
  CallsD P f args.toArray u w (fun e u1 w'=>u1=u'∧R e w'):=by
 subst hn
 refine callsD_of_wpS hf hb fun c₀ cs hm=>?_
 apply wpS_seq
 apply wpS_region
 have hr:=jEE args hl
 have h1:Rep [] fn.ntmps (put (jHX args) (some t) v) _:=hr.put (d:=some t) (fun k e=>by cases e;exact ht) v
 have h2:Rep [] fn.ntmps (put (put (jHX args) (some t) v) (some t2) v) _:=h1.put (d:=some t2) (fun k e=>by cases e;exact ht2) v
 have hv:((Act.mk (args.toArray++Array.replicate (fn.ntmps - args.toArray.size) undef) []).put (some t) v).eval (.tmp t)=v:=by
  rw [h1.eval];simp [evE,put,upd]
 have key:∀cs',cs'={ c₀ with mode:=u' } :: cs→c.wpS P (bodyPostS P fn c₀ cs fun e u1 w'=>u1=u'∧R e w') ((((Act.mk (args.toArray++Array.replicate (fn.ntmps - args.toArray.size) undef) []).put (some t) v)).put (some t2) v) cs' w:=by
  rintro cs' rfl;refine wpS_of_wp (jLZ h2 (jEB ?_ h));intro e ρ' w' hq;cases e with
  | normal =>
   intro a' ha'
   obtain ⟨x,hx,hR⟩:=hq
   exact ⟨ha'.defers,u',rfl,x,hx _ a' ha',rfl,hR⟩
  | panic ch =>
   intro a' ha'
   exact ⟨ha'.defers,u',rfl,rfl,hq⟩
  | _=>exact hq.elim
 have h0:(execOp (Act.mk (args.toArray++Array.replicate (fn.ntmps - args.toArray.size) undef) []).eval ⟨some t,.call ⟨.builtin .recover,#[],#[]⟩,ty,pos,aft,none⟩).run P w=.ok .recover w:=by
  simp [execOp,resolve,invoke,builtin]
 show wpOpsS P _ _ [0,1] _ _ _
 cases hu with
 | idle =>
  have hrd:recoverD (c₀ :: cs)=none:=by simp [recoverD,hm]
  simp only [wpOpsS,List.getElem?_toArray,List.getElem?_cons_zero,List.getElem?_cons_succ]
  rw [if_pos (by simp [Region.wanted]),h0]
  simp only [hrd]
  rw [if_pos (by simp [Region.wanted])]
  simp only [execOp,hv,Oper.upon]
  exact key _ (by cases c₀;simp_all)
 | hit v older =>
  have hrd:recoverD (c₀ :: cs)=some (v,{ c₀ with mode:=.panicking ({ v:=v,recovered:=true } :: older) } :: cs):=by simp [recoverD,hm]
  simp only [wpOpsS,List.getElem?_toArray,List.getElem?_cons_zero,List.getElem?_cons_succ]
  rw [if_pos (by simp [Region.wanted]),h0]
  simp only [hrd]
  rw [if_pos (by simp [Region.wanted])]
  simp only [execOp,hv,Oper.upon]
  exact key _ rfl
end
section
variable {P:Program} {x:Cx} {n:Nat} {Q:Exit→Env→World→Prop} {ρ:Env} {w:World}
end
end Go.SE
end
section
open Go Go.SE
namespace Go.Proofs
open Tryz
attribute [local irreducible] Calls CallsD
theorem jND {P:Program} {ε:Operand→Value} {w:World} {d:Option Tmp} {ty:TypeId} {pos:String} {aft:Array Edge} {g:Option (Nat×Bool)} {x:Operand} {X T:TypeId} {v:Value} {td:TypeDesc} (hx:ε x=.iface T v) (ht:P.underlying T=some td) (hi:∀m,td≠.interface m) :
  (execOp ε ⟨d,.typeAssert x X T true,ty,pos,aft,g⟩).run P w=.ok (.value (.tuple #[v,.bool true])) w:=by
 simp only [execOp,hx]
 have:(Instr.typeAssert (.iface T v) X T true).run P w=.ok (.tuple #[v,.bool true]) w:=by
  unfold Instr.typeAssert;simp only [Sem.run_bind,run_underlying ht,Result.andThen];cases td <;> first | exact absurd rfl (hi _) | simp
 simp [this]
set_option maxRecDepth 100000 in
theorem jQX (pf pr:Addr) (w:World):CallsD prog 245 #[.pointer (some pf),.pointer (some pr)] .returning w (fun e u' w'=>u'=.returning∧(e=.returned (.tuple #[])∧w'=w)):=by
 refine jAX (args:=[.pointer (some pf),.pointer (some pr)]) (R:=fun e w'=>e=.returned (.tuple #[])∧w'=w) .idle func245 rfl ntmps245 (Nat.le_of_ble_eq_true rfl) (by decide) (by decide) ?_;refine zA ?_;refine rg ?_;refine q0 .nilIface ?_;refine q0 (.bool false) ?_;refine zC ?_;refine zN ?_;refine vJ (t:=false) (by kernel_rfl) (fun hc1=>by cases hc1) (fun hc1=>?_);refine zD ?_;exact ⟨.tuple #[],fun ds a ha=>by rw [results_none results245],rfl,rfl⟩
set_option maxRecDepth 100000 in
theorem jTG (pf pr r:Addr) (from_ e:Int) (older:List PanicEntry) (w:World) (hf:w.cell? pf=some (.int .i64 from_)) (hr:w.cell? pr=some (.pointer (some r))) (h1:zW w (r.add 1)) (h2:zW w (r.add 2)) (h3:zW w (r.add 3)) :
  CallsD prog 245 #[.pointer (some pf),.pointer (some pr)] (.panicking ({ v:=.iface 274 (.int .i64 e),recovered:=false } :: older)) w (fun e' u' w'=>u'=.panicking ({ v:=.iface 274 (.int .i64 e),recovered:=true } :: older) ∧
   (e'=.returned (.tuple #[])∧w'=((w.setCell (r.add 1) (.int .i64 from_)).setCell (r.add 2) (.int .i64 e)).setCell (r.add 3) (.int .i64 from_))):=by
 refine jAX (args:=[.pointer (some pf),.pointer (some pr)]) (R:=fun e' w'=>e'=.returned (.tuple #[])∧w'=((w.setCell (r.add 1) (.int .i64 from_)).setCell (r.add 2) (.int .i64 e)).setCell (r.add 3) (.int .i64 from_)) (.hit _ older) func245 rfl ntmps245 (Nat.le_of_ble_eq_true rfl) (by decide) (by decide) ?_
 refine zA ?_
 refine rg ?_
 refine q0 (.iface 274 (.int .i64 e)) ?_
 refine q0 (.bool true) ?_
 refine zC ?_
 refine zN ?_
 refine vJ (t:=true) (by kernel_rfl) (fun hc1=>?_) (fun hc1=>by cases hc1)
 refine zA ?_
 refine rg ?_
 refine q0 (.iface 274 (.int .i64 e)) ?_
 refine q2 (.tuple #[.int .i64 e,.bool true]) (jND (by kernel_rfl) underlying274 (by intro m;simp)) ?_
 refine q0 (.tuple #[.int .i64 e,.bool true]) ?_
 refine q0 (.int .i64 e) ?_
 refine q0 (.bool true) ?_
 refine q0 (.int .i64 e) ?_
 refine q0 (.bool true) ?_
 refine zC ?_
 refine zN ?_
 refine zA ?_
 refine zA ?_
 refine rg ?_
 refine q0 (.bool true) ?_
 refine q0 (.bool false) ?_
 refine zC ?_
 refine zN ?_
 refine vJ (t:=false) (by kernel_rfl) (fun hc1=>by cases hc1) (fun hc1=>?_)
 refine zD ?_
 refine zN ?_
 refine rg ?_
 refine q2 (.pointer (some r)) (xE (a:=pr) (by kernel_rfl) (isAgg230 _) hr) ?_
 refine q2 (.pointer (some r)) (xE (a:=pr) (by kernel_rfl) (isAgg230 _) hr) ?_
 refine q2 (.pointer (some r)) (xE (a:=pr) (by kernel_rfl) (isAgg230 _) hr) ?_
 refine q2 (.int .i64 from_) (xE (a:=pf) (by kernel_rfl) (isAgg3 _) hf) ?_
 refine q0 (.int .i64 e) ?_
 refine q2 (.int .i64 from_) (xE (a:=pf) (by kernel_rfl) (isAgg3 _) hf) ?_
 refine q0 (.pointer (some r)) ?_
 refine q0 (.pointer (some (r.add 1))) ?_
 refine vW (zJ rfl) (yP (a:=r.add 1) (v:=.int .i64 from_) (by kernel_rfl) (by kernel_rfl) rfl (sizeOf3 _) h1) ?_
 rintro w1 rfl
 refine q0 (.pointer (some r)) ?_
 refine q0 (.pointer (some (r.add 2))) ?_
 refine vW (zJ rfl) (yP (a:=r.add 2) (v:=.int .i64 e) (by kernel_rfl) (by kernel_rfl) rfl (sizeOf33 _) (zW.setCell h2)) ?_
 rintro w2 rfl
 refine q0 (.pointer (some r)) ?_
 refine q0 (.pointer (some (r.add 3))) ?_
 refine vW (zJ rfl) (yP (a:=r.add 3) (v:=.int .i64 from_) (by kernel_rfl) (by kernel_rfl) rfl (sizeOf3 _) (zW.setCell (zW.setCell h3))) ?_
 rintro w3 rfl
 refine zC ?_
 exact ⟨.tuple #[],fun ds a ha=>by rw [results_none results245],rfl,rfl⟩
theorem jTT {P:Program} {w:World} {f:FuncId} {cap args:Array Value} (hc:∀args w,(callFunc f args).run P w=.ok (.enter f args) w) (h:cap=args):(invoke (.fn (.func f) cap) #[]).run P w=.ok (.enter f args) w:=by
 subst h;simp [invoke,hc]
set_option maxRecDepth 100000 in
theorem jDD (r:Addr) (do_:Value) (e:Int) (w0:World) (he:w0.cell? (r.add 2)=some (.int .i64 e)) (h0:e≠0) :
  Calls prog 227 #[.pointer (some r),do_] w0 (fun e w'=>e=.returned (.tuple #[])∧Pure w0 w'):=by
 refine jDQ (args:=[.pointer (some r),do_]) func227 rfl ntmps227 (Nat.le_of_ble_eq_true rfl) ?_
 refine zA ?_
 refine rg ?_
 refine xI (O:=(.cells #[(.pointer (some r))] 230)) (fun p=>.pointer (some p)) (zJ rfl) (jUH (cs:=#[(.pointer (some r))]) (by kernel_rfl)) ?_
 intro p1 w1 hn1
 have E1:Pure w0 w1:=Ext.new hn1
 have hp1:w1.cell? p1=some (.pointer (some r)):=(Box.of_newA hn1).cell0
 have he1:=E1.cell he id
 refine zC ?_
 refine zN ?_
 refine zA ?_
 refine zA ?_
 refine rg ?_
 refine q2 (.pointer (some r)) (xE (a:=p1) (by kernel_rfl) (isAgg230 _) hp1) ?_
 refine q2 (.bool false) (yY (x:=some r) (by kernel_rfl) rfl underlying230) ?_
 refine q0 (.bool false) ?_
 refine q2 (.pointer (some r)) (xE (a:=p1) (by kernel_rfl) (isAgg230 _) hp1) ?_
 refine q0 (.pointer (some r)) ?_
 refine q0 (.pointer (some (r.add 2))) ?_
 refine q2 (.int .i64 e) (xE (a:=r.add 2) (by kernel_rfl) (isAgg33 _) he1) ?_
 refine q0 (.bool ((e:Int) != 0)) ?_
 refine q0 (.bool ((e:Int) != 0)) ?_
 refine zC ?_
 refine zN ?_
 refine vJ (t:=true) (by rw [show ((e:Int) != 0)=true by simpa using h0];kernel_rfl) (fun hc1=>?_) (fun hc1=>by cases hc1)
 refine jOU ?_
 refine vA ?_
 exact jHZ (.inl rfl) results227 ⟨rfl,E1⟩
set_option maxRecDepth 100000 in
theorem jLV (r:Addr) (fd:FuncId) (caps:Array Value) (at_:Int) (w0:World) (K:WP) (h1:w0.cell? (r.add 1)=some (.int .i64 at_)) (h2:w0.cell? (r.add 2)=some (.int .i64 0))
  (hc:∀args w,(callFunc fd args).run prog w=.ok (.enter fd args) w)
  (hdo:∀w1 p pf,Pure w0 w1→w0.heap.size≤Addr.block p→w0.heap.size≤Addr.block pf→w1.cell? p=some (.pointer (some r))→w1.cell? pf=some (.int .i64 at_) →
   Calls prog fd caps w1 (fun e w2=>(e=.returned (.tuple #[])∧K w2)∨∃x,e=.panicked [{ v:=.iface 274 (.int .i64 x),recovered:=false }]∧w2.cell? p=some (.pointer (some r))∧w2.cell? pf=some (.int .i64 at_)∧zW w2 (r.add 1)∧zW w2 (r.add 2)∧zW w2 (r.add 3) ∧
    K (((w2.setCell (r.add 1) (.int .i64 at_)).setCell (r.add 2) (.int .i64 x)).setCell (r.add 3) (.int .i64 at_)))) :
  Calls prog 227 #[.pointer (some r),.func (.func fd) #[] caps] w0 (fun e w'=>e=.returned (.tuple #[])∧K w'):=by
 refine jJS (args:=[.pointer (some r),.func (.func fd) #[] caps]) func227 rfl ntmps227 (Nat.le_of_ble_eq_true rfl) ?_
 intro a ha
 refine jEN ha ?_
 refine rg ?_
 refine xI (O:=(.cells #[(.pointer (some r))] 230)) (fun p=>.pointer (some p)) (zJ rfl) (jUH (cs:=#[(.pointer (some r))]) (by kernel_rfl)) ?_
 intro p1 w1 hn1
 have E1:Pure w0 w1:=Ext.new hn1
 have hp1:w1.cell? p1=some (.pointer (some r)):=(Box.of_newA hn1).cell0
 have he1:=E1.cell h2 id
 have hb1:=hn1.at_size
 clear ha
 refine zC ?_
 intro a ha
 refine jEN ha ?_
 refine zA ?_
 refine rg ?_
 refine q2 (.pointer (some r)) (xE (a:=p1) (by kernel_rfl) (isAgg230 _) hp1) ?_
 refine q2 (.bool false) (yY (x:=some r) (by kernel_rfl) rfl underlying230) ?_
 refine q0 (.bool false) ?_
 refine q2 (.pointer (some r)) (xE (a:=p1) (by kernel_rfl) (isAgg230 _) hp1) ?_
 refine q0 (.pointer (some r)) ?_
 refine q0 (.pointer (some (r.add 2))) ?_
 refine q2 (.int .i64 0) (xE (a:=r.add 2) (by kernel_rfl) (isAgg33 _) he1) ?_
 refine q0 (.bool false) ?_
 refine q0 (.bool false) ?_
 refine zC ?_
 refine zN ?_
 refine vJ (t:=false) (by kernel_rfl) (fun hc1=>by cases hc1) (fun hc1=>?_)
 refine zD ?_
 clear ha
 intro a ha
 refine jEN ha ?_
 refine rg ?_
 refine q2 (.pointer (some r)) (xE (a:=p1) (by kernel_rfl) (isAgg230 _) hp1) ?_
 refine q0 (.pointer (some r)) ?_
 refine q0 (.pointer (some (r.add 1))) ?_
 refine q2 (.int .i64 at_) (xE (a:=r.add 1) (by kernel_rfl) (isAgg3 _) (E1.cell h1 id)) ?_
 refine xI (O:=(.cells #[(.int .i64 0)] 3)) (fun p=>.pointer (some p)) (zJ rfl) (zH (zeroValue3 _) rfl) ?_
 intro p2 w2 hn2
 have E2:Pure w0 w2:=E1.trans (Ext.new hn2)
 have hb2:=hn2.at_size
 have B2:=Box.of_newA hn2
 refine vW (zJ rfl) (yP (a:=p2) (v:=.int .i64 at_) (by kernel_rfl) (by kernel_rfl) rfl (sizeOf3 _) (B2.canW0 (by simp))) ?_
 intro w3 hw3
 have hb3:=World.block_lt_of_cell? w1 p1 hp1
 have E3:Pure w0 w3:=E2.own (p:=p2) (by have:=E1.size;omega) (hw3▸Ext.setCell p2 _)
 have hp3:w3.cell? p1=some (.pointer (some r)):=by
  rw [hw3];exact (Ext.setCell p2 _).cell ((Ext.new (F:=None) hn2).cell hp1 id) (fun e=>by omega)
 have hf3:w3.cell? p2=some (.int .i64 at_):=by
  rw [hw3];exact (B2.set0).cell0
 refine zC ?_
 clear ha
 intro a ha
 refine jOV ha (by decide) ?_
 clear ha
 intro a ha
 refine jLZ ha ?_
 refine qM (by kernel_rfl) ?_
 refine qC 1 ?_
 refine q0 (.func (.func fd) #[] caps) ?_
 refine zC ?_
 refine jEV (zJ rfl) (by intro c hc;cases hc) (jOT (caps:=caps) (args:=#[]) (args':=caps) (by kernel_rfl) hc rfl (by simp)) ((hdo w3 p1 p2 E3 (by omega) (by have:=E1.size;omega) hp3 hf3).mono ?_)
 rintro e w4 (⟨rfl,hK⟩ | ⟨x,rfl,ha1,ha2,hw1,hw2,hw3',hK⟩)
 ·refine .inl ⟨_,rfl,?_⟩
  refine jRR ?_
  clear ha
  intro a ha
  show Leaves _ _ _ _ _ _ _
  rw [ha.defers]
  refine leaves_cons (f:=245) (args:=#[.pointer (some p2),.pointer (some p1)]) (by simp) (jTT call245 (by simp [evE,put,upd])) ?_
  refine (jQX p2 p1 w4).mono ?_
  rintro e u' w5 ⟨rfl,rfl,rfl⟩
  exact ⟨_,results_none results227 _ _ _,rfl,hK⟩
 ·refine .inr ⟨_,rfl,?_⟩
  intro ρ' 
  clear ha
  intro a ha
  show Leaves _ _ _ _ _ _ _
  rw [ha.defers]
  refine leaves_cons (f:=245) (args:=#[.pointer (some p2),.pointer (some p1)]) (by simp) (jTT call245 (by simp [evE,put,upd])) ?_
  refine (jTG p2 p1 r at_ x [] w4 ha2 ha1 hw1 hw2 hw3').mono ?_
  rintro e u' w5 ⟨rfl,rfl,rfl⟩
  exact ⟨_,results_none results227 _ _ _,rfl,hK⟩
structure RdAt (S:NP) (w:World) (a:Addr) (s:Sl) (bs:List UInt8) (at_ err spot:Int):Prop where
 box:Box w a [s.v,.int .i64 at_,.int .i64 err,.int .i64 spot] 258
 lst:Lst S w 1 s (byr bs)
 apart:∀b,S b→b≠a.block
 small:bs.length≤100000000000
 room:s.len≤s.cap
def jSU (e:Int):List PanicEntry:=[{ v:=.iface 274 (.int .i64 e),recovered:=false }]
section
variable {S:NP} {w w':World} {a:Addr} {s:Sl} {bs:List UInt8} {at_ err spot:Int}
theorem RdAt.ext {F:NP} (h:RdAt S w a s bs at_ err spot) (E:Ext F w w') (hF:∀b,S b→¬ F b) (ha:¬ F a.block):RdAt S w' a s bs at_ err spot :=
 ⟨h.box.ext E ha,h.lst.ext E hF,h.apart,h.small,h.room⟩
theorem RdAt.pure (h:RdAt S w a s bs at_ err spot) (E:Pure w w'):RdAt S w' a s bs at_ err spot:=h.ext E (fun _ _ h=>h) id
theorem RdAt.atC (h:RdAt S w a s bs at_ err spot):w.cell? (a.add 1)=some (.int .i64 at_):=h.box.cell (i:=1) rfl
theorem RdAt.errC (h:RdAt S w a s bs at_ err spot):w.cell? (a.add 2)=some (.int .i64 err):=h.box.cell (i:=2) rfl
theorem RdAt.setAt (h:RdAt S w a s bs at_ err spot) (k:Int):RdAt S (w.setCell (a.add 1) (.int .i64 k)) a s bs k err spot :=
 ⟨h.box.set 1 _,h.lst.ext (Ext.setCell _ _) (fun b hb e=>h.apart b hb (by rw [zU] at e;exact e)),h.apart,h.small,h.room⟩
theorem RdAt.setErr (h:RdAt S w a s bs at_ err spot) (k:Int):RdAt S (w.setCell (a.add 2) (.int .i64 k)) a s bs at_ k spot :=
 ⟨h.box.set 2 _,h.lst.ext (Ext.setCell _ _) (fun b hb e=>h.apart b hb (by rw [zU] at e;exact e)),h.apart,h.small,h.room⟩
theorem RdAt.setSpot (h:RdAt S w a s bs at_ err spot) (k:Int):RdAt S (w.setCell (a.add 3) (.int .i64 k)) a s bs at_ err k :=
 ⟨h.box.set 3 _,h.lst.ext (Ext.setCell _ _) (fun b hb e=>h.apart b hb (by rw [zU] at e;exact e)),h.apart,h.small,h.room⟩
theorem qQ {k:Nat} {v:Value}:Ext (·=a.block) w (w.setCell (a.add k) v):=(Ext.setCell _ _).mono (fun i _ e=>by rw [zU] at e;exact e)
end
theorem jTX {S:NP} (a:Addr) (s:Sl) (bs:List UInt8) (at_:Nat) (err spot:Int) (w0:World) (h:RdAt S w0 a s bs at_ err spot) (hat:at_≤bs.length) :
  Calls prog 241 #[.pointer (some a)] w0 (fun e w'=>(∃hlt:at_<bs.length,e=.returned (.int .u8 (bs[at_].toNat:Int))∧RdAt S w' a s bs ((at_+1:Nat):Int) err spot∧Ext (·=a.block) w0 w') ∨
   (at_=bs.length∧e=.panicked (jSU 3)∧RdAt S w' a s bs at_ err spot∧Ext (·=a.block) w0 w')):=by
 refine (w_P1 (some a) w0 (fun o r w'=>(∃hlt:at_<bs.length,o=none∧r=(bs[at_].toNat:Int)∧RdAt S w' a s bs ((at_+1:Nat):Int) err spot∧Ext (·=a.block) w0 w')∨(at_=bs.length∧o=some (jSU 3)∧RdAt S w' a s bs at_ err spot∧Ext (·=a.block) w0 w')) ?_).mono ?_
 ·unfold m_P1
  refine ⟨a,rfl,fun w1 hs=>?_⟩
  have h1:=h.pure hs.first
  have hl:s.len=bs.length:=by rw [h.lst.len,qA]
  refine ⟨_,h1.atC,a,rfl,s,h1.box.cell0,fun hc=>?_,fun hc=>?_⟩
  ·have:at_=bs.length:=by have:=beq_iff_eq.1 hc;omega
   exact .inr ⟨this,rfl,h1,Ext.pure hs.first⟩
  ·have hne:at_≠bs.length:=by have:=beq_eq_false_iff_ne.1 hc;omega
   have hlt:at_<bs.length:=by omega
   unfold m_P1_j1
   refine ⟨a,rfl,_,h1.atC,a,rfl,h1.box.canW (i:=1) (by simp),id,?_⟩
   rintro w2 rfl
   have hw:IntKind.i64.wrap ((at_:Int)+1)=((at_+1:Nat):Int):=vE hlt (by have:=h.small;omega)
   rw [hw]
   have h2:=h1.setAt ((at_+1:Nat):Int)
   refine ⟨a,rfl,fun w3 hs3=>?_⟩
   have h3:=h2.pure hs3.ext
   have hw2:IntKind.i64.wrap (((at_+1:Nat):Int) - 1)=(at_:Int):=by
    rw [IntWalk.i64_in _ (by have:=h.small;omega)];omega
   obtain ⟨c,hc1,_,hc3⟩:=jNC h3.lst hlt
   refine ⟨s,h3.box.cell0,a,rfl,_,h3.atC,c,?_,_,hc3,.inl ⟨hlt,rfl,rfl,h3,((Ext.pure hs.first).trans qQ).thenPure hs3.ext⟩⟩
   rw [hw2];exact hc1
 ·rintro e w' (⟨r,rfl,h⟩ | ⟨ch,rfl,h⟩)
  ·rcases h with ⟨hlt,_,rfl,h⟩ | ⟨_,h,_⟩
   ·exact .inl ⟨hlt,rfl,h⟩
   ·cases h
  ·rcases h with ⟨hlt,h,_⟩ | ⟨h1,h2,h⟩
   ·cases h
   ·cases h2;exact .inr ⟨h1,rfl,h⟩
theorem c_num {S:NP} (a:Addr) (s:Sl) (bs:List UInt8) (at_:Nat) (err spot:Int) (w0:World) (h:RdAt S w0 a s bs at_ err spot) (hat:at_≤bs.length) :
  Calls prog 229 #[.pointer (some a)] w0 (fun e w'=>(∃n k:Nat,xK 0 0 (bs.drop at_)=.ok (n,k)∧e=.returned (.int .u64 (n:Int))∧n<18446744073709551616∧at_+k≤bs.length∧RdAt S w' a s bs ((at_+k:Nat):Int) err spot∧Ext (·=a.block) w0 w') ∨
   (∃x:Nat,∃at':Int,xK 0 0 (bs.drop at_)=.error x∧e=.panicked (jSU x)∧RdAt S w' a s bs at' err spot∧Ext (·=a.block) w0 w')):=by
 refine (w_X (some a) w0 (fun o r w' => (∃ n k : Nat, xK 0 0 (bs.drop at_) = .ok (n, k) ∧ o = none ∧ r = (n : Int) ∧ n < 18446744073709551616 ∧ at_ + k ≤ bs.length ∧ RdAt S w' a s bs ((at_ + k : Nat) : Int) err spot ∧ Ext (· = a.block) w0 w') ∨
   (∃x:Nat,∃at':Int,xK 0 0 (bs.drop at_)=.error x∧o=some (jSU x)∧RdAt S w' a s bs at' err spot∧Ext (·=a.block) w0 w')) ?_).mono ?_
 ·unfold m_X
  refine ⟨fun n i w=>∃acc k:Nat,n=(acc:Int)∧i=(k:Int)∧k≤9∧acc<2 ^ (7*k)∧at_+k≤bs.length∧xK k acc (bs.drop (at_+k))=xK 0 0 (bs.drop at_)∧RdAt S w a s bs ((at_+k:Nat):Int) err spot∧Ext (·=a.block) w0 w,fun _ i _=>(10 - i).toNat,⟨0,0,rfl,rfl,by omega,by simp,by simpa using hat,rfl,by simpa using h,Ext.refl _⟩,?_⟩
  rintro _ _ wl ⟨acc,k,rfl,rfl,hk,hacc,hle,hrd,hR,hE⟩
  unfold m_X_l1
  refine (jTX a s bs (at_+k) err spot wl hR hle).mono ?_
  rintro e w1 (⟨hlt,rfl,hR1,hE1⟩ | ⟨heq,rfl,hR1,hE1⟩)
  ·refine .inl ⟨_,rfl,?_⟩
   have hdrop:bs.drop (at_+k)=bs[at_+k] :: bs.drop (at_+k+1):=List.drop_eq_getElem_cons hlt
   generalize hcc:bs[at_+k]=c at *
   have hc:=c.toNat_lt
   rw [hdrop,tM] at hrd
   refine ⟨fun hb=>?_,fun hb=>?_⟩
   ·have hb':k=9∧1<c.toNat:=by simp at hb;omega
    rw [if_pos hb'] at hrd
    exact .inr ⟨11,_,hrd.symm,rfl,hR1,hE.trans hE1⟩
   ·have hb':¬ (k=9∧1<c.toNat):=by intro hh;simp at hb;omega
    rw [if_neg hb'] at hrd
    have hpw:c.toNat % 128*2 ^ (7*k)<18446744073709551616:=by
     by_cases h9:k=9
     ·subst h9;omega
     ·have h8:2 ^ (7*k)≤2 ^ 56:=Nat.pow_le_pow_right (by omega) (by omega);have h127:c.toNat % 128≤127:=by omega
      calc c.toNat % 128*2 ^ (7*k)≤127*2 ^ 56:=Nat.mul_le_mul h127 h8
       _<18446744073709551616:=by decide
    have hac:acc<18446744073709551616:=Nat.lt_of_lt_of_le hacc (by
     calc 2 ^ (7*k)≤2 ^ 63:=Nat.pow_le_pow_right (by omega) (by omega)
      _≤18446744073709551616:=by decide)
    have h7:IntKind.i64.wrap (7*(k:Int))=((7*k:Nat):Int):=by rw [IntWalk.i64_in _ (by omega)];simp
    have h128:128 ^ k=2 ^ (7*k):=by rw [Nat.pow_mul]
    have hsum:acc ||| (c.toNat % 128*2 ^ (7*k))=acc+c.toNat % 128*2 ^ (7*k):=jTP hacc
    have hsl:acc+c.toNat % 128*2 ^ (7*k)<18446744073709551616:=by
     rw [← hsum];exact Nat.or_lt_two_pow (n:=64) hac hpw
    unfold m_X_j2
    rw [h7]
    refine ⟨_,jNN c.toNat hc,_,by rw [qO (by omega)];exact jUM _ _ (by omega) hpw,_,jSA _ _ hac hpw,?_⟩
    rw [hsum]
    refine ⟨fun hs=>?_,fun hs=>?_⟩
    ·have hs':c.toNat<128:=by have:=of_decide_eq_true hs;omega
     rw [if_pos hs'] at hrd
     refine ⟨fun hz=>?_,fun hz=>?_⟩
     ·have hz':c.toNat=0∧0<k:=by simp at hz;omega
      rw [if_pos hz'] at hrd
      exact .inr ⟨10,_,hrd.symm,rfl,hR1,hE.trans hE1⟩
     ·have hz':¬ (c.toNat=0∧0<k):=by intro hh;simp at hz;omega
      rw [if_neg hz',h128] at hrd
      rw [Nat.mod_eq_of_lt hs'] at hsl ⊢
      exact .inl ⟨_,k+1,hrd.symm,rfl,rfl,hsl,by omega,hR1,hE.trans hE1⟩
    ·have hs':¬ c.toNat<128:=by have:=of_decide_eq_false hs;omega
     rw [if_neg hs',h128] at hrd
     have hk9:k≠9:=by omega
     rw [vE (n:=10) (by omega) (by omega)]
     refine ⟨⟨_,k+1,rfl,rfl,by omega,?_,by omega,hrd,hR1,hE.trans hE1⟩,by show (10 - ((k+1:Nat):Int)).toNat<(10 - (k:Int)).toNat;omega⟩
     have:2 ^ (7*(k+1))=128*2 ^ (7*k):=by rw [Nat.mul_add,Nat.pow_add];omega
     rw [this]
     have h127:c.toNat % 128*2 ^ (7*k)≤127*2 ^ (7*k):=Nat.mul_le_mul_right _ (by omega)
     omega
  ·refine .inr ⟨_,rfl,.inr ⟨3,_,?_,rfl,hR1,hE.trans hE1⟩⟩
   rw [← hrd,heq,List.drop_length];rfl
 ·rintro e w' (⟨r,rfl,h⟩ | ⟨ch,rfl,h⟩)
  ·rcases h with ⟨n,k,h1,_,rfl,h⟩ | ⟨_,_,_,h,_⟩
   ·exact .inl ⟨n,k,h1,rfl,h⟩
   ·cases h
  ·rcases h with ⟨n,k,h1,h,_⟩ | ⟨x,at',h1,h2,h⟩
   ·cases h
   ·cases h2;exact .inr ⟨x,at',h1,rfl,h⟩
abbrev RdS (S:NP) (w:World) (a:Addr) (s:Sl) (bs:List UInt8) (r:Rd):Prop:=RdAt S w a s bs r.at_ r.err r.spot
theorem jDE {w:World} {p:Addr} {u v:Value} {T:TypeId} (h:Box w p [u] T):Box (w.setCell p v) p [v] T:=h.set0
theorem RdAt.gives {S:NP} {w:World} {a:Addr} {s:Sl} {bs:List UInt8} {at_ err spot:Int} (h:RdAt S w a s bs at_ err spot) (f e:Int) :
  zW w (a.add 1)∧zW w (a.add 2)∧zW w (a.add 3)∧RdAt S (((w.setCell (a.add 1) (.int .i64 f)).setCell (a.add 2) (.int .i64 e)).setCell (a.add 3) (.int .i64 f)) a s bs f e f :=
 ⟨h.box.canW (i:=1) (by simp),h.box.canW (i:=2) (by simp),h.box.canW (i:=3) (by simp),((h.setAt f).setErr e).setSpot f⟩
theorem jAN {w:World} {a:Addr} {u v x:Value}:Ext (·=a.block) w (((w.setCell (a.add 1) u).setCell (a.add 2) v).setCell (a.add 3) x):=(qQ.trans qQ).trans qQ
theorem jKE {S:NP} (a:Addr) (s:Sl) (bs:List UInt8) (r:Rd) (w0:World) (h:RdS S w0 a s bs r) (hat:r.at_≤bs.length) (hS:∀b,S b→b<w0.heap.size) :
  Calls prog 185 #[.pointer (some a)] w0 (fun e w'=>∃x:Int,e=.returned (.int .u64 x)∧x=((qN bs r).1:Int)∧RdS S w' a s bs (qN bs r).2∧Ext (·=a.block) w0 w'):=by
 refine w_E4 (some a) w0 (fun x w'=>x=((qN bs r).1:Int)∧RdS S w' a s bs (qN bs r).2∧Ext (·=a.block) w0 w') ?_
 unfold m_E4
 intro p1 w1 n1 p2 w2 n2
 have E1:Pure w0 w1:=Ext.new n1
 have E2:Pure w0 w2:=E1.trans (Ext.new n2)
 have hp1:w2.cell? p1=some (.pointer (some a)):=(Ext.new (F:=None) n2).cell (Box.of_newA n1).cell0 id
 have b1:=n1.at_size
 have b2:=n2.at_size
 have b12:p1.block≠p2.block:=by have:=World.block_lt_of_cell? w1 p1 (Box.of_newA n1).cell0;omega
 have ha0:=World.block_lt_of_cell? w0 a h.box.cell0
 have B2:=Box.of_newA n2
 have h2:=h.pure E2
 refine ⟨some a,hp1,?_⟩
 have fin:∀w3,(Box w3 p2 [.int .u64 ((qN bs r).1:Int)] 26∧RdS S w3 a s bs (qN bs r).2∧Ext (·=a.block) w0 w3)→∃v2:Int,w3.cell? p2=some (.int .u64 v2)∧zW w3 p2∧∀w4:World,w4=w3.setCell p2 (.int .u64 v2)→∃qV1:Int,w4.cell? p2=some (.int .u64 qV1)∧(qV1=((qN bs r).1:Int)∧RdS S w4 a s bs (qN bs r).2∧Ext (·=a.block) w0 w4):=by
  rintro w3 ⟨hB,hR,hE⟩;refine ⟨_,hB.cell0,hB.canW0 (by simp),?_⟩;rintro w4 rfl;have hx:Ext (·=p2.block) w3 (w3.setCell p2 (.int .u64 ((qN bs r).1:Int))):=Ext.setCell _ _;exact ⟨_,(jDE hB).cell0,rfl,hR.ext hx (fun b hb e=>by have:=hS b hb;have:=E1.size;omega) (fun e=>by have:=E1.size;omega),hE.trans' hx (fun i hi e=>by have:=E1.size;omega)⟩
 by_cases he:r.err=0
 ·refine (jLV a 228 _ r.at_ w2 (fun w3=>Box w3 p2 [.int .u64 ((qN bs r).1:Int)] 26∧RdS S w3 a s bs (qN bs r).2∧Ext (·=a.block) w0 w3) h2.atC (by have:=h2.errC;rw [he] at this;exact this) call228 ?_).mono ?_
  ·intro w3 p pf E3 hp hpf hpc hpfc
   have h3:=h2.pure E3
   refine (w_S4 p1 p2 w3 (fun o w4=>(o=none∧(Box w4 p2 [.int .u64 ((qN bs r).1:Int)] 26∧RdS S w4 a s bs (qN bs r).2∧Ext (·=a.block) w0 w4))∨(∃x,o=some (jSU x)∧w4.cell? p=some (.pointer (some a))∧w4.cell? pf=some (.int .i64 r.at_)∧zW w4 (a.add 1)∧zW w4 (a.add 2)∧zW w4 (a.add 3) ∧
    (Box (((w4.setCell (a.add 1) (.int .i64 r.at_)).setCell (a.add 2) (.int .i64 x)).setCell (a.add 3) (.int .i64 r.at_)) p2 [.int .u64 ((qN bs r).1:Int)] 26∧RdS S (((w4.setCell (a.add 1) (.int .i64 r.at_)).setCell (a.add 2) (.int .i64 x)).setCell (a.add 3) (.int .i64 r.at_)) a s bs (qN bs r).2∧Ext (·=a.block) w0 (((w4.setCell (a.add 1) (.int .i64 r.at_)).setCell (a.add 2) (.int .i64 x)).setCell (a.add 3) (.int .i64 r.at_))))) ?_).mono ?_
   ·unfold m_S4
    refine ⟨some a,E3.cell hp1 id,?_⟩
    refine (c_num a s bs r.at_ r.err r.spot w3 h3 hat).mono ?_
    rintro e w4 (⟨n,k,hn,rfl,hlt,hle,hR,hE⟩ | ⟨x,at',hn,rfl,hR,hE⟩)
    ·refine .inl ⟨_,rfl,?_⟩
     have hB4:Box w4 p2 [.int .u64 0] 26:=(B2.pure E3).ext hE (fun e=>by have:=E1.size;omega)
     refine ⟨hB4.canW0 (by simp),?_⟩
     rintro w5 rfl
     have hx:Ext (·=p2.block) w4 (w4.setCell p2 (.int .u64 (n:Int))):=Ext.setCell _ _
     have hrn:qN bs r=(n,⟨r.at_+k,0,r.spot⟩):=by simp [qN,he,hn]
     rw [hrn]
     refine .inl ⟨rfl,jDE hB4,?_,((Ext.pure (E2.trans E3)).trans hE).trans' hx (fun i hi e=>by have:=E1.size;omega)⟩
     have:=hR.ext hx (fun b hb e=>by have:=hS b hb;have:=E1.size;omega) (fun e=>by have:=E1.size;omega)
     rw [he] at this
     exact this
    ·refine .inr ⟨_,rfl,.inr ⟨x,rfl,?_⟩⟩
     have hrn:qN bs r=(0,⟨r.at_,x,r.at_⟩):=by simp [qN,he,hn]
     have hB4:Box w4 p2 [.int .u64 0] 26:=(B2.pure E3).ext hE (fun e=>by have:=E1.size;omega)
     obtain ⟨c1,c2,c3,hR'⟩:=hR.gives r.at_ x
     rw [hrn]
     exact ⟨hE.cell hpc (fun e=>by have:=E2.size;omega),hE.cell hpfc (fun e=>by have:=E2.size;omega),c1,c2,c3,hB4.ext jAN (fun e=>by have:=E1.size;omega),hR',((Ext.pure (E2.trans E3)).trans hE).trans jAN⟩
   ·rintro e w4 (⟨rfl,h⟩ | ⟨ch,rfl,h⟩)
    ·rcases h with ⟨_,h⟩ | ⟨_,h,_⟩
     ·exact .inl ⟨rfl,h⟩
     ·cases h
    ·rcases h with ⟨h,_⟩ | ⟨x,h1,h⟩
     ·cases h
     ·cases h1;exact .inr ⟨x,rfl,h⟩
  ·rintro e w3 ⟨rfl,hK⟩
   exact ⟨rfl,fin w3 hK⟩
 ·refine (jDD a _ r.err w2 h2.errC (by omega)).mono ?_
  rintro e w3 ⟨rfl,E3⟩
  have hrn:qN bs r=(0,r):=by simp [qN,he]
  refine ⟨rfl,fin w3 ?_⟩
  rw [hrn]
  exact ⟨B2.pure E3,h2.pure E3,Ext.pure (E2.trans E3)⟩
theorem c_Byte {S:NP} (a:Addr) (s:Sl) (bs:List UInt8) (r:Rd) (w0:World) (h:RdS S w0 a s bs r) (hat:r.at_≤bs.length) (hS:∀b,S b→b<w0.heap.size) :
  Calls prog 212 #[.pointer (some a)] w0 (fun e w'=>∃x:Int,e=.returned (.int .u8 x)∧x=((uF bs r).1:Int)∧RdS S w' a s bs (uF bs r).2∧Ext (·=a.block) w0 w'):=by
 refine w_Z3 (some a) w0 (fun x w'=>x=((uF bs r).1:Int)∧RdS S w' a s bs (uF bs r).2∧Ext (·=a.block) w0 w') ?_
 unfold m_Z3
 intro p1 w1 n1 p2 w2 n2
 have E1:Pure w0 w1:=Ext.new n1
 have E2:Pure w0 w2:=E1.trans (Ext.new n2)
 have hp1:w2.cell? p1=some (.pointer (some a)):=(Ext.new (F:=None) n2).cell (Box.of_newA n1).cell0 id
 have b1:=n1.at_size
 have b2:=n2.at_size
 have b12:p1.block≠p2.block:=by have:=World.block_lt_of_cell? w1 p1 (Box.of_newA n1).cell0;omega
 have ha0:=World.block_lt_of_cell? w0 a h.box.cell0
 have B2:=Box.of_newA n2
 have h2:=h.pure E2
 refine ⟨some a,hp1,?_⟩
 have fin:∀w3,(Box w3 p2 [.int .u8 ((uF bs r).1:Int)] 5∧RdS S w3 a s bs (uF bs r).2∧Ext (·=a.block) w0 w3)→∃v2:Int,w3.cell? p2=some (.int .u8 v2)∧zW w3 p2∧∀w4:World,w4=w3.setCell p2 (.int .u8 v2)→∃qV1:Int,w4.cell? p2=some (.int .u8 qV1)∧(qV1=((uF bs r).1:Int)∧RdS S w4 a s bs (uF bs r).2∧Ext (·=a.block) w0 w4):=by
  rintro w3 ⟨hB,hR,hE⟩;refine ⟨_,hB.cell0,hB.canW0 (by simp),?_⟩;rintro w4 rfl;have hx:Ext (·=p2.block) w3 (w3.setCell p2 (.int .u8 ((uF bs r).1:Int))):=Ext.setCell _ _;exact ⟨_,(jDE hB).cell0,rfl,hR.ext hx (fun b hb e=>by have:=hS b hb;have:=E1.size;omega) (fun e=>by have:=E1.size;omega),hE.trans' hx (fun i hi e=>by have:=E1.size;omega)⟩
 by_cases he:r.err=0
 ·refine (jLV a 240 _ r.at_ w2 (fun w3=>Box w3 p2 [.int .u8 ((uF bs r).1:Int)] 5∧RdS S w3 a s bs (uF bs r).2∧Ext (·=a.block) w0 w3) h2.atC (by have:=h2.errC;rw [he] at this;exact this) call240 ?_).mono ?_
  ·intro w3 p pf E3 hp hpf hpc hpfc
   have h3:=h2.pure E3
   refine (w_T4 p1 p2 w3 (fun o w4=>(o=none∧(Box w4 p2 [.int .u8 ((uF bs r).1:Int)] 5∧RdS S w4 a s bs (uF bs r).2∧Ext (·=a.block) w0 w4))∨(∃x,o=some (jSU x)∧w4.cell? p=some (.pointer (some a))∧w4.cell? pf=some (.int .i64 r.at_)∧zW w4 (a.add 1)∧zW w4 (a.add 2)∧zW w4 (a.add 3) ∧
    (Box (((w4.setCell (a.add 1) (.int .i64 r.at_)).setCell (a.add 2) (.int .i64 x)).setCell (a.add 3) (.int .i64 r.at_)) p2 [.int .u8 ((uF bs r).1:Int)] 5∧RdS S (((w4.setCell (a.add 1) (.int .i64 r.at_)).setCell (a.add 2) (.int .i64 x)).setCell (a.add 3) (.int .i64 r.at_)) a s bs (uF bs r).2∧Ext (·=a.block) w0 (((w4.setCell (a.add 1) (.int .i64 r.at_)).setCell (a.add 2) (.int .i64 x)).setCell (a.add 3) (.int .i64 r.at_))))) ?_).mono ?_
   ·unfold m_T4
    refine ⟨some a,E3.cell hp1 id,?_⟩
    refine (jTX a s bs r.at_ r.err r.spot w3 h3 hat).mono ?_
    rintro e w4 (⟨hlt,rfl,hR,hE⟩ | ⟨heq,rfl,hR,hE⟩)
    ·refine .inl ⟨_,rfl,?_⟩
     have hB4:Box w4 p2 [.int .u8 0] 5:=(B2.pure E3).ext hE (fun e=>by have:=E1.size;omega)
     refine ⟨hB4.canW0 (by simp),?_⟩
     rintro w5 rfl
     have hx:Ext (·=p2.block) w4 (w4.setCell p2 (.int .u8 (bs[r.at_].toNat:Int))):=Ext.setCell _ _
     have hrn:uF bs r=(bs[r.at_].toNat,⟨r.at_+1,0,r.spot⟩):=by simp [uF,he,hlt]
     rw [hrn]
     refine .inl ⟨rfl,jDE hB4,?_,((Ext.pure (E2.trans E3)).trans hE).trans' hx (fun i hi e=>by have:=E1.size;omega)⟩
     have:=hR.ext hx (fun b hb e=>by have:=hS b hb;have:=E1.size;omega) (fun e=>by have:=E1.size;omega)
     rw [he] at this
     exact this
    ·refine .inr ⟨_,rfl,.inr ⟨3,rfl,?_⟩⟩
     have hrn:uF bs r=(0,⟨r.at_,3,r.at_⟩):=by simp [uF,he,heq]
     have hB4:Box w4 p2 [.int .u8 0] 5:=(B2.pure E3).ext hE (fun e=>by have:=E1.size;omega)
     obtain ⟨c1,c2,c3,hR'⟩:=hR.gives r.at_ 3
     rw [hrn]
     exact ⟨hE.cell hpc (fun e=>by have:=E2.size;omega),hE.cell hpfc (fun e=>by have:=E2.size;omega),c1,c2,c3,hB4.ext jAN (fun e=>by have:=E1.size;omega),hR',((Ext.pure (E2.trans E3)).trans hE).trans jAN⟩
   ·rintro e w4 (⟨rfl,h⟩ | ⟨ch,rfl,h⟩)
    ·rcases h with ⟨_,h⟩ | ⟨_,h,_⟩
     ·exact .inl ⟨rfl,h⟩
     ·cases h
    ·rcases h with ⟨h,_⟩ | ⟨x,h1,h⟩
     ·cases h
     ·cases h1;exact .inr ⟨x,rfl,h⟩
  ·rintro e w3 ⟨rfl,hK⟩
   exact ⟨rfl,fin w3 hK⟩
 ·refine (jDD a _ r.err w2 h2.errC (by omega)).mono ?_
  rintro e w3 ⟨rfl,E3⟩
  have hrn:uF bs r=(0,r):=by simp [uF,he]
  refine ⟨rfl,fin w3 ?_⟩
  rw [hrn]
  exact ⟨B2.pure E3,h2.pure E3,Ext.pure (E2.trans E3)⟩
theorem c_Text {S:NP} (a:Addr) (s:Sl) (bs:List UInt8) (most:Nat) (r:Rd) (w0:World) (h:RdS S w0 a s bs r) (hat:r.at_≤bs.length) (hS:∀b,S b→b<w0.heap.size) (hm:most≤1000000000) :
  Calls prog 193 #[.pointer (some a),.int .i64 (most:Int)] w0 (fun e w'=>∃x:ByteArray,e=.returned (.string x)∧x=⟨(qR bs most r).1.toArray⟩∧RdS S w' a s bs (qR bs most r).2∧Ext (·=a.block) w0 w'):=by
 refine w_M4 (some a) most w0 (fun x w'=>x=⟨(qR bs most r).1.toArray⟩∧RdS S w' a s bs (qR bs most r).2∧Ext (·=a.block) w0 w') ?_
 unfold m_M4
 intro p1 w1 n1 pm w1' nm p2 w2 n2
 have E1:Pure w0 w1:=Ext.new n1
 have E1':Pure w0 w1':=E1.trans (Ext.new nm)
 have E2:Pure w0 w2:=E1'.trans (Ext.new n2)
 have hp1':w1'.cell? p1=some (.pointer (some a)):=(Ext.new (F:=None) nm).cell (Box.of_newA n1).cell0 id
 have hp1:w2.cell? p1=some (.pointer (some a)):=(Ext.new (F:=None) n2).cell hp1' id
 have hpm:w2.cell? pm=some (.int .i64 (most:Int)):=(Ext.new (F:=None) n2).cell (Box.of_newA nm).cell0 id
 have b1:=n1.at_size
 have bm:=nm.at_size
 have b2:=n2.at_size
 have b12:p1.block≠p2.block:=by have:=World.block_lt_of_cell? w1' p1 hp1';omega
 have ha0:=World.block_lt_of_cell? w0 a h.box.cell0
 have B2:=Box.of_newA n2
 have h2:=h.pure E2
 have g1:w0.heap.size≤p2.block:=by have:=E1'.size;omega
 have g2:w0.heap.size≤p1.block:=by omega
 have g3:w0.heap.size≤pm.block:=by have:=E1.size;omega
 refine ⟨some a,hp1,?_⟩
 have fin:∀w3,(Box w3 p2 [.string ⟨(qR bs most r).1.toArray⟩] 9∧RdS S w3 a s bs (qR bs most r).2∧Ext (·=a.block) w0 w3)→∃v2:ByteArray,w3.cell? p2=some (.string v2)∧zW w3 p2∧∀w4:World,w4=w3.setCell p2 (.string v2)→∃qV1:ByteArray,w4.cell? p2=some (.string qV1)∧(qV1=⟨(qR bs most r).1.toArray⟩∧RdS S w4 a s bs (qR bs most r).2∧Ext (·=a.block) w0 w4):=by
  rintro w3 ⟨hB,hR,hE⟩;refine ⟨_,hB.cell0,hB.canW0 (by simp),?_⟩;rintro w4 rfl;have hx:Ext (·=p2.block) w3 (w3.setCell p2 (.string ⟨(qR bs most r).1.toArray⟩)):=Ext.setCell _ _;exact ⟨_,(jDE hB).cell0,rfl,hR.ext hx (fun b hb e=>by have:=hS b hb;omega) (fun e=>by omega),hE.trans' hx (fun i hi e=>by omega)⟩
 by_cases he:r.err=0
 ·refine (jLV a 230 _ r.at_ w2 (fun w3=>Box w3 p2 [.string ⟨(qR bs most r).1.toArray⟩] 9∧RdS S w3 a s bs (qR bs most r).2∧Ext (·=a.block) w0 w3) h2.atC (by have:=h2.errC;rw [he] at this;exact this) call230 ?_).mono ?_
  ·intro w3 p pf E3 hp hpf hpc hpfc
   have h3:=h2.pure E3
   refine (w_R p1 pm p2 w3 (fun o w4=>(o=none∧(Box w4 p2 [.string ⟨(qR bs most r).1.toArray⟩] 9∧RdS S w4 a s bs (qR bs most r).2∧Ext (·=a.block) w0 w4))∨(∃x,o=some (jSU x)∧w4.cell? p=some (.pointer (some a))∧w4.cell? pf=some (.int .i64 r.at_)∧zW w4 (a.add 1)∧zW w4 (a.add 2)∧zW w4 (a.add 3) ∧
    (Box (((w4.setCell (a.add 1) (.int .i64 r.at_)).setCell (a.add 2) (.int .i64 x)).setCell (a.add 3) (.int .i64 r.at_)) p2 [.string ⟨(qR bs most r).1.toArray⟩] 9∧RdS S (((w4.setCell (a.add 1) (.int .i64 r.at_)).setCell (a.add 2) (.int .i64 x)).setCell (a.add 3) (.int .i64 r.at_)) a s bs (qR bs most r).2∧Ext (·=a.block) w0 (((w4.setCell (a.add 1) (.int .i64 r.at_)).setCell (a.add 2) (.int .i64 x)).setCell (a.add 3) (.int .i64 r.at_))))) ?_).mono ?_
   ·unfold m_R
    refine ⟨some a,E3.cell hp1 id,?_⟩
    refine (c_num a s bs r.at_ r.err r.spot w3 h3 hat).mono ?_
    have give:∀(x:Nat) (at':Int) (w4:World),qR bs most r=([],⟨r.at_,x,r.at_⟩)→RdAt S w4 a s bs at' r.err r.spot→Ext (·=a.block) w3 w4→(∃y,some (jSU x)=some (jSU y)∧w4.cell? p=some (.pointer (some a))∧w4.cell? pf=some (.int .i64 r.at_)∧zW w4 (a.add 1)∧zW w4 (a.add 2)∧zW w4 (a.add 3) ∧
     (Box (((w4.setCell (a.add 1) (.int .i64 r.at_)).setCell (a.add 2) (.int .i64 y)).setCell (a.add 3) (.int .i64 r.at_)) p2 [.string ⟨(qR bs most r).1.toArray⟩] 9∧RdS S (((w4.setCell (a.add 1) (.int .i64 r.at_)).setCell (a.add 2) (.int .i64 y)).setCell (a.add 3) (.int .i64 r.at_)) a s bs (qR bs most r).2∧Ext (·=a.block) w0 (((w4.setCell (a.add 1) (.int .i64 r.at_)).setCell (a.add 2) (.int .i64 y)).setCell (a.add 3) (.int .i64 r.at_)))):=by
     intro x at' w4 hrn hR hE
     have hB4:Box w4 p2 [.string ⟨#[]⟩] 9:=(B2.pure E3).ext hE (fun e=>by omega)
     obtain ⟨c1,c2,c3,hR'⟩:=hR.gives r.at_ x
     rw [hrn]
     exact ⟨x,rfl,hE.cell hpc (fun e=>by have:=E2.size;omega),hE.cell hpfc (fun e=>by have:=E2.size;omega),c1,c2,c3,hB4.ext jAN (fun e=>by omega),hR',((Ext.pure (E2.trans E3)).trans hE).trans jAN⟩
    rintro e w4 (⟨n,k,hn,rfl,hlt,hle,hR,hE⟩ | ⟨x,at',hn,rfl,hR,hE⟩)
    ·refine .inl ⟨_,rfl,hE.kept (fun b hb=>hb.elim),_,hE.cell (E3.cell hpm id) (fun e=>by omega),fun hb=>?_,fun _=>⟨_,hE.cell (E3.cell hpm id) (fun e=>by omega),?_⟩⟩
     ·have:=of_decide_eq_true hb;omega
     ·rw [qO (by omega)]
      refine ⟨fun hb=>?_,fun hb=>?_⟩
      ·have hlt':most<n:=by have:=of_decide_eq_true hb;omega
       exact .inr (give 1 _ w4 (by simp [qR,he,hn,hlt']) hR hE)
      ·have hlt':¬ most<n:=by have:=of_decide_eq_false hb;omega
       unfold m_R_j2
       intro w5 hs5
       have E5:=hs5.ext
       have hR5:=hR.pure E5
       have hp5:w5.cell? p1=some (.pointer (some a)):=E5.cell (hE.cell (E3.cell hp1 id) (fun e=>by omega)) id
       have hl:s.len=bs.length:=by rw [h.lst.len,qA]
       have hsm:=h.small
       have hE5:Ext (·=a.block) w3 w5:=hE.thenPure E5
       refine ⟨_,hp5,a,rfl,s,hR5.box.cell0,_,hp5,a,rfl,_,hR5.atC,?_⟩
       have hw1:IntKind.u64.wrap (IntKind.i64.wrap ((s.len:Int) - ((r.at_+k:Nat):Int)))=((bs.length - (r.at_+k):Nat):Int):=by
        rw [hl,IntWalk.i64_in _ (by omega),show ((bs.length:Int) - ((r.at_+k:Nat):Int))=((bs.length - (r.at_+k):Nat):Int) by omega,qO (by omega)]
       rw [hw1]
       refine ⟨fun hb2=>?_,fun hb2=>?_⟩
       ·have hg:bs.length<r.at_+k+n:=by have:=of_decide_eq_true hb2;omega
        exact .inr (give 3 _ w5 (by simp [qR,he,hn,hlt',hg]) hR5 hE5)
       ·have hg:¬ bs.length<r.at_+k+n:=by have:=of_decide_eq_false hb2;omega
        have hrn:qR bs most r=((bs.drop (r.at_+k)).take n,⟨r.at_+k+n,0,r.spot⟩):=by simp [qR,he,hn,hlt',hg]
        unfold m_R_j3
        refine ⟨fun _=>True,trivial,?_⟩
        intro w6 hw6
        have E6:Pure w5 w6:=by rw [hw6];exact Ext.drew _
        have hR6:=hR5.pure E6
        have hp6:=E6.cell hp5 id
        have hn1:IntKind.i64.wrap (n:Int)=(n:Int):=IntWalk.i64_in _ (by omega)
        have hn2:IntKind.i64.wrap (((r.at_+k:Nat):Int)+(n:Int))=((r.at_+k+n:Nat):Int):=by rw [IntWalk.i64_in _ (by omega)];simp
        obtain ⟨s1,hr1,hL1⟩:=hR6.lst.sub (k:=.i64) (lo:=r.at_+k) (n:=n) jEY h.room (by rw [qA];omega)
        have hB6:Box w6 p2 [.string ⟨#[]⟩] 9:=((B2.pure E3).ext hE5 (fun e=>by omega)).pure E6
        have hL2:Lst S w6 1 s1 (byr ((bs.drop (r.at_+k)).take n)):=by
         have e:(List.drop (r.at_+k) (byr bs)).take n=byr ((bs.drop (r.at_+k)).take n):=by simp [byr,List.map_take,List.map_drop]
         rw [← e];exact hL1
        refine ⟨_,hp6,a,rfl,s,hR6.box.cell0,_,hp6,a,rfl,_,hR6.atC,_,hp6,a,rfl,_,hR6.atC,s1,by rw [hn1,hn2];exact hr1,_,jUL underlying54 underlying5 underlying9 hL2,hB6.canW0 (by simp),id,?_⟩
        rintro w7 rfl
        have hx:Ext (·=p2.block) w6 (w6.setCell p2 (.string ⟨((bs.drop (r.at_+k)).take n).toArray⟩)):=Ext.setCell _ _
        have hR7:=hR6.ext hx (fun b hb e=>by have:=hS b hb;omega) (fun e=>by omega)
        refine ⟨_,hx.cell hp6 (fun e=>b12 e),a,rfl,_,hR7.atC,a,rfl,hR7.box.canW (i:=1) (by simp),id,?_⟩
        rintro w8 rfl
        rw [hn1,hn2,hrn]
        have hR8:=hR7.setAt ((r.at_+k+n:Nat):Int)
        rw [he] at hR8
        exact .inl ⟨rfl,(jDE hB6).ext qQ (fun e=>by omega),hR8,((((Ext.pure (E2.trans E3)).trans hE5).thenPure E6).trans' hx (fun i hi e=>by omega)).trans qQ⟩
    ·exact .inr ⟨_,rfl,.inr (give x at' w4 (by simp [qR,he,hn]) hR hE)⟩
   ·rintro e w4 (⟨rfl,h⟩ | ⟨ch,rfl,h⟩)
    ·rcases h with ⟨_,h⟩ | ⟨_,h,_⟩
     ·exact .inl ⟨rfl,h⟩
     ·cases h
    ·rcases h with ⟨h,_⟩ | ⟨x,h1,h⟩
     ·cases h
     ·cases h1;exact .inr ⟨x,rfl,h⟩
  ·rintro e w3 ⟨rfl,hK⟩
   exact ⟨rfl,fin w3 hK⟩
 ·refine (jDD a _ r.err w2 h2.errC (by omega)).mono ?_
  rintro e w3 ⟨rfl,E3⟩
  have hrn:qR bs most r=([],r):=by simp [qR,he]
  refine ⟨rfl,fin w3 ?_⟩
  rw [hrn]
  exact ⟨B2.pure E3,h2.pure E3,Ext.pure (E2.trans E3)⟩
theorem jRW {w:World} {e:TypeId} {sz:Nat} {s:Sl} {rs:List (List Value)} (h:Rws w e sz s rs):s.len≤s.cap:=by
 rcases h.own with ⟨rfl,_⟩ | ⟨g,cur,_,_,hc,_⟩
 ·exact Nat.le_refl _
 ·rw [h.len];exact hc
theorem c_cNew {S:NP} (s:Sl) (bs:List UInt8) (w0:World) (hs:Lst S w0 1 s (byr bs)) (hz:s.a=none→s=Sl.nil) (hn:bs.length≤100000000000) :
  Calls prog 163 #[s.v] w0 (fun e w'=>∃x:Option Addr,e=.returned (.pointer x)∧∃a s',x=some a∧RdS s'.blk w' a s' bs ⟨0,0,0⟩∧Pure w0 w'∧w0.heap.size≤a.block∧(∀b,s'.blk b→w0.heap.size≤b∧b<w'.heap.size)):=by
 refine w_W3 _ w0 (fun x w'=>∃a s',x=some a∧RdS s'.blk w' a s' bs ⟨0,0,0⟩∧Pure w0 w'∧w0.heap.size≤a.block∧(∀b,s'.blk b→w0.heap.size≤b∧b<w'.heap.size)) ?_
 unfold m_W3
 refine (jKD s bs w0 hs hz hn).mono ?_
 rintro _ w1 ⟨r1,rfl,hR⟩
 refine ⟨r1,rfl,fun p2 w2 n2=>⟨p2,r1,rfl,?_,hR.pure.trans (Ext.new n2),by rw [n2.at_size];exact hR.pure.size,fun b hb=>⟨hR.own b hb,?_⟩⟩⟩
 ·have hb1:∀b,r1.blk b→b<w1.heap.size:=fun b hb=>hR.rows.lt hb
  exact ⟨Box.of_newA n2,(hR.rows.pure (Ext.new n2)).lst,fun b hb e=>by have:=hb1 b hb;have:=n2.at_size;omega,hn,jRW hR.rows⟩
 ·exact (hR.rows.pure (Ext.new n2)).lt hb
theorem c_Left {S:NP} (a:Addr) (s:Sl) (bs:List UInt8) (r:Rd) (w0:World) (h:RdS S w0 a s bs r) (hat:r.at_≤bs.length) :
  Calls prog 164 #[.pointer (some a)] w0 (fun e w'=>∃x:Int,e=.returned (.int .i64 x)∧x=((bs.length - r.at_:Nat):Int)∧Pure w0 w'):=by
 refine w_X3 (some a) w0 (fun x w'=>x=((bs.length - r.at_:Nat):Int)∧Pure w0 w') ?_
 unfold m_X3
 refine ⟨fun hb=>(by cases hb),fun _=>⟨a,rfl,fun w1 hs=>?_⟩⟩
 have h1:=h.pure hs.first
 have hl:s.len=bs.length:=by rw [h.lst.len,qA]
 refine ⟨s,h1.box.cell0,a,rfl,_,h1.atC,?_,hs.first⟩
 rw [hl,IntWalk.i64_in _ (by have:=h.small;omega)];omega
theorem c_At {S:NP} (a:Addr) (s:Sl) (bs:List UInt8) (r:Rd) (w0:World) (h:RdS S w0 a s bs r) :
  Calls prog 165 #[.pointer (some a)] w0 (fun e w'=>∃x:Int,e=.returned (.int .i64 x)∧x=(r.at_:Int)∧w'=w0):=by
 refine w_Y3 (some a) w0 (fun x w'=>x=(r.at_:Int)∧w'=w0) ?_
 unfold m_Y3
 exact ⟨fun hb=>(by cases hb),fun _=>⟨a,rfl,_,h.atC,rfl,rfl⟩⟩
theorem c_Why {S:NP} (a:Addr) (s:Sl) (bs:List UInt8) (r:Rd) (w0:World) (h:RdS S w0 a s bs r) :
  Calls prog 213 #[.pointer (some a)] w0 (fun e w'=>∃x y:Int,e=.returned (.tuple #[.int .i64 x,.int .i64 y])∧x=(r.err:Int)∧y=(r.spot:Int)∧Pure w0 w'):=by
 refine w_A4 (some a) w0 (fun x y w'=>x=(r.err:Int)∧y=(r.spot:Int)∧Pure w0 w') ?_
 unfold m_A4
 refine ⟨fun hb=>(by cases hb),fun _=>⟨a,rfl,fun w1 hs=>?_⟩⟩
 have h1:=h.pure hs.first
 exact ⟨_,h1.errC,a,rfl,_,h1.box.cell (i:=3) rfl,rfl,rfl,hs.first⟩
theorem RetO.after {w w1 w2:World} {e:TypeId} {sz:Nat} {rs:List (List Value)} {s:Sl} (E:Pure w w1) (h:RetO w1 e sz rs s w2):RetO w e sz rs s w2 :=
 ⟨h.rows,fun b hb=>Nat.le_trans E.size (h.own b hb),E.trans h.pure⟩
section
variable {S:NP} (s:Sl) (bs:List UInt8) (k f t x a b:Int) (y:ByteArray) (m:Option Nat) (w0:World) (hs:Lst S w0 1 s (byr bs)) (hz:s.a=none→s=Sl.nil) (hn:bs.length≤10000000000)
include hs hz hn
theorem jRA (n:Nat) (hf:f=n) (hN:n<9223372036854775808) :
  Calls prog 182 #[s.v,.agg #[.int .i64 k,.int .i64 f,.int .i64 t,.int .u64 x,.string y,.int .i64 a,.int .i64 b],.map m] w0 (fun e w'=>∃r:Sl,e=.returned r.v∧RetO w0 5 1 (byr (bs++vS n)) r w'):=by
 subst hf
 refine w_D4 s k n t x y a b m w0 (fun r w'=>RetO w0 5 1 (byr (bs++vS n)) r w') ?_
 unfold m_D4
 intro H1 w1 hs1
 rw [qO (by omega)]
 refine (jAP s bs n w1 (hs.pure hs1.first) hz hn (by omega)).mono ?_
 rintro _ w2 ⟨r,rfl,hR⟩
 exact ⟨r,rfl,hR.kept,hR.after hs1.first⟩
theorem jVL (n:Nat) (ht:t=n) (hN:n<9223372036854775808) :
  Calls prog 186 #[s.v,.agg #[.int .i64 k,.int .i64 f,.int .i64 t,.int .u64 x,.string y,.int .i64 a,.int .i64 b],.map m] w0 (fun e w'=>∃r:Sl,e=.returned r.v∧RetO w0 5 1 (byr (bs++vS n)) r w'):=by
 subst ht
 refine w_G4 s k f n x y a b m w0 (fun r w'=>RetO w0 5 1 (byr (bs++vS n)) r w') ?_
 unfold m_G4
 intro H1 w1 hs1
 rw [qO (by omega)]
 refine (jAP s bs n w1 (hs.pure hs1.first) hz hn (by omega)).mono ?_
 rintro _ w2 ⟨r,rfl,hR⟩
 exact ⟨r,rfl,hR.kept,hR.after hs1.first⟩
theorem jQZ (n:Nat) (hx:x=n) (hN:n<18446744073709551616) :
  Calls prog 188 #[s.v,.agg #[.int .i64 k,.int .i64 f,.int .i64 t,.int .u64 x,.string y,.int .i64 a,.int .i64 b],.map m] w0 (fun e w'=>∃r:Sl,e=.returned r.v∧RetO w0 5 1 (byr (bs++vS n)) r w'):=by
 subst hx
 refine w_I4 s k f t n y a b m w0 (fun r w'=>RetO w0 5 1 (byr (bs++vS n)) r w') ?_
 unfold m_I4
 intro H1 w1 hs1
 refine (jAP s bs n w1 (hs.pure hs1.first) hz hn (by omega)).mono ?_
 rintro _ w2 ⟨r,rfl,hR⟩
 exact ⟨r,rfl,hR.kept,hR.after hs1.first⟩
theorem jOJ (hN:y.size≤10000000000) :
  Calls prog 190 #[s.v,.agg #[.int .i64 k,.int .i64 f,.int .i64 t,.int .u64 x,.string y,.int .i64 a,.int .i64 b],.map m] w0 (fun e w'=>∃r:Sl,e=.returned r.v∧RetO w0 5 1 (byr (bs++yG y)) r w'):=by
 refine w_L4 s k f t x y a b m w0 (fun r w'=>RetO w0 5 1 (byr (bs++yG y)) r w') ?_
 unfold m_L4
 intro H1 w1 hs1
 refine (jQY s bs y w1 (hs.pure hs1.first) hz hn hN).mono ?_
 rintro _ w2 ⟨r,rfl,hR⟩
 exact ⟨r,rfl,hR.kept,hR.after hs1.first⟩
theorem c_putA (mb:Nat) (M:List (Int×Int)) (n:Nat) (hM:IMap (fun i:Int=>.int .i64 i) w0 mb M) (hk:SE.look M a=some (n:Int)) (hN:n<9223372036854775808) :
  Calls prog 194 #[s.v,.agg #[.int .i64 k,.int .i64 f,.int .i64 t,.int .u64 x,.string y,.int .i64 a,.int .i64 b],.map (some mb)] w0 (fun e w'=>∃r:Sl,e=.returned r.v∧RetO w0 5 1 (byr (bs++vS n)) r w'):=by
 refine w_O4 s k f t x y a b (some mb) w0 (fun r w'=>RetO w0 5 1 (byr (bs++vS n)) r w') ?_
 unfold m_O4
 intro H1 w1 hs1
 rcases (hM.pure hs1.first).get (P:=prog) (T:=205) underlying205 underlying23 (zeroValue3 _) a false with ⟨h1,_⟩ | ⟨v,h1,hg⟩
 ·rw [hk] at h1;cases h1
 rw [hk] at h1;cases h1
 refine ⟨_,hg,?_⟩
 rw [qO (by omega)]
 refine (jAP s bs n w1 (hs.pure hs1.first) hz hn (by omega)).mono ?_
 rintro _ w2 ⟨r,rfl,hR⟩
 exact ⟨r,rfl,hR.kept,hR.after hs1.first⟩
theorem c_putB (mb:Nat) (M:List (Int×Int)) (n:Nat) (hM:IMap (fun i:Int=>.int .i64 i) w0 mb M) (hk:SE.look M b=some (n:Int)) (hN:n<9223372036854775808) :
  Calls prog 196 #[s.v,.agg #[.int .i64 k,.int .i64 f,.int .i64 t,.int .u64 x,.string y,.int .i64 a,.int .i64 b],.map (some mb)] w0 (fun e w'=>∃r:Sl,e=.returned r.v∧RetO w0 5 1 (byr (bs++vS n)) r w'):=by
 refine w_Q4 s k f t x y a b (some mb) w0 (fun r w'=>RetO w0 5 1 (byr (bs++vS n)) r w') ?_
 unfold m_Q4
 intro H1 w1 hs1
 rcases (hM.pure hs1.first).get (P:=prog) (T:=205) underlying205 underlying23 (zeroValue3 _) b false with ⟨h1,_⟩ | ⟨v,h1,hg⟩
 ·rw [hk] at h1;cases h1
 rw [hk] at h1;cases h1
 refine ⟨_,hg,?_⟩
 rw [qO (by omega)]
 refine (jAP s bs n w1 (hs.pure hs1.first) hz hn (by omega)).mono ?_
 rintro _ w2 ⟨r,rfl,hR⟩
 exact ⟨r,rfl,hR.kept,hR.after hs1.first⟩
end
end Go.Proofs
end
