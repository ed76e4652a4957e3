import Derived.Test.YtkafbiknboamlaaGreatDoorProg
import Derived.KernelRfl
import Derived.Test.YtkafbiknboamlaaGreatDoorPa1
import Init.Data.Nat
import Derived.IntWalk
import Derived.Shelf.Strconv.Itoa3
import Derived.Laws.DeepStrings4
import Derived.Laws.Strings
import Derived.Laws.Concat
section
open Go Go.SE
open Go.IntKind renaming i64 → q6
namespace Go.Proofs
open Tryz
set_option maxRecDepth 100000
set_option maxHeartbeats 4000000
attribute [local irreducible] wpL wpX opE wpE Calls
def m_Z_l1 (aI:Sl) (most1 n1 i1:Int) (w0:World) (Hl1:NP) (wl1:World) (Kc1:Int→Int→NP→WP) (K:Int→WP):Prop :=Br ((decide (i1<(aI.len:Int))) && (decide (n1≤most1))) (∃a1:Addr,At aI i1 6 a1∧∀H2 w2,Hst w0 Hl1 wl1 H2 w2→∃aO aP aQ aR aS bB,Row w2 a1 (Aa aO aP aQ aR aS bB)∧Calls prog 10 #[(.agg #[(vi aO),(vi aP),(vi aQ),(vu aR),(vs aS),bB.v]),(vi (q6.wrap (most1 - n1)))] w2 (fun e w3=>∃r1,e=.returned (vi r1)∧Kept H2 w2 w3∧Kc1 (q6.wrap (n1+r1)) (q6.wrap (i1+1)) H2 w3)) (∀H2 w2,Hst w0 Hl1 wl1 H2 w2→K n1 w2)
def m_Z (aD aE:Int) (aF aG:Int) (aH:ByteArray) (aI:Sl) (most1:Int) (w0:World) (K:Int→WP):Prop :=∀H1 w1,Hst w0 None w0 H1 w1→∃(I1:Int→Int→NP→WP) (mu1:Int→Int→World→Nat),I1 1 0 H1 w1∧∀(n1 i1:Int) (Hl1:NP) (wl1:World),Hst w0 Hl1 wl1 Hl1 wl1→I1 n1 i1 Hl1 wl1→m_Z_l1 aI most1 n1 i1 w0 Hl1 wl1 (fun y'0 y'1 H' w'=>I1 y'0 y'1 H' w'∧mu1 y'0 y'1 w'<mu1 n1 i1 wl1) K
theorem w_Z (aD aE aF aG aH aI most1 w0 K) (h:m_Z aD aE aF aG aH aI most1 w0 K):
  Calls prog 10 #[(.agg #[(vi aD),(vi aE),(vi aF),(vu aG),(vs aH),aI.v]),(vi most1)] w0 (fun e w'=>∃r2,e=.returned (vi r2)∧K r2 w'):=by
 refine cw (args:=[(Ab aD aE aF aG aH aI),(vi most1)]) func10 ntmps10 ?_
 obtain ⟨hs,hb⟩:=st0 w0
 refine eg (nw3 (Aa aD aE aF aG aH aI) 28 hs hb xb fun p1 w1 H1 hs hb=>q (ln (eg (q (ln (jB (eg (q (ln (jO ?_))))))))))
 have ⟨h,hs⟩:=hs.hr (h H1 w1)
 obtain ⟨I1,mu1,h0,hr⟩:=h
 refine zU (σ:=Int×Int×NP×World) (fun s ρ w=>w=s.2.2.2∧Has ρ [(1,(vi most1)),(2,(vp (some p1))),(5,(vi s.1)),(6,(vi s.2.1))]∧Hst w0 s.2.2.1 w s.2.2.1 w∧HB s.2.2.1 w [(p1,(Aa aD aE aF aG aH aI),28)]∧I1 s.1 s.2.1 s.2.2.1 s.2.2.2) (fun s=>mu1 s.1 s.2.1 s.2.2.2) (1,0,H1,w1) ⟨rfl,hm,hs,hb,h0⟩ ?_
 rintro ⟨n1,i1,Hl1,wl1⟩ ρ w ⟨hw,hH,hs,hb,hI⟩
 dsimp only at hw hH hs hb;subst w
 have h:=hr n1 i1 Hl1 wl1 hs hI
 refine jY hH (jB (jB (zH (fun ρ wJ=>∃b1'0:Bool,∃HJ:NP,((decide (i1<(aI.len:Int)))=b1'0)∧Hst w0 Hl1 wl1 HJ wJ∧HB HJ wJ [(p1,(Aa aD aE aF aG aH aI),28)]∧Has ρ [(1,(vi most1)),(2,(vp (some p1))),(5,(vi n1)),(6,(vi i1)),(16,(vb (b1'0 && (decide (n1≤most1)))))]) ?_ ?_)))
 refine rg (qb (q3 (xl (isAgg22 _) (hb.d 0 5 gZ)) (qc ?_)))
 rcases bte (decide (i1<(aI.len:Int))) with hg2 | hg2
 refine qk 12 hg2 (qk 12 hg2 (qk 12 hg2 (q2 (vb (decide (n1≤most1))) (xT hg2) (ln ⟨true,_,hg2,hs,hb,hm⟩))))
 refine sj3 12 hg2 (q2 (vb false) (xF hg2) (ln ⟨false,_,hg2,hs,hb,hm⟩))
 rintro ρ w2 ⟨b1'0,H2,he0,hs,hb,hH⟩
 subst he0
 refine zA hH (jL (cbr h ?_ ?_))<;>intro h
 refine jF (jL (jB (jO (rg (qb (q3 (xl (isAgg22 _) (hb.d 0 5 gZ)) (q (qi (runUnderlying22 _) (sizeOf28 _) h fun a1 h=>?_))))))))
 have ⟨h,hs⟩:=hs.hr (h H2 w2)
 obtain ⟨aO,aP,aQ,aR,aS,bB,hv1,h⟩:=h
 refine qa (isAgg28 _) (sizeOf28 _) hv1 (qc (sc call10 (h.mono fun e w3 ⟨r1,k,hk,h⟩=>have ⟨hs,hb⟩:=hk.hh hs hb;⟨_,k,?_⟩)))
 refine qb (jC (kW (jL (rg (qc (ln ⟨((q6.wrap (n1+r1)),(q6.wrap (i1+1)),H2,w3),⟨rfl,hm,hs,hb,h.1⟩,h.2⟩))))))
 refine zI (vM (vM (vI (jL (eg (q0 (vi n1) (q0 (vi n1) (ln (er ?_)))))))))
 have ⟨h,hs⟩:=hs.hr (h H2 w2)
 refine rs1 results10 ⟨n1,rfl,h⟩
def m_V1  (w0:World) (K:(Option Addr)→WP):Prop :=∀p1 w1,New w0 (.cells #[Sl.nil.v,Sl.nil.v,Sl.nil.v] 52) p1 w1→K (some p1) w1
theorem w_V1  (w0:World) (K:(Option Addr)→WP) (h:m_V1  w0 K) :
  Calls prog 12 #[] w0 (fun e w'=>∃r1,e=.returned (vp r1)∧K r1 w'):=by
 refine cw (args:=[]) func12 ntmps12 (eg (q0 (vp none) (ln (eg (q0 (.agg #[Sl.nil.v,Sl.nil.v,Sl.nil.v]) (sn (O:=(.cells #[Sl.nil.v,Sl.nil.v,Sl.nil.v] 52)) xb ?_))))))
 intro p1 w1 hn1
 have h:=h p1 w1 hn1
 refine q (ln (er (rs1 results12 ⟨(some p1),rfl,h⟩)))
def s_U (aD aE:Int) (aF aG:Int) (aH:ByteArray) (aI:Sl):Int×Int×Int×Int×ByteArray×Int×Int :=(aD,aE,aF,aG,aH,0,0)
theorem pw_U (aD aE:Int) (aF aG:Int) (aH:ByteArray) (aI:Sl) (w0:World) :
  Calls prog 111 #[(.agg #[(vi aD),(vi aE),(vi aF),(vu aG),(vs aH),aI.v])] w0 (fun e w'=>(e=.returned (Ad aD aE aF aG aH 0 0))∧Pure w0 w'):=by
 refine cw (args:=[(Ab aD aE aF aG aH aI)]) func111 ntmps111 ?_
 obtain ⟨hs,hb⟩:=st0 w0
 refine eg (nw3 (Aa aD aE aF aG aH aI) 28 hs hb xb fun p1 w1 H1 hs hb=>nw3 (Aj 0 0 0 0 0 0) 103 hs hb (jW (zeroValue103 _) rfl) fun p2 w2 H2 hs hb=>ln (eg (q (q3 (xl (isAgg3 _) (hb.d0 1 (gS gZ))) (q (q3 (xl (isAgg3 _) (hb.d 1 1 (gS gZ))) (q (q3 (xl (isAgg3 _) (hb.d 1 2 (gS gZ))) (q (q3 (xl (isAgg26 _) (hb.d 1 3 (gS gZ))) (q (q3 (xl (isAgg9 _) (hb.d 1 4 (gS gZ))) (q (zF (jG rfl) (xo p2 (Ac aD aE aF aG aH 0 0) (sizeOf103 _) (hb.k0 0 7 gZ)) ?_))))))))))))))
 intro w3 hn3
 obtain ⟨hs,hb⟩:=hb.st1 0 hs hn3 gZ
 refine ln (er (uD (.inl rfl) (vs:=[(Ad aD aE aF aG aH 0 0)]) (v:=(Ad aD aE aF aG aH 0 0)) results111 ⟨(rva (isAgg103 _) (sizeOf103 _) (hb.r0 0 7 gZ)),trivial⟩ (by kernel_rfl) ⟨by kernel_rfl,(Ext.refl (F:=None) _).hst hs⟩))
theorem p_U (aD aE:Int) (aF aG:Int) (aH:ByteArray) (aI:Sl) (w0:World):Calls prog 111 #[(.agg #[(.int .i64 aD),(.int .i64 aE),(.int .i64 aF),(.int .u64 aG),(.string aH),aI.v])] w0 (fun e w'=>e=.returned (.agg #[(.int .i64 (s_U aD aE aF aG aH aI).1),(.int .i64 (s_U aD aE aF aG aH aI).2.1),(.int .i64 (s_U aD aE aF aG aH aI).2.2.1),(.int .u64 (s_U aD aE aF aG aH aI).2.2.2.1),(.string (s_U aD aE aF aG aH aI).2.2.2.2.1),(.int .i64 (s_U aD aE aF aG aH aI).2.2.2.2.2.1),(.int .i64 (s_U aD aE aF aG aH aI).2.2.2.2.2.2)])∧Pure w0 w'):=pw_U aD aE aF aG aH aI w0
def s_M1 (kind1:Int):Bool :=((kind1 == 8) || (kind1 == 9))
theorem pw_M1 (kind1:Int) (w0:World) :
  Calls prog 208 #[(vi kind1)] w0 (fun e w'=>(e=.returned (vb ((kind1 == 8) || (kind1 == 9))))∧Pure w0 w'):=by
 refine cw (args:=[(vi kind1)]) func208 ntmps208 (eg (q0 (vb false) (ln (jB ?_))))
 refine zH (fun ρ wJ=>w0=wJ∧Has ρ [(2,(vb ((kind1 == 8) || (kind1 == 9))))]) ?_ ?_
 refine rg (qc (jM 3 (fun ρ wJ=>∃b3'0:Bool,((kind1 == 8)=b3'0)∧w0=wJ∧Has ρ [(8,(vb (b3'0 || (kind1 == 9))))]) ?_ ?_))
 rintro ρ w3 ⟨b3'0,he0,hw,hH⟩
 subst he0
 subst hw
 refine jR hH (q (ln ⟨rfl,hm⟩))
 rcases bte (kind1 == 8) with hg4 | hg4
 refine sj2 5 hg4 (q2 (vb true) (xT hg4) (jC ⟨true,hg4,rfl,hm⟩))
 refine qk 5 hg4 (qk 5 hg4 (q2 (vb (kind1 == 9)) (xF hg4) (jC ⟨false,hg4,rfl,hm⟩)))
 rintro ρ w2 ⟨hw,hH⟩
 subst hw
 refine zA hH (jL (er (rs1 results208 (v:=(vb ((kind1 == 8) || (kind1 == 9)))) ⟨by kernel_rfl,Ext.refl _⟩)))
theorem p_M1 (kind1:Int) (w0:World):Calls prog 208 #[(.int .i64 kind1)] w0 (fun e w'=>e=.returned (.bool (s_M1 kind1))∧Pure w0 w'):=pw_M1 kind1 w0
def s_B (kind1:Int):Bool :=((((kind1 == 1) || (kind1 == 6)) || (kind1 == 7)) || ((kind1 == 8) || (kind1 == 9)))
theorem pw_B (kind1:Int) (w0:World) :
  Calls prog 206 #[(vi kind1)] w0 (fun e w'=>(e=.returned (vb ((((kind1 == 1) || (kind1 == 6)) || (kind1 == 7)) || ((kind1 == 8) || (kind1 == 9)))))∧Pure w0 w'):=by
 refine cw (args:=[(vi kind1)]) func206 ntmps206 ?_
 obtain ⟨hs,hb⟩:=st0 w0
 refine eg (q (ln (jB (zH (fun ρ wJ=>∃HJ:NP,Hst w0 None w0 HJ wJ∧HB HJ wJ []∧Has ρ [(2,(vb ((((kind1 == 1) || (kind1 == 6)) || (kind1 == 7)) || ((kind1 == 8) || (kind1 == 9)))))]) ?_ ?_))))
 refine rg (qc (jM 3 (fun ρ wJ=>∃b5'0:Bool,∃HJ:NP,((kind1 == 1)=b5'0)∧Hst w0 None w0 HJ wJ∧HB HJ wJ []∧Has ρ [(0,(vi kind1)),(8,(vb (b5'0 || (kind1 == 6))))]) ?_ ?_))
 rintro ρ w7 ⟨b5'0,H5,he0,hs,hb,hH⟩
 subst he0
 refine jR hH (q (jM 3 (fun ρ wJ=>∃b6'0:Bool,∃HJ:NP,(((kind1 == 1) || (kind1 == 6))=b6'0)∧Hst w0 None w0 HJ wJ∧HB HJ wJ []∧Has ρ [(0,(vi kind1)),(12,(vb (b6'0 || (kind1 == 7))))]) ?_ ?_))
 rintro ρ w8 ⟨b6'0,H6,he0,hs,hb,hH⟩
 subst he0
 refine jR hH (q (jM 3 (fun ρ wJ=>∃b7'0:Bool,∃HJ:NP,((((kind1 == 1) || (kind1 == 6)) || (kind1 == 7))=b7'0)∧Hst w0 None w0 HJ wJ∧HB HJ wJ []∧Has ρ [(16,(vb (b7'0 || ((kind1 == 8) || (kind1 == 9)))))]) ?_ ?_))
 rintro ρ w10 ⟨b7'0,H7,he0,hs,hb,hH⟩
 subst he0
 refine jR hH (q (ln ⟨_,hs,hb,hm⟩))
 rcases bte (((kind1 == 1) || (kind1 == 6)) || (kind1 == 7)) with hg12 | hg12
 refine sj2 13 hg12 (q2 (vb true) (xT hg12) (jC ⟨true,_,hg12,hs,hb,hm⟩))
 refine qk 13 hg12 (kQ (wy 13 hg12) (xc call208) ((p_M1 kind1 w8).mono ?_))
 rintro e w11 ⟨he,hE⟩
 refine ⟨_,he,?_⟩
 obtain ⟨hs,hb⟩:=hs.pp hb hE
 refine q2 (vb ((kind1 == 8) || (kind1 == 9))) (xF hg12) (jC ⟨false,_,hg12,hs,hb,hm⟩)
 rcases bte ((kind1 == 1) || (kind1 == 6)) with hg10 | hg10
 refine sj2 9 hg10 (q2 (vb true) (xT hg10) (jC ⟨true,_,hg10,hs,hb,hm⟩))
 refine qk 9 hg10 (qk 9 hg10 (q2 (vb (kind1 == 7)) (xF hg10) (jC ⟨false,_,hg10,hs,hb,hm⟩)))
 rcases bte (kind1 == 1) with hg8 | hg8
 refine sj2 5 hg8 (q2 (vb true) (xT hg8) (jC ⟨true,_,hg8,hs,hb,hm⟩))
 refine qk 5 hg8 (qk 5 hg8 (q2 (vb (kind1 == 6)) (xF hg8) (jC ⟨false,_,hg8,hs,hb,hm⟩)))
 rintro ρ w6 ⟨H4,hs,hb,hH⟩
 refine zA hH (jL (er (rs1 results206 (v:=(vb ((((kind1 == 1) || (kind1 == 6)) || (kind1 == 7)) || ((kind1 == 8) || (kind1 == 9))))) ⟨by kernel_rfl,(Ext.refl (F:=None) _).hst hs⟩)))
theorem p_B (kind1:Int) (w0:World):Calls prog 206 #[(.int .i64 kind1)] w0 (fun e w'=>e=.returned (.bool (s_B kind1))∧Pure w0 w'):=pw_B kind1 w0
def s_A (kind1:Int):Int :=(cond (kind1 == 4) 2 (cond (cond (kind1 == 5) (kind1 == 5) (cond (kind1 == 7) (kind1 == 7) (cond (kind1 == 8) (kind1 == 8) (kind1 == 9)))) 1 0))
theorem pw_A (kind1:Int) (w0:World) :
  Calls prog 64 #[(vi kind1)] w0 (fun e w'=>∃b'0 b'1:Bool,((kind1 == 4)=b'0∧(cond (kind1 == 5) (kind1 == 5) (cond (kind1 == 7) (kind1 == 7) (cond (kind1 == 8) (kind1 == 8) (kind1 == 9))))=b'1)∧(e=.returned (vi (cond b'0 2 (cond b'1 1 0))))∧Pure w0 w'):=by
 refine cw (args:=[(vi kind1)]) func64 ntmps64 (eg (q0 (vi 0) (ln (jB (eg (q0 (vi kind1) (ln ?_)))))))
 refine jO (eg (qb (ln (zO (t:=(kind1 == 4)) (by kernel_rfl) (fun hc1=>?_) (fun hc1=>?_)))))
 refine eg (q (ln (er (vR (zM (rs1 results64 (v:=(vi 2)) ⟨true,_,⟨hc1,rfl⟩,by kernel_rfl,Ext.refl _⟩))))))
 refine jB (eg (qb (ln (zH (fun ρ wJ=>∃b1'0 b1'1 b1'2:Bool,((kind1 == 5)=b1'0)∧((kind1 == 7)=b1'1)∧((kind1 == 8)=b1'2)∧w0=wJ∧Has ρ [(6,(vb (cond b1'0 (kind1 == 5) (cond b1'1 (kind1 == 7) (cond b1'2 (kind1 == 8) (kind1 == 9))))))]) ?_ ?_))))
 refine zO (t:=(kind1 == 5)) (by kernel_rfl) (fun hc5=>?_) (fun hc5=>?_)
 refine jF (jL ⟨true,_,_,hc5,rfl,rfl,rfl,hm⟩)
 refine eg (qb (ln (zO (t:=(kind1 == 7)) (by kernel_rfl) (fun hc6=>?_) (fun hc6=>?_))))
 refine jF (jL ⟨false,true,_,hc5,hc6,rfl,rfl,hm⟩)
 refine eg (qb (ln (zO (t:=(kind1 == 8)) (by kernel_rfl) (fun hc7=>?_) (fun hc7=>?_))))
 refine jF (jL ⟨false,false,true,hc5,hc6,hc7,rfl,hm⟩)
 refine rg (qb (ln ⟨false,false,false,hc5,hc6,hc7,rfl,hm⟩))
 rintro ρ w1 ⟨b1'0,b1'1,b1'2,he0,he1,he2,hw,hH⟩
 subst he0
 subst he1
 subst he2
 subst hw
 refine zA hH (jL (zO (t:=(cond (kind1 == 5) (kind1 == 5) (cond (kind1 == 7) (kind1 == 7) (cond (kind1 == 8) (kind1 == 8) (kind1 == 9))))) (by kernel_rfl) (fun hc8=>?_) (fun hc8=>?_)))
 refine eg (q (ln (er (vR (zM (rs1 results64 (v:=(vi 1)) ⟨false,true,⟨hc1,hc8⟩,by kernel_rfl,Ext.refl _⟩))))))
 refine jF (kW (jL (eg (q (ln (er (rs1 results64 (v:=(vi 0)) ⟨false,false,⟨hc1,hc8⟩,by kernel_rfl,Ext.refl _⟩)))))))
theorem p_A (kind1:Int) (w0:World):Calls prog 64 #[(.int .i64 kind1)] w0 (fun e w'=>e=.returned (.int .i64 (s_A kind1))∧Pure w0 w'):=by
 refine (pw_A kind1 w0).mono ?_;rintro e w' ⟨b'0,b'1,⟨e0,e1⟩,h,E⟩;subst e0;subst e1;exact ⟨h,E⟩
def s_V (aA aB:Int) (aC aK:Int) (aJ:ByteArray) (aL aM:Int):Bool :=(!((decide (aA<1)) || (decide (aA>9))) && (((((((s_B aA) || (aB == 0)) && (((aA == 8) || (aA == 9)) || (aC == 0))) && ((aA == 2) || (aK == 0))) && ((aA == 3) || (decide (aJ=⟨#[]⟩)))) && ((decide ((s_A aA)≥1)) || (aL == 0))) && ((((s_A aA):Int) == 2) || (aM == 0))))
theorem pw_V (aA aB:Int) (aC aK:Int) (aJ:ByteArray) (aL aM:Int) (w0:World) :
  Calls prog 205 #[(.agg #[(vi aA),(vi aB),(vi aC),(vu aK),(vs aJ),(vi aL),(vi aM)])] w0 (fun e w'=>∃b'0:Bool,(((decide (aA<1)) || (decide (aA>9)))=b'0)∧(e=.returned (vb (!b'0 && (((((((s_B aA) || (aB == 0)) && (((aA == 8) || (aA == 9)) || (aC == 0))) && ((aA == 2) || (aK == 0))) && ((aA == 3) || (decide (aJ=⟨#[]⟩)))) && ((decide ((s_A aA)≥1)) || (aL == 0))) && ((((s_A aA):Int) == 2) || (aM == 0))))))∧Pure w0 w'):=by
 refine cw (args:=[(Ad aA aB aC aK aJ aL aM)]) func205 ntmps205 ?_
 obtain ⟨hs,hb⟩:=st0 w0
 refine eg (nw3 (Ac aA aB aC aK aJ aL aM) 103 hs hb xb fun p1 w1 H1 hs hb=>q (ln (jB (jB (zH (fun ρ wJ=>∃b1'0:Bool,∃HJ:NP,((decide (aA<1))=b1'0)∧Hst w0 None w0 HJ wJ∧HB HJ wJ [(p1,(Ac aA aB aC aK aJ aL aM),103)]∧Has ρ [(1,(vp (some p1))),(10,(vb (b1'0 || (decide (aA>9)))))]) ?_ ?_)))))
 refine rg (q (q3 (xl (isAgg3 _) (hb.d0 0 gZ)) (qb ?_)))
 rcases bte (decide (aA<1)) with hg2 | hg2
 refine sj3 6 hg2 (q2 (vb true) (xT hg2) (ln ⟨true,_,hg2,hs,hb,hm⟩))
 refine qk 6 hg2 (q4 6 hg2 (xl (isAgg3 _) (hb.d0 0 gZ)) (qk 6 hg2 (q2 (vb (decide (aA>9))) (xF hg2) (ln ⟨false,_,hg2,hs,hb,hm⟩))))
 rintro ρ w2 ⟨b1'0,H2,he0,hs,hb,hH⟩
 subst he0
 refine zA hH (jL (zO (t:=((decide (aA<1)) || (decide (aA>9)))) (by kernel_rfl) (fun hc1=>?_) (fun hc1=>?_)))
 refine eg (q (ln (er (zM (rs1 results205 (v:=(vb false)) ⟨true,hc1,by kernel_rfl,(Ext.refl (F:=None) _).hst hs⟩)))))
 refine jF (jL (jB (zH (fun ρ wJ=>∃HJ:NP,Hst w0 None w0 HJ wJ∧HB HJ wJ [(p1,(Ac aA aB aC aK aJ aL aM),103)]∧Has ρ [(2,(vb (((((((s_B aA) || (aB == 0)) && (((aA == 8) || (aA == 9)) || (aC == 0))) && ((aA == 2) || (aK == 0))) && ((aA == 3) || (decide (aJ=⟨#[]⟩)))) && ((decide ((s_A aA)≥1)) || (aL == 0))) && ((((s_A aA):Int) == 2) || (aM == 0)))))]) ?_ ?_)))
 refine rg (q (q3 (xl (isAgg3 _) (hb.d0 0 gZ)) (sc call206 ((p_B aA w2).mono ?_))))
 rintro e w27 ⟨he,hE⟩
 refine ⟨_,he,?_⟩
 obtain ⟨hs,hb⟩:=hs.pp hb hE
 refine q (jM 4 (fun ρ wJ=>∃b19'0:Bool,∃HJ:NP,((s_B aA)=b19'0)∧Hst w0 None w0 HJ wJ∧HB HJ wJ [(p1,(Ac aA aB aC aK aJ aL aM),103)]∧Has ρ [(1,(vp (some p1))),(18,(vb (b19'0 || (aB == 0))))]) ?_ ?_)
 rintro ρ w28 ⟨b19'0,H20,he0,hs,hb,hH⟩
 subst he0
 refine jR hH (q (jM 9 (fun ρ wJ=>∃b21'0:Bool,∃HJ:NP,(((s_B aA) || (aB == 0))=b21'0)∧Hst w0 None w0 HJ wJ∧HB HJ wJ [(p1,(Ac aA aB aC aK aJ aL aM),103)]∧Has ρ [(1,(vp (some p1))),(28,(vb (b21'0 && (((aA == 8) || (aA == 9)) || (aC == 0)))))]) ?_ ?_))
 rintro ρ w31 ⟨b21'0,H22,he0,hs,hb,hH⟩
 subst he0
 refine jR hH (q (jM 9 (fun ρ wJ=>∃b24'0:Bool,∃HJ:NP,((((s_B aA) || (aB == 0)) && (((aA == 8) || (aA == 9)) || (aC == 0)))=b24'0)∧Hst w0 None w0 HJ wJ∧HB HJ wJ [(p1,(Ac aA aB aC aK aJ aL aM),103)]∧Has ρ [(1,(vp (some p1))),(38,(vb (b24'0 && ((aA == 2) || (aK == 0)))))]) ?_ ?_))
 rintro ρ w35 ⟨b24'0,H25,he0,hs,hb,hH⟩
 subst he0
 refine jR hH (q (jM 9 (fun ρ wJ=>∃b27'0:Bool,∃HJ:NP,(((((s_B aA) || (aB == 0)) && (((aA == 8) || (aA == 9)) || (aC == 0))) && ((aA == 2) || (aK == 0)))=b27'0)∧Hst w0 None w0 HJ wJ∧HB HJ wJ [(p1,(Ac aA aB aC aK aJ aL aM),103)]∧Has ρ [(1,(vp (some p1))),(48,(vb (b27'0 && ((aA == 3) || (decide (aJ=⟨#[]⟩))))))]) ?_ ?_))
 rintro ρ w38 ⟨b27'0,H28,he0,hs,hb,hH⟩
 subst he0
 refine jR hH (q (jM 10 (fun ρ wJ=>∃b30'0:Bool,∃HJ:NP,((((((s_B aA) || (aB == 0)) && (((aA == 8) || (aA == 9)) || (aC == 0))) && ((aA == 2) || (aK == 0))) && ((aA == 3) || (decide (aJ=⟨#[]⟩))))=b30'0)∧Hst w0 None w0 HJ wJ∧HB HJ wJ [(p1,(Ac aA aB aC aK aJ aL aM),103)]∧Has ρ [(1,(vp (some p1))),(59,(vb (b30'0 && ((decide ((s_A aA)≥1)) || (aL == 0)))))]) ?_ ?_))
 rintro ρ w42 ⟨b30'0,H31,he0,hs,hb,hH⟩
 subst he0
 refine jR hH (q (jM 10 (fun ρ wJ=>∃b33'0:Bool,∃HJ:NP,(((((((s_B aA) || (aB == 0)) && (((aA == 8) || (aA == 9)) || (aC == 0))) && ((aA == 2) || (aK == 0))) && ((aA == 3) || (decide (aJ=⟨#[]⟩)))) && ((decide ((s_A aA)≥1)) || (aL == 0)))=b33'0)∧Hst w0 None w0 HJ wJ∧HB HJ wJ [(p1,(Ac aA aB aC aK aJ aL aM),103)]∧Has ρ [(70,(vb (b33'0 && ((((s_A aA):Int) == 2) || (aM == 0)))))]) ?_ ?_))
 rintro ρ w47 ⟨b33'0,H34,he0,hs,hb,hH⟩
 subst he0
 refine jR hH (q (ln ⟨_,hs,hb,hm⟩))
 rcases bte ((((((s_B aA) || (aB == 0)) && (((aA == 8) || (aA == 9)) || (aC == 0))) && ((aA == 2) || (aK == 0))) && ((aA == 3) || (decide (aJ=⟨#[]⟩)))) && ((decide ((s_A aA)≥1)) || (aL == 0))) with hg64 | hg64
 refine qk 60 hg64 (q4 60 hg64 (xl (isAgg3 _) (hb.d0 0 gZ)) (kQ (wy 60 hg64) (xc call64) ((p_A aA w42).mono ?_)))
 rintro e w48 ⟨he,hE⟩
 refine ⟨_,he,?_⟩
 obtain ⟨hs,hb⟩:=hs.pp hb hE
 refine qk 60 hg64 (qk 60 hg64 (jM 4 (fun ρ wJ=>∃b34'0:Bool,∃HJ:NP,((((s_A aA):Int) == 2)=b34'0)∧Hst w0 None w0 HJ wJ∧HB HJ wJ [(p1,(Ac aA aB aC aK aJ aL aM),103)]∧Has ρ [(60,(vb ((((((s_B aA) || (aB == 0)) && (((aA == 8) || (aA == 9)) || (aC == 0))) && ((aA == 2) || (aK == 0))) && ((aA == 3) || (decide (aJ=⟨#[]⟩)))) && ((decide ((s_A aA)≥1)) || (aL == 0))))),(69,(vb (b34'0 || (aM == 0))))]) ?_ ?_))
 rintro ρ w49 ⟨b34'0,H35,he0,hs,hb,hH⟩
 subst he0
 refine jR hH (q2 (vb ((((s_A aA):Int) == 2) || (aM == 0))) (xT hg64) (jC ⟨true,_,hg64,hs,hb,hm⟩))
 rcases bte (((s_A aA):Int) == 2) with hg66 | hg66
 refine sj3 65 hg66 (stq (v:=(vb true)) (wy 60 hg64) (xT hg66) (jC ⟨true,_,hg66,hs,hb,hm⟩))
 refine qk 65 hg66 (q4 65 hg66 (xl (isAgg23 _) (hb.d 0 6 gZ)) (qk 65 hg66 (stq (v:=(vb (aM == 0))) (wy 60 hg64) (xF hg66) (jC ⟨false,_,hg66,hs,hb,hm⟩))))
 refine sj5 60 hg64 (sm (sm (sm (sj 60 hg64 (q2 (vb false) (xF hg64) (jC ⟨false,_,hg64,hs,hb,hm⟩))))))
 rcases bte (((((s_B aA) || (aB == 0)) && (((aA == 8) || (aA == 9)) || (aC == 0))) && ((aA == 2) || (aK == 0))) && ((aA == 3) || (decide (aJ=⟨#[]⟩)))) with hg58 | hg58
 refine qk 49 hg58 (q4 49 hg58 (xl (isAgg3 _) (hb.d0 0 gZ)) (kQ (wy 49 hg58) (xc call64) ((p_A aA w38).mono ?_)))
 rintro e w43 ⟨he,hE⟩
 refine ⟨_,he,?_⟩
 obtain ⟨hs,hb⟩:=hs.pp hb hE
 refine qk 49 hg58 (qk 49 hg58 (jM 4 (fun ρ wJ=>∃b31'0:Bool,∃HJ:NP,((decide ((s_A aA)≥1))=b31'0)∧Hst w0 None w0 HJ wJ∧HB HJ wJ [(p1,(Ac aA aB aC aK aJ aL aM),103)]∧Has ρ [(1,(vp (some p1))),(49,(vb (((((s_B aA) || (aB == 0)) && (((aA == 8) || (aA == 9)) || (aC == 0))) && ((aA == 2) || (aK == 0))) && ((aA == 3) || (decide (aJ=⟨#[]⟩)))))),(58,(vb (b31'0 || (aL == 0))))]) ?_ ?_))
 rintro ρ w44 ⟨b31'0,H32,he0,hs,hb,hH⟩
 subst he0
 refine jR hH (q2 (vb ((decide ((s_A aA)≥1)) || (aL == 0))) (xT hg58) (jC ⟨true,_,hg58,hs,hb,hm⟩))
 rcases bte (decide ((s_A aA)≥1)) with hg60 | hg60
 refine sj3 54 hg60 (stq (v:=(vb true)) (wy 49 hg58) (xT hg60) (jC ⟨true,_,hg60,hs,hb,hm⟩))
 refine qk 54 hg60 (q4 54 hg60 (xl (isAgg23 _) (hb.d 0 5 gZ)) (qk 54 hg60 (stq (v:=(vb (aL == 0))) (wy 49 hg58) (xF hg60) (jC ⟨false,_,hg60,hs,hb,hm⟩))))
 refine sj5 49 hg58 (sm (sm (sm (sj 49 hg58 (q2 (vb false) (xF hg58) (jC ⟨false,_,hg58,hs,hb,hm⟩))))))
 rcases bte ((((s_B aA) || (aB == 0)) && (((aA == 8) || (aA == 9)) || (aC == 0))) && ((aA == 2) || (aK == 0))) with hg52 | hg52
 refine qk 39 hg52 (q4 39 hg52 (xl (isAgg3 _) (hb.d0 0 gZ)) (qk 39 hg52 (qk 39 hg52 (jM 4 (fun ρ wJ=>∃b28'0:Bool,∃HJ:NP,((aA == 3)=b28'0)∧Hst w0 None w0 HJ wJ∧HB HJ wJ [(p1,(Ac aA aB aC aK aJ aL aM),103)]∧Has ρ [(1,(vp (some p1))),(39,(vb ((((s_B aA) || (aB == 0)) && (((aA == 8) || (aA == 9)) || (aC == 0))) && ((aA == 2) || (aK == 0))))),(47,(vb (b28'0 || (decide (aJ=⟨#[]⟩)))))]) ?_ ?_))))
 rintro ρ w39 ⟨b28'0,H29,he0,hs,hb,hH⟩
 subst he0
 refine jR hH (q2 (vb ((aA == 3) || (decide (aJ=⟨#[]⟩)))) (xT hg52) (jC ⟨true,_,hg52,hs,hb,hm⟩))
 rcases bte (aA == 3) with hg54 | hg54
 refine sj3 43 hg54 (stq (v:=(vb true)) (wy 39 hg52) (xT hg54) (jC ⟨true,_,hg54,hs,hb,hm⟩))
 refine qk 43 hg54 (q4 43 hg54 (xl (isAgg9 _) (hb.d 0 4 gZ)) (stq (v:=(vb (decide (aJ=⟨#[]⟩)))) (wy 43 hg54) (jGJ (by kernel_rfl) (by kernel_rfl)) (stq (v:=(vb (decide (aJ=⟨#[]⟩)))) (wy 39 hg52) (xF hg54) (jC ⟨false,_,hg54,hs,hb,hm⟩))))
 refine sj4 39 hg52 (sm (sm (sm (sj 39 hg52 (q2 (vb false) (xF hg52) (jC ⟨false,_,hg52,hs,hb,hm⟩))))))
 rcases bte (((s_B aA) || (aB == 0)) && (((aA == 8) || (aA == 9)) || (aC == 0))) with hg46 | hg46
 refine qk 29 hg46 (q4 29 hg46 (xl (isAgg3 _) (hb.d0 0 gZ)) (qk 29 hg46 (qk 29 hg46 (jM 4 (fun ρ wJ=>∃b25'0:Bool,∃HJ:NP,((aA == 2)=b25'0)∧Hst w0 None w0 HJ wJ∧HB HJ wJ [(p1,(Ac aA aB aC aK aJ aL aM),103)]∧Has ρ [(1,(vp (some p1))),(29,(vb (((s_B aA) || (aB == 0)) && (((aA == 8) || (aA == 9)) || (aC == 0))))),(37,(vb (b25'0 || (aK == 0))))]) ?_ ?_))))
 rintro ρ w36 ⟨b25'0,H26,he0,hs,hb,hH⟩
 subst he0
 refine jR hH (q2 (vb ((aA == 2) || (aK == 0))) (xT hg46) (jC ⟨true,_,hg46,hs,hb,hm⟩))
 rcases bte (aA == 2) with hg48 | hg48
 refine sj3 33 hg48 (stq (v:=(vb true)) (wy 29 hg46) (xT hg48) (jC ⟨true,_,hg48,hs,hb,hm⟩))
 refine qk 33 hg48 (q4 33 hg48 (xl (isAgg26 _) (hb.d 0 3 gZ)) (qk 33 hg48 (stq (v:=(vb (aK == 0))) (wy 29 hg46) (xF hg48) (jC ⟨false,_,hg48,hs,hb,hm⟩))))
 refine sj4 29 hg46 (sm (sm (sm (sj 29 hg46 (q2 (vb false) (xF hg46) (jC ⟨false,_,hg46,hs,hb,hm⟩))))))
 rcases bte ((s_B aA) || (aB == 0)) with hg40 | hg40
 refine qk 19 hg40 (q4 19 hg40 (xl (isAgg3 _) (hb.d0 0 gZ)) (kQ (wy 19 hg40) (xc call208) ((p_M1 aA w28).mono ?_)))
 rintro e w32 ⟨he,hE⟩
 refine ⟨_,he,?_⟩
 obtain ⟨hs,hb⟩:=hs.pp hb hE
 refine qk 19 hg40 (jM 4 (fun ρ wJ=>∃b22'0:Bool,∃HJ:NP,(((aA == 8) || (aA == 9))=b22'0)∧Hst w0 None w0 HJ wJ∧HB HJ wJ [(p1,(Ac aA aB aC aK aJ aL aM),103)]∧Has ρ [(1,(vp (some p1))),(19,(vb ((s_B aA) || (aB == 0)))),(27,(vb (b22'0 || (aC == 0))))]) ?_ ?_)
 rintro ρ w33 ⟨b22'0,H23,he0,hs,hb,hH⟩
 subst he0
 refine jR hH (q2 (vb (((aA == 8) || (aA == 9)) || (aC == 0))) (xT hg40) (jC ⟨true,_,hg40,hs,hb,hm⟩))
 rcases bte ((aA == 8) || (aA == 9)) with hg42 | hg42
 refine sj3 23 hg42 (stq (v:=(vb true)) (wy 19 hg40) (xT hg42) (jC ⟨true,_,hg42,hs,hb,hm⟩))
 refine qk 23 hg42 (q4 23 hg42 (xl (isAgg3 _) (hb.d 0 2 gZ)) (qk 23 hg42 (stq (v:=(vb (aC == 0))) (wy 19 hg40) (xF hg42) (jC ⟨false,_,hg42,hs,hb,hm⟩))))
 refine sj4 19 hg40 (sm (sm (sm (sj 19 hg40 (q2 (vb false) (xF hg40) (jC ⟨false,_,hg40,hs,hb,hm⟩))))))
 rcases bte (s_B aA) with hg36 | hg36
 refine sj3 14 hg36 (q2 (vb true) (xT hg36) (jC ⟨true,_,hg36,hs,hb,hm⟩))
 refine qk 14 hg36 (q4 14 hg36 (xl (isAgg3 _) (hb.d 0 1 gZ)) (qk 14 hg36 (q2 (vb (aB == 0)) (xF hg36) (jC ⟨false,_,hg36,hs,hb,hm⟩))))
 rintro ρ w26 ⟨H19,hs,hb,hH⟩
 refine zA hH (jL (er (rs1 results205 (v:=(vb (((((((s_B aA) || (aB == 0)) && (((aA == 8) || (aA == 9)) || (aC == 0))) && ((aA == 2) || (aK == 0))) && ((aA == 3) || (decide (aJ=⟨#[]⟩)))) && ((decide ((s_A aA)≥1)) || (aL == 0))) && ((((s_A aA):Int) == 2) || (aM == 0))))) ⟨false,hc1,by kernel_rfl,(Ext.refl (F:=None) _).hst hs⟩)))
theorem p_V (aA aB:Int) (aC aK:Int) (aJ:ByteArray) (aL aM:Int) (w0:World):Calls prog 205 #[(.agg #[(.int .i64 aA),(.int .i64 aB),(.int .i64 aC),(.int .u64 aK),(.string aJ),(.int .i64 aL),(.int .i64 aM)])] w0 (fun e w'=>e=.returned (.bool (s_V aA aB aC aK aJ aL aM))∧Pure w0 w'):=by
 refine (pw_V aA aB aC aK aJ aL aM w0).mono ?_;rintro e w' ⟨b'0,e0,h,E⟩;subst e0;exact ⟨h,E⟩
def s_O1 (n1:Int):Bool :=((decide (n1≥0)) && (decide (n1<16)))
theorem pw_O1 (n1:Int) (w0:World) :
  Calls prog 207 #[(vi n1)] w0 (fun e w'=>(e=.returned (vb ((decide (n1≥0)) && (decide (n1<16)))))∧Pure w0 w'):=by
 refine cw (args:=[(vi n1)]) func207 ntmps207 (eg (q0 (vb false) (ln (jB ?_))))
 refine zH (fun ρ wJ=>w0=wJ∧Has ρ [(2,(vb ((decide (n1≥0)) && (decide (n1<16)))))]) ?_ ?_
 refine rg (qc (jM 3 (fun ρ wJ=>∃b3'0:Bool,((decide (n1≥0))=b3'0)∧w0=wJ∧Has ρ [(8,(vb (b3'0 && (decide (n1<16)))))]) ?_ ?_))
 rintro ρ w3 ⟨b3'0,he0,hw,hH⟩
 subst he0
 subst hw
 refine jR hH (q (ln ⟨rfl,hm⟩))
 rcases bte (decide (n1≥0)) with hg4 | hg4
 refine qk 5 hg4 (qk 5 hg4 (q2 (vb (decide (n1<16))) (xT hg4) (jC ⟨true,hg4,rfl,hm⟩)))
 refine sj2 5 hg4 (q2 (vb false) (xF hg4) (jC ⟨false,hg4,rfl,hm⟩))
 rintro ρ w2 ⟨hw,hH⟩
 subst hw
 refine zA hH (jL (er (rs1 results207 (v:=(vb ((decide (n1≥0)) && (decide (n1<16))))) ⟨by kernel_rfl,Ext.refl _⟩)))
theorem p_O1 (n1:Int) (w0:World):Calls prog 207 #[(.int .i64 n1)] w0 (fun e w'=>e=.returned (.bool (s_O1 n1))∧Pure w0 w'):=pw_O1 n1 w0
def s_G (aA aB:Int) (aC aK:Int) (aJ:ByteArray) (aL aM:Int):Int :=(cond (!(s_V aA aB aC aK aJ aL aM)) 53 (cond (((s_B aA) && (!((decide (aB≥0)) && (decide (aB<16))))) || (((aA == 8) || (aA == 9)) && ((!((decide (aC≥0)) && (decide (aC<16)))) || (aB == aC)))) 50 (cond (decide ((aJ.size:Int)>64)) 1 0)))
theorem pw_G (aA aB:Int) (aC aK:Int) (aJ:ByteArray) (aL aM:Int) (w0:World) :
  Calls prog 153 #[(.agg #[(vi aA),(vi aB),(vi aC),(vu aK),(vs aJ),(vi aL),(vi aM)])] w0 (fun e w'=>∃b'0 b'1 b'2:Bool,((!(s_V aA aB aC aK aJ aL aM))=b'0∧(((s_B aA) && (!((decide (aB≥0)) && (decide (aB<16))))) || (((aA == 8) || (aA == 9)) && ((!((decide (aC≥0)) && (decide (aC<16)))) || (aB == aC))))=b'1∧(decide ((aJ.size:Int)>64))=b'2)∧(e=.returned (vi (cond b'0 53 (cond b'1 50 (cond b'2 1 0)))))∧Pure w0 w'):=by
 refine cw (args:=[(Ad aA aB aC aK aJ aL aM)]) func153 ntmps153 ?_
 obtain ⟨hs,hb⟩:=st0 w0
 refine eg (nw3 (Ac aA aB aC aK aJ aL aM) 103 hs hb xb fun p1 w1 H1 hs hb=>q (ln (jB (eg (q2 (Ad aA aB aC aK aJ aL aM) (xa p1 (Ac aA aB aC aK aJ aL aM) (isAgg103 _) (sizeOf103 _) (hb.r0 0 7 gZ)) (sc call205 ((p_V aA aB aC aK aJ aL aM w1).mono ?_)))))))
 rintro e w2 ⟨he,hE⟩
 refine ⟨_,he,?_⟩
 obtain ⟨hs,hb⟩:=hs.pp hb hE
 refine q (ln (zO (t:=(!(s_V aA aB aC aK aJ aL aM))) (by kernel_rfl) (fun hc1=>?_) (fun hc1=>?_)))
 refine eg (q (ln (er (zM (rs1 results153 (v:=(vi 53)) ⟨true,_,_,⟨hc1,rfl,rfl⟩,by kernel_rfl,(Ext.refl (F:=None) _).hst hs⟩)))))
 refine jF (jL (jB (jB (zH (fun ρ wJ=>∃b5'0:Bool,∃HJ:NP,(((s_B aA) && (!((decide (aB≥0)) && (decide (aB<16)))))=b5'0)∧Hst w0 None w0 HJ wJ∧HB HJ wJ [(p1,(Ac aA aB aC aK aJ aL aM),103)]∧Has ρ [(1,(vp (some p1))),(32,(vb (b5'0 || (((aA == 8) || (aA == 9)) && ((!((decide (aC≥0)) && (decide (aC<16)))) || (aB == aC))))))]) ?_ ?_))))
 refine rg (q (q3 (xl (isAgg3 _) (hb.d0 0 gZ)) (sc call206 ((p_B aA w2).mono ?_))))
 rintro e w14 ⟨he,hE⟩
 refine ⟨_,he,?_⟩
 obtain ⟨hs,hb⟩:=hs.pp hb hE
 refine q (jM 5 (fun ρ wJ=>∃b6'0:Bool,∃HJ:NP,((s_B aA)=b6'0)∧Hst w0 None w0 HJ wJ∧HB HJ wJ [(p1,(Ac aA aB aC aK aJ aL aM),103)]∧Has ρ [(1,(vp (some p1))),(14,(vb (b6'0 && (!((decide (aB≥0)) && (decide (aB<16)))))))]) ?_ ?_)
 rintro ρ w16 ⟨b6'0,H7,he0,hs,hb,hH⟩
 subst he0
 refine jR hH (q ?_)
 rcases bte ((s_B aA) && (!((decide (aB≥0)) && (decide (aB<16))))) with hg12 | hg12
 refine sj4 15 hg12 (sm (sm (sm (sm (sm (sm (sm (sm (sm (sm (sm (sj 15 hg12 (q2 (vb true) (xT hg12) (ln ⟨true,_,hg12,hs,hb,hm⟩))))))))))))))
 refine qk 15 hg12 (q4 15 hg12 (xl (isAgg3 _) (hb.d0 0 gZ)) (kQ (wy 15 hg12) (xc call208) ((p_M1 aA w16).mono ?_)))
 rintro e w18 ⟨he,hE⟩
 refine ⟨_,he,?_⟩
 obtain ⟨hs,hb⟩:=hs.pp hb hE
 refine qk 15 hg12 (jM 12 (fun ρ wJ=>∃b8'0:Bool,∃HJ:NP,(((aA == 8) || (aA == 9))=b8'0)∧Hst w0 None w0 HJ wJ∧HB HJ wJ [(p1,(Ac aA aB aC aK aJ aL aM),103)]∧Has ρ [(1,(vp (some p1))),(15,(vb ((s_B aA) && (!((decide (aB≥0)) && (decide (aB<16))))))),(31,(vb (b8'0 && ((!((decide (aC≥0)) && (decide (aC<16)))) || (aB == aC)))))]) ?_ ?_)
 rintro ρ w21 ⟨b8'0,H9,he0,hs,hb,hH⟩
 subst he0
 refine jR hH (q2 (vb (((aA == 8) || (aA == 9)) && ((!((decide (aC≥0)) && (decide (aC<16)))) || (aB == aC)))) (xF hg12) (ln ⟨false,_,hg12,hs,hb,hm⟩))
 rcases bte ((aA == 8) || (aA == 9)) with hg16 | hg16
 refine qk 19 hg16 (q4 19 hg16 (xl (isAgg3 _) (hb.d 0 2 gZ)) (kQ (wy 19 hg16) (xc call207) ((p_O1 aC w18).mono ?_)))
 rintro e w22 ⟨he,hE⟩
 refine ⟨_,he,?_⟩
 obtain ⟨hs,hb⟩:=hs.pp hb hE
 refine qk 19 hg16 (qk 19 hg16 (jM 6 (fun ρ wJ=>∃b9'0:Bool,∃HJ:NP,((!((decide (aC≥0)) && (decide (aC<16))))=b9'0)∧Hst w0 None w0 HJ wJ∧HB HJ wJ [(p1,(Ac aA aB aC aK aJ aL aM),103)]∧Has ρ [(1,(vp (some p1))),(15,(vb ((s_B aA) && (!((decide (aB≥0)) && (decide (aB<16))))))),(19,(vb ((aA == 8) || (aA == 9)))),(30,(vb (b9'0 || (aB == aC))))]) ?_ ?_))
 rintro ρ w23 ⟨b9'0,H10,he0,hs,hb,hH⟩
 subst he0
 refine jR hH (stq (v:=(vb ((!((decide (aC≥0)) && (decide (aC<16)))) || (aB == aC)))) (wy 15 hg12) (xT hg16) (jC ⟨true,_,hg16,hs,hb,hm⟩))
 rcases bte (!((decide (aC≥0)) && (decide (aC<16)))) with hg18 | hg18
 refine sj5 24 hg18 (stq (v:=(vb true)) (wy 19 hg16) (xT hg18) (jC ⟨true,_,hg18,hs,hb,hm⟩))
 refine qk 24 hg18 (q4 24 hg18 (xl (isAgg3 _) (hb.d 0 1 gZ)) (qk 24 hg18 (q4 24 hg18 (xl (isAgg3 _) (hb.d 0 2 gZ)) (qk 24 hg18 (stq (v:=(vb (aB == aC))) (wy 19 hg16) (xF hg18) (jC ⟨false,_,hg18,hs,hb,hm⟩))))))
 refine sj5 19 hg16 (sm (sm (sm (sm (sm (sj 19 hg16 (stq (v:=(vb false)) (wy 15 hg12) (xF hg16) (jC ⟨false,_,hg16,hs,hb,hm⟩))))))))
 rcases bte (s_B aA) with hg11 | hg11
 refine qk 9 hg11 (q4 9 hg11 (xl (isAgg3 _) (hb.d 0 1 gZ)) (kQ (wy 9 hg11) (xc call207) ((p_O1 aB w14).mono ?_)))
 rintro e w17 ⟨he,hE⟩
 refine ⟨_,he,?_⟩
 obtain ⟨hs,hb⟩:=hs.pp hb hE
 refine qk 9 hg11 (q2 (vb (!((decide (aB≥0)) && (decide (aB<16))))) (xT hg11) (jC ⟨true,_,hg11,hs,hb,hm⟩))
 refine sj4 9 hg11 (q2 (vb false) (xF hg11) (jC ⟨false,_,hg11,hs,hb,hm⟩))
 rintro ρ w13 ⟨b5'0,H6,he0,hs,hb,hH⟩
 subst he0
 refine zA hH (jL (zO (t:=(((s_B aA) && (!((decide (aB≥0)) && (decide (aB<16))))) || (((aA == 8) || (aA == 9)) && ((!((decide (aC≥0)) && (decide (aC<16)))) || (aB == aC))))) (by kernel_rfl) (fun hc2=>?_) (fun hc2=>?_)))
 refine eg (q (ln (er (zM (rs1 results153 (v:=(vi 50)) ⟨false,true,_,⟨hc1,hc2,rfl⟩,by kernel_rfl,(Ext.refl (F:=None) _).hst hs⟩)))))
 refine jF (jL (jB (eg (q (q3 (xl (isAgg9 _) (hb.d 0 4 gZ)) (qb (ln (zO (t:=(decide ((aJ.size:Int)>64))) (by kernel_rfl) (fun hc3=>?_) (fun hc3=>?_)))))))))
 refine eg (q (ln (er (zM (rs1 results153 (v:=(vi 1)) ⟨false,false,true,⟨hc1,hc2,hc3⟩,by kernel_rfl,(Ext.refl (F:=None) _).hst hs⟩)))))
 refine jF (jL (eg (q (ln (er (rs1 results153 (v:=(vi 0)) ⟨false,false,false,⟨hc1,hc2,hc3⟩,by kernel_rfl,(Ext.refl (F:=None) _).hst hs⟩))))))
theorem p_G (aA aB:Int) (aC aK:Int) (aJ:ByteArray) (aL aM:Int) (w0:World):Calls prog 153 #[(.agg #[(.int .i64 aA),(.int .i64 aB),(.int .i64 aC),(.int .u64 aK),(.string aJ),(.int .i64 aL),(.int .i64 aM)])] w0 (fun e w'=>e=.returned (.int .i64 (s_G aA aB aC aK aJ aL aM))∧Pure w0 w'):=by
 refine (pw_G aA aB aC aK aJ aL aM w0).mono ?_;rintro e w' ⟨b'0,b'1,b'2,⟨e0,e1,e2⟩,h,E⟩;subst e0;subst e1;subst e2;exact ⟨h,E⟩
def m_Q_l2 (aI:Sl) (deep1:Int) (seen1:Option Addr) (e1 i1:Int) (w0:World) (Hl1:NP) (wl1:World) (Kc2:Int→Int→NP→WP) (K:Int→WP):Prop :=Br ((e1 == 0) && (decide (i1<(aI.len:Int)))) (∃a3:Addr,At aI i1 6 a3∧∀H4 w11,Hst w0 Hl1 wl1 H4 w11→∃aO aP aQ aR aS bB,Row w11 a3 (Aa aO aP aQ aR aS bB)∧Calls prog 110 #[(.agg #[(vi aO),(vi aP),(vi aQ),(vu aR),(vs aS),bB.v]),(vi (q6.wrap (deep1+1))),(vp seen1)] w11 (fun e w12=>∃r1,e=.returned (vi r1)∧Kept H4 w11 w12∧Kc2 r1 (q6.wrap (i1+1)) H4 w12)) (∀H4 w11,Hst w0 Hl1 wl1 H4 w11→K e1 w11)
def m_Q_j1 (aD aE:Int) (aF aG:Int) (aH:ByteArray) (aI:Sl) (deep1:Int) (seen1:Option Addr) (x1:Bool) (w0:World) (H:NP) (w:World) (K:Int→WP):Prop :=Br x1 (K 52 w) (∃a1,seen1=some a1∧∃v1,w.cell? a1=some (vi v1)∧∃a2,seen1=some a2∧kG w a2∧¬ H a2.block∧∀w2,w2=w.setCell a2 (vi (q6.wrap (v1+1)))→∀y1:Bool,y1=((((s_G aD aE aF aG aH 0 0):Int) != 53) && (((aI.len:Int):Int) != (s_A aD)))→∀H3 w10,Hst w0 H w2 H3 w10→∃(I1:Int→Int→NP→WP) (mu1:Int→Int→World→Nat),I1 (cond y1 53 (s_G aD aE aF aG aH 0 0)) 0 H3 w10∧∀(e1 i1:Int) (Hl1:NP) (wl1:World),Hst w0 Hl1 wl1 Hl1 wl1→I1 e1 i1 Hl1 wl1→m_Q_l2 aI deep1 seen1 e1 i1 w0 Hl1 wl1 (fun y'0 y'1 H' w'=>I1 y'0 y'1 H' w'∧mu1 y'0 y'1 w'<mu1 e1 i1 wl1) K)
def m_Q (aD aE:Int) (aF aG:Int) (aH:ByteArray) (aI:Sl) (deep1:Int) (seen1:Option Addr) (w0:World) (K:Int→WP):Prop :=∃a4,seen1=some a4∧∀H1 w1,Hst w0 None w0 H1 w1→∃v2,w1.cell? a4=some (vi v2)∧∀H5 w13,Hst w0 H1 w1 H5 w13→m_Q_j1 aD aE aF aG aH aI deep1 seen1 ((decide (v2≥4096)) || (decide (deep1≥64))) w0 H5 w13 K
theorem w_Q (aD aE aF aG aH aI deep1 seen1 w0 K) (h:m_Q aD aE aF aG aH aI deep1 seen1 w0 K):
  Calls prog 110 #[(.agg #[(vi aD),(vi aE),(vi aF),(vu aG),(vs aH),aI.v]),(vi deep1),(vp seen1)] w0 (fun e w'=>∃r2,e=.returned (vi r2)∧K r2 w'):=by
 refine cw (args:=[(Ab aD aE aF aG aH aI),(vi deep1),(vp seen1)]) func110 ntmps110 ?_
 obtain ⟨hs,hb⟩:=st0 w0
 refine eg (nw3 (Aa aD aE aF aG aH aI) 28 hs hb xb fun p1 w1 H1 hs hb=>q (ln (jB (jB (zD (fun ρ w=>∃x1,∃H:NP,Has ρ [(1,(vi deep1)),(2,(vp seen1)),(3,(vp (some p1))),(16,(vb x1))]∧Hst w0 H w H w∧HB H w [(p1,(Aa aD aE aF aG aH aI),28)]∧m_Q_j1 aD aE aF aG aH aI deep1 seen1 x1 w0 H w K) ?_ ?_)))))
 rintro ρ w ⟨x1,H,hH,hs,hb,h⟩
 refine jY hH (cbr h ?_ ?_)<;>intro h
 refine eg (q (ln (er (zM (rs1 results110 ⟨52,rfl,h⟩)))))
 refine jF (jL (eg (qb (qm h fun a1 h=>ql (isAgg3 _) h fun v1 h=>q (qm h fun a2 h=>st2 (sizeOf3 _) hs hb h fun w2 hs hb h=>ln (eg (q2 (Ab aD aE aF aG aH aI) (xa p1 (Aa aD aE aF aG aH aI) (isAgg28 _) (sizeOf28 _) (hb.r0 0 6 gZ)) (sc call111 ((p_U aD aE aF aG aH aI w2).mono ?_)))))))))
 rintro e w3 ⟨he,hE⟩
 refine ⟨_,he,?_⟩
 obtain ⟨hs,hb⟩:=hs.pp hb hE
 refine sc call153 ((p_G aD aE aF aG aH 0 0 w3).mono ?_)
 rintro e w4 ⟨he,hE⟩
 refine ⟨_,he,?_⟩
 obtain ⟨hs,hb⟩:=hs.pp hb hE
 refine q (ln (jB (jB (zH (fun ρ wJ=>∃b1'0 y1:Bool,∃HJ:NP,((((s_G aD aE aF aG aH 0 0):Int) != 53)=b1'0)∧(y1=(b1'0 && (((aI.len:Int):Int) != (s_A aD))))∧Hst w0 H w2 HJ wJ∧HB HJ wJ [(p1,(Aa aD aE aF aG aH aI),28)]∧Has ρ [(1,(vi deep1)),(2,(vp seen1)),(3,(vp (some p1))),(7,(vi (s_G aD aE aF aG aH 0 0))),(36,(vb y1))]) ?_ ?_))))
 refine vX (fun x=>∃H',Hst w0 H w2 H' x∧HB H' x [(p1,(Aa aD aE aF aG aH aI),28)]) [8] [] (by kernel_rfl) (by kernel_rfl) (by kernel_rfl) (by kernel_rfl) ⟨_,hs.drew,hb.drew⟩ ?_
 intro w8 hw8
 have hs:Hst w0 H w2 H w8:=by rw [hw8];exact hs.drew
 have hb:HB H w8 [(p1,(Aa aD aE aF aG aH aI),28)]:=by rw [hw8];exact hb.drew
 refine qx 0 (vi (s_G aD aE aF aG aH 0 0)) Kp0 (qx 1 (vb (((s_G aD aE aF aG aH 0 0):Int) != 53)) Kp1 (qx 2 (vb (((s_G aD aE aF aG aH 0 0):Int) != 53)) Kp2 (qg 3 ?_)))
 rcases bte (((s_G aD aE aF aG aH 0 0):Int) != 53) with hg2 | hg2
 refine sz (v:=(vp (some (p1.add 5)))) Kp3 (wy 28 hg2) (fun _ _=>(by kernel_rfl)) (qg 4 (sz (v:=aI.v) Kp4 (wy 28 hg2) (fun w' hw'=>(by obtain ⟨H',hs',hb'⟩:=hw';exact (xl (isAgg22 _) (hb'.cell 0 5 gZ (by kernel_rfl))))) (qw 5 (vi (aI.len:Int)) Kp5 (wy 28 hg2) (qw 6 (vp (some p1)) Kp6 (wy 28 hg2) (qg 7 (sz (v:=(vi aD)) Kp7 (wy 28 hg2) (fun w' hw'=>(by obtain ⟨H',hs',hb'⟩:=hw';exact (xl (isAgg3 _) (hb'.cell0 0 gZ (by kernel_rfl))))) (lg 8 (gQ Kp8 (wy 28 hg2) (by kernel_rfl) (xc call64) ((p_A aD w8).mono ?_)))))))))
 rintro e w9 ⟨he,hE⟩
 obtain ⟨hs,hb⟩:=hs.pp hb hE
 refine ⟨(vi (s_A aD)),he.trans (by kernel_rfl),.inr ⟨_,hs,hb⟩,?_⟩
 refine qw 9 (vb (((aI.len:Int):Int) != (s_A aD))) Kp9 (wy 28 hg2) (qz 10 (vb (((aI.len:Int):Int) != (s_A aD))) (jE (S8 (jA (jA jD)))) (fun _ _=>(xT hg2)) (wn (jL ⟨true,_,_,hg2,rfl,hs,hb,hm⟩)))
 refine kM Kp3 (jH rfl (yD 28 hg2) rfl) (qn 4 Kp4 (jH rfl (yD 28 hg2) rfl) (qn 5 Kp5 (jH rfl (yD 28 hg2) rfl) (qn 6 Kp6 (jH rfl (yD 28 hg2) rfl) (qn 7 Kp7 (jH rfl (yD 28 hg2) rfl) (lg 8 (kM Kp8 (jH rfl (yD 28 hg2) rfl) (qn 9 Kp9 (jH rfl (yD 28 hg2) rfl) (qz 10 (vb false) (jE (S8 (jA (jA jD)))) (fun _ _=>(xF hg2)) (wn (jL ⟨false,_,_,hg2,rfl,hs,hb,hm⟩))))))))))
 rintro ρ w7 ⟨b1'0,y1,H2,he0,hy1,hs,hb,hH⟩
 subst he0
 have h:=h y1 hy1
 refine zA hH (jL (zH (fun ρ wJ=>∃b2'0:Bool,∃HJ:NP,(y1=b2'0)∧Hst w0 H w2 HJ wJ∧HB HJ wJ [(p1,(Aa aD aE aF aG aH aI),28)]∧Has ρ [(1,(vi deep1)),(2,(vp seen1)),(3,(vp (some p1))),(7,(vi (cond b2'0 53 (s_G aD aE aF aG aH 0 0))))]) ?_ ?_))
 refine zO (t:=y1) (by kernel_rfl) (fun hc3=>?_) (fun hc3=>?_)
 refine rg (q (ln ⟨true,_,hc3,hs,hb,hm⟩))
 refine jF (jL ⟨false,_,hc3,hs,hb,hm⟩)
 rintro ρ w10 ⟨b2'0,H3,he0,hs,hb,hH⟩
 subst he0
 refine zA hH (jL (jB (eg (q (ln (jO ?_))))))
 have ⟨h,hs⟩:=hs.hr (h H3 w10)
 obtain ⟨I1,mu1,h0,hr⟩:=h
 refine zU (σ:=Int×Int×NP×World) (fun s ρ w=>w=s.2.2.2∧Has ρ [(1,(vi deep1)),(2,(vp seen1)),(3,(vp (some p1))),(7,(vi s.1)),(8,(vi s.2.1))]∧Hst w0 s.2.2.1 w s.2.2.1 w∧HB s.2.2.1 w [(p1,(Aa aD aE aF aG aH aI),28)]∧I1 s.1 s.2.1 s.2.2.1 s.2.2.2) (fun s=>mu1 s.1 s.2.1 s.2.2.2) ((cond y1 53 (s_G aD aE aF aG aH 0 0)),0,H3,w10) ⟨rfl,hm,hs,hb,h0⟩ ?_
 rintro ⟨e1,i1,Hl1,wl1⟩ ρ w ⟨hw,hH,hs,hb,hI⟩
 dsimp only at hw hH hs hb;subst w
 have h:=hr e1 i1 Hl1 wl1 hs hI
 refine jY hH (jB (jB (zH (fun ρ wJ=>∃b3'0:Bool,∃HJ:NP,((e1 == 0)=b3'0)∧Hst w0 Hl1 wl1 HJ wJ∧HB HJ wJ [(p1,(Aa aD aE aF aG aH aI),28)]∧Has ρ [(1,(vi deep1)),(2,(vp seen1)),(3,(vp (some p1))),(7,(vi e1)),(8,(vi i1)),(45,(vb (b3'0 && (decide (i1<(aI.len:Int))))))]) ?_ ?_)))
 refine rg (qc ?_)
 rcases bte (e1 == 0) with hg4 | hg4
 refine qk 39 hg4 (qk 39 hg4 (q4 39 hg4 (xl (isAgg22 _) (hb.d 0 5 gZ)) (qk 39 hg4 (qk 39 hg4 (q2 (vb (decide (i1<(aI.len:Int)))) (xT hg4) (ln ⟨true,_,hg4,hs,hb,hm⟩))))))
 refine sj5 39 hg4 (q2 (vb false) (xF hg4) (ln ⟨false,_,hg4,hs,hb,hm⟩))
 rintro ρ w11 ⟨b3'0,H4,he0,hs,hb,hH⟩
 subst he0
 refine zA hH (jL (cbr h ?_ ?_))<;>intro h
 refine jF (jL (jB (jO (rg (q (q3 (xl (isAgg22 _) (hb.d 0 5 gZ)) (q (qi (runUnderlying22 _) (sizeOf28 _) h fun a3 h=>?_))))))))
 have ⟨h,hs⟩:=hs.hr (h H4 w11)
 obtain ⟨aO,aP,aQ,aR,aS,bB,hv1,h⟩:=h
 refine qa (isAgg28 _) (sizeOf28 _) hv1 (qc (sc call110 (h.mono fun e w12 ⟨r1,k,hk,h⟩=>have ⟨hs,hb⟩:=hk.hh hs hb;⟨_,k,?_⟩)))
 refine q (jC (kW (jL (rg (qc (ln ⟨(r1,(q6.wrap (i1+1)),H4,w12),⟨rfl,hm,hs,hb,h.1⟩,h.2⟩))))))
 refine zI (vM (vM (vI (jL (eg (q0 (vi e1) (q0 (vi e1) (ln (er ?_)))))))))
 have ⟨h,hs⟩:=hs.hr (h H4 w11)
 refine rs1 results110 ⟨e1,rfl,h⟩
 refine rg (q (qm h fun a4 h=>?_))
 have ⟨h,hs⟩:=hs.hr (h H1 w1)
 refine ql (isAgg3 _) h fun v2 h=>qb (jM 3 (fun ρ wJ=>∃b4'0:Bool,∃HJ:NP,((decide (v2≥4096))=b4'0)∧Hst w0 H1 w1 HJ wJ∧HB HJ wJ [(p1,(Aa aD aE aF aG aH aI),28)]∧Has ρ [(1,(vi deep1)),(2,(vp seen1)),(3,(vp (some p1))),(16,(vb (b4'0 || (decide (deep1≥64)))))]) ?_ ?_)
 rintro ρ w13 ⟨b4'0,H5,he0,hs,hb,hH⟩
 subst he0
 refine jR hH (jC ?_)
 have ⟨h,hs⟩:=hs.hr (h H5 w13)
 refine jL ⟨((decide (v2≥4096)) || (decide (deep1≥64))),H5,hm,hs,hb,h⟩
 rcases bte (decide (v2≥4096)) with hg6 | hg6
 refine sj2 13 hg6 (q2 (vb true) (xT hg6) (jC ⟨true,_,hg6,hs,hb,hm⟩))
 refine qk 13 hg6 (qk 13 hg6 (q2 (vb (decide (deep1≥64))) (xF hg6) (jC ⟨false,_,hg6,hs,hb,hm⟩)))
def m_W1 (aD aE:Int) (aF aG:Int) (aH:ByteArray) (aI:Sl) (w0:World) (K:Int→WP):Prop :=∀H1 w1,Hst w0 None w0 H1 w1→∀p2 w2,New w1 (.cells #[(vi 0)] 3) p2 w2→kG w2 p2∧¬ H1 p2.block∧∀w3,w3=w2.setCell p2 (vi 0)→Calls prog 110 #[(.agg #[(vi aD),(vi aE),(vi aF),(vu aG),(vs aH),aI.v]),(vi 0),(vp (some p2))] w3 (fun e w4=>∃r1,e=.returned (vi r1)∧Kept H1 w3 w4∧K r1 w4)
theorem w_W1 (aD aE aF aG aH aI w0 K) (h:m_W1 aD aE aF aG aH aI w0 K):
  Calls prog 57 #[(.agg #[(vi aD),(vi aE),(vi aF),(vu aG),(vs aH),aI.v])] w0 (fun e w'=>∃r2,e=.returned (vi r2)∧K r2 w'):=by
 refine cw (args:=[(Ab aD aE aF aG aH aI)]) func57 ntmps57 ?_
 obtain ⟨hs,hb⟩:=st0 w0
 refine eg (nw3 (Aa aD aE aF aG aH aI) 28 hs hb xb fun p1 w1 H1 hs hb=>q (ln (eg ?_)))
 have ⟨h,hs⟩:=hs.hr (h H1 w1)
 refine nw2 hs hb h (jW (zeroValue3 _) rfl) fun p2 w2 hs hb h=>st2 (sizeOf3 _) hs hb h fun w3 hs hb h=>ln (eg (q2 (Ab aD aE aF aG aH aI) (xa p1 (Aa aD aE aF aG aH aI) (isAgg28 _) (sizeOf28 _) (hb.r0 0 6 gZ)) (sc call110 (h.mono fun e w4 ⟨r1,k,hk,h⟩=>have ⟨hs,hb⟩:=hk.hh hs hb;⟨_,k,?_⟩))))
 refine q (ln (er (rs1 results57 ⟨r1,rfl,h⟩)))
def m_X1 (p1:Option Addr) (t1:Int) (w0:World) (K:Bool→WP):Prop :=Br (decide (t1≥1)) (∃a1,p1=some a1∧∃v1:Sl,w0.cell? a1=some v1.v∧K (decide (t1≤(v1.len:Int))) w0) (K false w0)
theorem w_X1 (p1 t1 w0 K) (h:m_X1 p1 t1 w0 K):
  Calls prog 19 #[(vp p1),(vi t1)] w0 (fun e w'=>∃r1,e=.returned (vb r1)∧K r1 w'):=by
 refine cw (args:=[(vp p1),(vi t1)]) func19 ntmps19 (eg (q0 (vb false) (ln (eg (q0 (vi t1) (q0 (vb (decide (t1≥1))) (q0 (vb (decide (t1≥1))) ?_)))))))
 obtain ⟨hg1,h⟩|⟨hg1,h⟩:=h.br
 refine qk 7 hg1 (qk 7 hg1 ?_)
 obtain ⟨a1,hp1,h⟩:=h
 refine q4 7 hg1 (xn hp1) (qk 7 hg1 ?_)
 obtain ⟨v1,hv1,h⟩:=h
 refine q4 7 hg1 (xl (isAgg49 _) hv1) (qk 7 hg1 (qk 7 hg1 (q2 (vb (decide (t1≤(v1.len:Int)))) (xT hg1) (q (ln (er (rs1 results19 ⟨(decide (t1≤(v1.len:Int))),rfl,h⟩)))))))
 refine sj2 7 hg1 (sj5 7 hg1 (q2 (vb false) (xF hg1) (q (ln (er (rs1 results19 ⟨false,rfl,h⟩))))))
def m_Y1 (p1:Option Addr) (t1:Int) (w0:World) (K:Int→WP):Prop :=Calls prog 19 #[(vp p1),(vi t1)] w0 (fun e w1=>∃r1,e=.returned (vb r1)∧Br (!r1) (K 0 w1) (∃a1,p1=some a1∧∃v1:Sl,w1.cell? (a1.add 1)=some v1.v∧∃a2:Addr,At v1 (q6.wrap (t1 - 1)) 1 a2∧∃v2,w1.cell? a2=some (vi v2)∧K v2 w1))
theorem w_Y1 (p1 t1 w0 K) (h:m_Y1 p1 t1 w0 K):
  Calls prog 89 #[(vp p1),(vi t1)] w0 (fun e w'=>∃r2,e=.returned (vi r2)∧K r2 w'):=by
 refine cw (args:=[(vp p1),(vi t1)]) func89 ntmps89 (eg (q0 (vi 0) (ln (jB (eg (q0 (vp p1) (q0 (vi t1) ?_)))))))
 refine sc call19 (h.mono fun e w1 ⟨r1,k,h⟩=>⟨_,k,?_⟩)
 refine q (ln (cbr h ?_ ?_))<;>intro h
 refine eg (q (ln (er (zM (rs1 results89 ⟨0,rfl,h⟩)))))
 refine jF (jL (eg (q (qm h fun a1 h=>q (ql (isAgg50 _) h fun v1 h=>qb (qi (runUnderlying50 _) (sizeOf3 _) h fun a2 h=>ql (isAgg3 _) h fun v2 h=>q (ln (er (rs1 results89 ⟨v2,rfl,h⟩)))))))))
def m_Z1 (p1:Option Addr) (t1:Int) (w0:World) (K:Int→WP):Prop :=Calls prog 19 #[(vp p1),(vi t1)] w0 (fun e w1=>∃r1,e=.returned (vb r1)∧Br (!r1) (K 0 w1) (∃a1,p1=some a1∧∃v1:Sl,w1.cell? (a1.add 2)=some v1.v∧∃a2:Addr,At v1 (q6.wrap (t1 - 1)) 1 a2∧∃v2,w1.cell? a2=some (vi v2)∧K v2 w1))
theorem w_Z1 (p1 t1 w0 K) (h:m_Z1 p1 t1 w0 K):
  Calls prog 154 #[(vp p1),(vi t1)] w0 (fun e w'=>∃r2,e=.returned (vi r2)∧K r2 w'):=by
 refine cw (args:=[(vp p1),(vi t1)]) func154 ntmps154 (eg (q0 (vi 0) (ln (jB (eg (q0 (vp p1) (q0 (vi t1) ?_)))))))
 refine sc call19 (h.mono fun e w1 ⟨r1,k,h⟩=>⟨_,k,?_⟩)
 refine q (ln (cbr h ?_ ?_))<;>intro h
 refine eg (q (ln (er (zM (rs1 results154 ⟨0,rfl,h⟩)))))
 refine jF (jL (eg (q (qm h fun a1 h=>q (ql (isAgg50 _) h fun v1 h=>qb (qi (runUnderlying50 _) (sizeOf3 _) h fun a2 h=>ql (isAgg3 _) h fun v2 h=>q (ln (er (rs1 results154 ⟨v2,rfl,h⟩)))))))))
theorem qL (a0 a1:Int) (a2 a3:Int) (a4:ByteArray) (a5 a6:Int) (b0 b1:Int) (b2 b3:Int) (b4:ByteArray) (b5 b6:Int) (w:World):(Go.binOp .eql 103 (.agg #[(.int .i64 a0),(.int .i64 a1),(.int .i64 a2),(.int .u64 a3),(.string a4),(.int .i64 a5),(.int .i64 a6)]) (.agg #[(.int .i64 b0),(.int .i64 b1),(.int .i64 b2),(.int .u64 b3),(.string b4),(.int .i64 b5),(.int .i64 b6)])).run prog w=.ok (.bool ((a0 == b0) && ((a1 == b1) && ((a2 == b2) && ((a3 == b3) && ((decide (a4=b4)) && ((a5 == b5) && (a6 == b6)))))))) w:=by
 simp [Go.binOp,Op.equal,Op.maxDepth,go_sem,jIZ,bne]
 repeat' split
 all_goals simp_all
def m_A1_l1 (p1:Option Addr) (aA aB:Int) (aC aK:Int) (aJ:ByteArray) (aL aM i1:Int) (w0:World) (Hl1:NP) (wl1:World) (Kc1:Int→NP→WP) (K:Int→Bool→WP):Prop :=∃a1,p1=some a1∧∃v1:Sl,wl1.cell? a1=some v1.v∧Br (decide (i1<(v1.len:Int))) (∃a2,p1=some a2∧∀w2,Hst w0 Hl1 wl1 Hl1 w2→∃v2:Sl,w2.cell? a2=some v2.v∧∃a3:Addr,At v2 i1 7 a3∧∃aO aP aQ aR aS bN bO,Row w2 a3 (Ac aO aP aQ aR aS bN bO)∧Br ((aO == aA) && ((aP == aB) && ((aQ == aC) && ((aR == aK) && ((decide (aS=aJ)) && ((bN == aL) && (bO == aM))))))) (K (q6.wrap (i1+1)) true w2) (Kc1 (q6.wrap (i1+1)) Hl1 w2)) (K 0 false wl1)
def m_A1 (p1:Option Addr) (aA aB:Int) (aC aK:Int) (aJ:ByteArray) (aL aM:Int) (w0:World) (K:Int→Bool→WP):Prop :=∀H1 w1,Hst w0 None w0 H1 w1→∃(I1:Int→NP→WP) (mu1:Int→World→Nat),I1 0 H1 w1∧∀(i1:Int) (Hl1:NP) (wl1:World),Hst w0 Hl1 wl1 Hl1 wl1→I1 i1 Hl1 wl1→m_A1_l1 p1 aA aB aC aK aJ aL aM i1 w0 Hl1 wl1 (fun y'0 H' w'=>I1 y'0 H' w'∧mu1 y'0 w'<mu1 i1 wl1) K
theorem w_A1 (p1 aA aB aC aK aJ aL aM w0 K) (h:m_A1 p1 aA aB aC aK aJ aL aM w0 K):
  Calls prog 155 #[(vp p1),(.agg #[(vi aA),(vi aB),(vi aC),(vu aK),(vs aJ),(vi aL),(vi aM)])] w0 (fun e w'=>∃r1 r2,e=.returned (.tuple #[(vi r1),(vb r2)])∧K r1 r2 w'):=by
 refine cw (args:=[(vp p1),(Ad aA aB aC aK aJ aL aM)]) func155 ntmps155 ?_
 obtain ⟨hs,hb⟩:=st0 w0
 refine eg (nw3 (Ac aA aB aC aK aJ aL aM) 103 hs hb xb fun p2 w1 H1 hs hb=>qb (ln (jB (eg (q (ln (jO ?_)))))))
 have ⟨h,hs⟩:=hs.hr (h H1 w1)
 obtain ⟨I1,mu1,h0,hr⟩:=h
 refine zU (σ:=Int×NP×World) (fun s ρ w=>w=s.2.2∧Has ρ [(0,(vp p1)),(3,(vp (some p2))),(6,(vi s.1))]∧Hst w0 s.2.1 w s.2.1 w∧HB s.2.1 w [(p2,(Ac aA aB aC aK aJ aL aM),103)]∧I1 s.1 s.2.1 s.2.2) (fun s=>mu1 s.1 s.2.2) (0,H1,w1) ⟨rfl,hm,hs,hb,h0⟩ ?_
 rintro ⟨i1,Hl1,wl1⟩ ρ w ⟨hw,hH,hs,hb,hI⟩
 dsimp only at hw hH hs hb;subst w
 have h:=hr i1 Hl1 wl1 hs hI
 refine jY hH (jB (eg (qb (qm h fun a1 h=>q (ql (isAgg49 _) h fun v1 h=>qb (ln (cbr h ?_ ?_)))))))<;>intro h
 refine jF (jL (jB (jO (jB (zJ (by kernel_rfl) (by kernel_rfl) (by kernel_rfl) (by kernel_rfl) ?_)))))
 intro w2 hw2
 have hs:Hst w0 Hl1 wl1 Hl1 w2:=by rw [hw2];exact hs.drew
 have hb:HB Hl1 w2 [(p2,(Ac aA aB aC aK aJ aL aM),103)]:=by rw [hw2];exact hb.drew
 refine qq 0 (vp p1) Kp0 (qg 1 ?_)
 obtain ⟨a2,hp2,h⟩:=h
 refine sxQ Kp1 (jG rfl) rfl (xn hp2) (qq 2 (vp (some a2)) Kp2 (qg 3 ?_))
 have ⟨h,hs⟩:=hs.hr (h w2)
 obtain ⟨v2,hv3,h⟩:=h
 refine sxQ Kp3 (jG rfl) rfl (xl (isAgg49 _) hv3) (qq 4 (vi i1) Kp4 (qg 5 ?_))
 obtain ⟨a3,hv2,h⟩:=h
 refine sxQ Kp5 (jG rfl) rfl (xi (runUnderlying49 _) (sizeOf103 _) hv2) (qg 6 ?_)
 obtain ⟨aO,aP,aQ,aR,aS,bN,bO,hv1,h⟩:=h
 refine sxQ (v:=(Ad aO aP aQ aR aS bN bO)) Kp6 (jG rfl) rfl (xa a3 (Ac aO aP aQ aR aS bN bO) (isAgg103 _) (sizeOf103 _) hv1) (qr 7 (Ad aA aB aC aK aJ aL aM) Kp7 (xa p2 (Ac aA aB aC aK aJ aL aM) (isAgg103 _) (sizeOf103 _) (hb.r0 0 7 gZ)) (qr 8 (vb ((aO == aA) && ((aP == aB) && ((aQ == aC) && ((aR == aK) && ((decide (aS=aJ)) && ((bN == aL) && (bO == aM)))))))) Kp8 (jLG (by kernel_rfl) (by kernel_rfl) (by kernel_rfl) (qL aO aP aQ aR aS bN bO aA aB aC aK aJ aL aM _)) (wn (jL (cbr h ?_ ?_)))))<;>intro h
 refine eg (qd (ln (er (vR (zM (zM (vR (zM (uE (.inl rfl) results155 (v:=(vi (q6.wrap (i1+1)))) (by kernel_rfl) (v':=(vb true)) (by kernel_rfl) ⟨(q6.wrap (i1+1)),true,rfl,h⟩)))))))))
 refine jF (kW (jL (rg (qc (ln ⟨((q6.wrap (i1+1)),Hl1,w2),⟨rfl,hm,hs,hb,h.1⟩,h.2⟩)))))
 refine zI (vM (vM (vI (jL (eg (q0 (vi 0) (q0 (vb false) (ln (er (uE (.inl rfl) results155 (v:=(vi 0)) (by kernel_rfl) (v':=(vb false)) (by kernel_rfl) ⟨0,false,rfl,h⟩))))))))))
def m_L_j1 (p1:Option Addr) (aA aB:Int) (aC aK:Int) (aJ:ByteArray) (aL aM:Int) (x1:Bool) (w0:World) (H:NP) (w:World) (K:Int→Int→WP):Prop :=Br x1 (K 0 51 w) (∃C1:WP,C1 w.drew∧∀w4,w4=w.drew→Calls prog 89 #[(vp p1),(vi aL)] w4 (fun e w5=>∃r1,e=.returned (vi r1)∧C1 w5∧Kept H w4 w5∧Calls prog 89 #[(vp p1),(vi aM)] w5 (fun e w6=>∃r2,e=.returned (vi r2)∧C1 w6∧Kept H w5 w6∧∃C2:WP,C2 w6.drew∧∀w7,w7=w6.drew→Calls prog 154 #[(vp p1),(vi aL)] w7 (fun e w8=>∃r3,e=.returned (vi r3)∧C2 w8∧Kept H w7 w8∧Calls prog 154 #[(vp p1),(vi aM)] w8 (fun e w9=>∃r4,e=.returned (vi r4)∧C2 w9∧Kept H w8 w9∧∃z1,(∀w',C2 w'→(Builtin.max_ #[3,3] 3 #[(vi r3),(vi r4)]).run prog w'=.ok (vi z1) w')∧∀y1:Bool,y1=((decide ((q6.wrap ((q6.wrap (1+r1))+r2))>4096)) || (decide ((q6.wrap (1+z1))>64)))→Br y1 (∀H2 w10,Hst w0 H w9 H2 w10→K 0 52 w10) (∀H2 w10,Hst w0 H w9 H2 w10→Calls prog 155 #[(vp p1),(.agg #[(vi aA),(vi aB),(vi aC),(vu aK),(vs aJ),(vi aL),(vi aM)])] w10 (fun e w11=>∃r5 r6,e=.returned (.tuple #[(vi r5),(vb r6)])∧Kept H2 w10 w11∧Br r6 (K r5 0 w11) (∃a1,p1=some a1∧∃v1:Sl,w11.cell? a1=some v1.v∧Br (decide ((v1.len:Int)≥65536)) (K 0 6 w11) (∃C3:WP,C3 w11.drew∧∀w12,w12=w11.drew→∃a2,p1=some a2∧∃v2:Sl,(∀w',C3 w'→w'.cell? a2=some v2.v)∧∀p3 w13,New w12 (.cells #[(vi aA),(vi aB),(vi aC),(vu aK),(vs aJ),(vi aL),(vi aM)] 103) p3 w13→C3 w13∧∃s1:Sl,∃w14:World,(Builtin.append_ #[49,49] 49 #[v2.v,(Sl.mk (some p3) 1 1).v]).run prog w13=.ok s1.v w14∧C3 w14∧Kept H2 w13 w14∧∃a3,p1=some a3∧kG w14 a3∧¬ H2 a3.block∧∀w15,w15=w14.setCell a3 s1.v→∃a4,p1=some a4∧∃v3:Sl,w15.cell? (a4.add 1)=some v3.v∧∀p4 w16,New w15 (.cells #[(vi (q6.wrap ((q6.wrap (1+r1))+r2)))] 3) p4 w16→∃s2:Sl,∃w17:World,(Builtin.append_ #[50,50] 50 #[v3.v,(Sl.mk (some p4) 1 1).v]).run prog w16=.ok s2.v w17∧Kept H2 w16 w17∧∃a5,p1=some a5∧kG w17 (a5.add 1)∧¬ H2 (a5.add 1).block∧∀w18,w18=w17.setCell (a5.add 1) s2.v→∃a6,p1=some a6∧∃v4:Sl,w18.cell? (a6.add 2)=some v4.v∧∀p5 w19,New w18 (.cells #[(vi (q6.wrap (1+z1)))] 3) p5 w19→∃s3:Sl,∃w20:World,(Builtin.append_ #[50,50] 50 #[v4.v,(Sl.mk (some p5) 1 1).v]).run prog w19=.ok s3.v w20∧Kept H2 w19 w20∧∃a7,p1=some a7∧kG w20 (a7.add 2)∧¬ H2 (a7.add 2).block∧∀w21,w21=w20.setCell (a7.add 2) s3.v→∃a8,p1=some a8∧∃v5:Sl,w21.cell? a8=some v5.v∧K (v5.len:Int) 0 w21)))))))))
def m_L_j2 (p1:Option Addr) (aA aB:Int) (aC aK:Int) (aJ:ByteArray) (aL aM:Int) (x2:Bool) (w0:World) (H:NP) (w:World) (K:Int→Int→WP):Prop :=Br x2 (m_L_j1 p1 aA aB aC aK aJ aL aM true w0 H w K) (Br (((s_A aA):Int) == 2) (Calls prog 19 #[(vp p1),(vi aM)] w (fun e w22=>∃r7,e=.returned (vb r7)∧Kept H w w22∧m_L_j1 p1 aA aB aC aK aJ aL aM (!r7) w0 H w22 K)) (m_L_j1 p1 aA aB aC aK aJ aL aM false w0 H w K))
def m_L (p1:Option Addr) (aA aB:Int) (aC aK:Int) (aJ:ByteArray) (aL aM:Int) (w0:World) (K:Int→Int→WP):Prop :=Br (((s_G aA aB aC aK aJ aL aM):Int) != 0) (∀H1 w2,Hst w0 None w0 H1 w2→K 0 (s_G aA aB aC aK aJ aL aM) w2) (Br (decide ((s_A aA)≥1)) (∀H1 w3,Hst w0 None w0 H1 w3→Calls prog 19 #[(vp p1),(vi aL)] w3 (fun e w23=>∃r8,e=.returned (vb r8)∧Kept H1 w3 w23∧m_L_j2 p1 aA aB aC aK aJ aL aM (!r8) w0 H1 w23 K)) (∀H1 w3,Hst w0 None w0 H1 w3→m_L_j2 p1 aA aB aC aK aJ aL aM false w0 H1 w3 K))
theorem w_L (p1 aA aB aC aK aJ aL aM w0 K) (h:m_L p1 aA aB aC aK aJ aL aM w0 K):
  Calls prog 112 #[(vp p1),(.agg #[(vi aA),(vi aB),(vi aC),(vu aK),(vs aJ),(vi aL),(vi aM)])] w0 (fun e w'=>∃r9 r10,e=.returned (.tuple #[(vi r9),(vi r10)])∧K r9 r10 w'):=by
 refine cw (args:=[(vp p1),(Ad aA aB aC aK aJ aL aM)]) func112 ntmps112 ?_
 obtain ⟨hs,hb⟩:=st0 w0
 refine eg (nw3 (Ac aA aB aC aK aJ aL aM) 103 hs hb xb fun p2 w1 H1 hs hb=>qb (ln (eg (q2 (Ad aA aB aC aK aJ aL aM) (xa p2 (Ac aA aB aC aK aJ aL aM) (isAgg103 _) (sizeOf103 _) (hb.r0 0 7 gZ)) (sc call153 ((p_G aA aB aC aK aJ aL aM w1).mono ?_))))))
 rintro e w2 ⟨he,hE⟩
 refine ⟨_,he,?_⟩
 obtain ⟨hs,hb⟩:=hs.pp hb hE
 refine q (ln (jB (eg (qb (ln (cbr h ?_ ?_))))))<;>intro h
 refine eg (qc (ln (er (zM ?_))))
 have ⟨h,hs⟩:=hs.hr (h H1 w2)
 refine uE (.inl rfl) results112 (v:=(vi 0)) (by kernel_rfl) (v':=(vi (s_G aA aB aC aK aJ aL aM))) (by kernel_rfl) ⟨0,(s_G aA aB aC aK aJ aL aM),rfl,h⟩
 refine jF (jL (eg (q (q3 (xl (isAgg3 _) (hb.d0 0 gZ)) (sc call64 ((p_A aA w2).mono ?_))))))
 rintro e w3 ⟨he,hE⟩
 refine ⟨_,he,?_⟩
 obtain ⟨hs,hb⟩:=hs.pp hb hE
 refine q (ln (jB (jB (zD (fun ρ w=>∃x1,∃H:NP,Has ρ [(0,(vp p1)),(3,(vp (some p2))),(39,(vb x1))]∧Hst w0 H w H w∧HB H w [(p2,(Ac aA aB aC aK aJ aL aM),103)]∧m_L_j1 p1 aA aB aC aK aJ aL aM x1 w0 H w K) ?_ ?_))))
 rintro ρ w ⟨x1,H,hH,hs,hb,h⟩
 refine jY hH (cbr h ?_ ?_)<;>intro h
 refine eg (qb (ln (er (zM (uE (.inl rfl) results112 (v:=(vi 0)) (by kernel_rfl) (v':=(vi 51)) (by kernel_rfl) ⟨0,51,rfl,h⟩)))))
 refine jF (jL (jB ?_))
 obtain ⟨C1,hC,h⟩:=h
 refine dr2 (fun x=>C1 x∧HB H x _) [3,8] [] ⟨hC,hb.drew⟩ h hs hb fun w4 hs hb h=>?_
 have hs:=hs.here
 refine qx 0 (vp p1) Kp0 (qx 1 (vp (some (p2.add 5))) Kp1 (qz 2 (vi aL) Kp2 (fun w' hw'=>(xl (isAgg23 _) (hw'.2.cell 0 5 gZ (by kernel_rfl)))) (qx 5 (vp p1) Kp5 (qx 6 (vp (some (p2.add 6))) Kp6 (qz 7 (vi aM) Kp7 (fun w' hw'=>(xl (isAgg23 _) (hw'.2.cell 0 6 gZ (by kernel_rfl)))) (lg 3 (slc Kp3 call89 (h.mono ?_))))))))
 rintro e w5 ⟨r1,rfl,hC,hk,h⟩
 refine ⟨_,rfl,.inr ⟨hC,hb.kept hk⟩,?_⟩
 obtain ⟨hs,hb⟩:=hk.hh hs hb
 refine qx 4 (vi (q6.wrap (1+r1))) Kp4 (lg 8 (slc Kp8 call89 (h.mono ?_)))
 rintro e w6 ⟨r2,rfl,hC,hk,h⟩
 refine ⟨_,rfl,.inr ⟨hC,hb.kept hk⟩,?_⟩
 obtain ⟨hs,hb⟩:=hk.hh hs hb
 refine qx 9 (vi (q6.wrap ((q6.wrap (1+r1))+r2))) Kp9 (qx 10 (vi (q6.wrap ((q6.wrap (1+r1))+r2))) (jE (S8 (jA (jA jD)))) (wn (jL (jB ?_))))
 obtain ⟨C2,hC,h⟩:=h
 refine dr2 (fun x=>C2 x∧HB H x _) [3,7] [] ⟨hC,hb.drew⟩ h hs hb fun w7 hs hb h=>?_
 have hs:=hs.here
 refine qx 0 (vp p1) Kp0 (qx 1 (vp (some (p2.add 5))) Kp1 (qz 2 (vi aL) Kp2 (fun w' hw'=>(xl (isAgg23 _) (hw'.2.cell 0 5 gZ (by kernel_rfl)))) (qx 4 (vp p1) Kp4 (qx 5 (vp (some (p2.add 6))) Kp5 (qz 6 (vi aM) Kp6 (fun w' hw'=>(xl (isAgg23 _) (hw'.2.cell 0 6 gZ (by kernel_rfl)))) (lg 3 (slc Kp3 call154 (h.mono ?_))))))))
 rintro e w8 ⟨r3,rfl,hC,hk,h⟩
 refine ⟨_,rfl,.inr ⟨hC,hb.kept hk⟩,?_⟩
 obtain ⟨hs,hb⟩:=hk.hh hs hb
 refine lg 7 (slc Kp7 call154 (h.mono ?_))
 rintro e w9 ⟨r4,rfl,hC,hk,h⟩
 refine ⟨_,rfl,.inr ⟨hC,hb.kept hk⟩,?_⟩
 obtain ⟨hs,hb⟩:=hk.hh hs hb
 refine qg 8 ?_
 obtain ⟨z1,hv9,h⟩:=h
 refine sy (v:=(vi z1)) Kp8 (fun w' hw'=>(jI (args:=#[(vi r3),(vi r4)]) (by kernel_rfl) (fun _=>rfl) (hv9 w' hw'.1))) (qx 9 (vi (q6.wrap (1+z1))) Kp9 (qx 10 (vi (q6.wrap (1+z1))) (jE (S8 (jA (jA jD)))) (wn (jL (jB (jB (zH (fun ρ wJ=>∃b1'0 y1:Bool,∃HJ:NP,((decide ((q6.wrap ((q6.wrap (1+r1))+r2))>4096))=b1'0)∧(y1=(b1'0 || (decide ((q6.wrap (1+z1))>64))))∧Hst w0 H w9 HJ wJ∧HB HJ wJ [(p2,(Ac aA aB aC aK aJ aL aM),103)]∧Has ρ [(0,(vp p1)),(3,(vp (some p2))),(8,(vi (q6.wrap ((q6.wrap (1+r1))+r2)))),(9,(vi (q6.wrap (1+z1)))),(65,(vb y1))]) ?_ ?_)))))))
 refine rg (qc ?_)
 rcases bte (decide ((q6.wrap ((q6.wrap (1+r1))+r2))>4096)) with hg2 | hg2
 refine sj2 62 hg2 (q2 (vb true) (xT hg2) (ln ⟨true,_,_,hg2,rfl,hs,hb,hm⟩))
 refine qk 62 hg2 (qk 62 hg2 (q2 (vb (decide ((q6.wrap (1+z1))>64))) (xF hg2) (ln ⟨false,_,_,hg2,rfl,hs,hb,hm⟩)))
 rintro ρ w10 ⟨b1'0,y1,H2,he0,hy1,hs,hb,hH⟩
 subst he0
 have h:=h y1 hy1
 refine zA hH (jL (cbr h ?_ ?_))<;>intro h
 refine eg (qb (ln (er (zM ?_))))
 have ⟨h,hs⟩:=hs.hr (h H2 w10)
 refine uE (.inl rfl) results112 (v:=(vi 0)) (by kernel_rfl) (v':=(vi 52)) (by kernel_rfl) ⟨0,52,rfl,h⟩
 refine jF (jL (eg (q (q2 (Ad aA aB aC aK aJ aL aM) (xa p2 (Ac aA aB aC aK aJ aL aM) (isAgg103 _) (sizeOf103 _) (hb.r0 0 7 gZ)) ?_))))
 have ⟨h,hs⟩:=hs.hr (h H2 w10)
 refine sc call155 (h.mono fun e w11 ⟨r5,r6,k,hk,h⟩=>have ⟨hs,hb⟩:=hk.hh hs hb;⟨_,k,?_⟩)
 refine q (qd (ln (jB (eg (q (jC (jL (cbr h ?_ ?_))))))))<;>intro h
 refine eg (qc (ln (er (zM (uE (.inl rfl) results112 (v:=(vi r5)) (by kernel_rfl) (v':=(vi 0)) (by kernel_rfl) ⟨r5,0,rfl,h⟩)))))
 refine jF (jL (jB (eg (q (qm h fun a1 h=>q (ql (isAgg49 _) h fun v1 h=>qb (ln (cbr h ?_ ?_))))))))<;>intro h
 refine eg (qb (ln (er (zM (uE (.inl rfl) results112 (v:=(vi 0)) (by kernel_rfl) (v':=(vi 6)) (by kernel_rfl) ⟨0,6,rfl,h⟩)))))
 refine jF (jL (jB ?_))
 obtain ⟨C3,hC,h⟩:=h
 refine dr2 (fun x=>C3 x∧HB H2 x _) [6,7,10] [10] ⟨hC,hb.drew⟩ h hs hb fun w12 hs hb h=>?_
 have hs:=hs.here
 refine qx 0 (vp p1) Kp0 (qx 1 (vp p1) Kp1 (qg 2 ?_))
 obtain ⟨a2,hp2,h⟩:=h
 refine sy Kp2 (fun _ _=>xn hp2) (qx 3 (vp (some a2)) Kp3 (qg 4 ?_))
 obtain ⟨v2,hv7,h⟩:=h
 refine sy Kp4 (fun _ k=>xl (isAgg49 _) (hv7 _ k.1)) (qz 5 (Ad aA aB aC aK aJ aL aM) Kp5 (fun w' hw'=>(xa p2 (Ac aA aB aC aK aJ aL aM) (isAgg103 _) (sizeOf103 _) (hw'.2.r0 0 7 gZ))) (lg 6 (kC (O:=(.cells #[(vi aA),(vi aB),(vi aC),(vu aK),(vs aJ),(vi aL),(vi aM)] 103)) (fun p=>(Sl.mk (some p) 1 1).v) Kp6 (jG rfl) (by kernel_rfl) (jK (vs:=#[(0,(Ad aA aB aC aK aJ aL aM))]) (by kernel_rfl) (by kernel_rfl)) ?_)))
 intro p3 w13 hn7
 have h:=h p3 w13 hn7
 refine ⟨.inr ⟨h.1,hb.kept (Ext.new (F:=None) hn7).keptP⟩,?_⟩
 have h:=h.2
 obtain ⟨hs,hb⟩:=hs.nw hb hn7
 refine lg 7 ?_
 obtain ⟨s1,w14,hv6,hC,hk,h⟩:=h
 refine sl (v:=s1.v) Kp7 (jG rfl) (by kernel_rfl) (jI (args:=#[v2.v,(Sl.mk (some p3) 1 1).v]) (by kernel_rfl) (fun _=>rfl) hv6) (.inr ⟨hC,hb.kept hk⟩) ?_
 obtain ⟨hs,hb⟩:=hk.hh hs hb
 refine qg 8 ?_
 obtain ⟨a3,hp3,h⟩:=h
 refine sy Kp8 (fun _ _=>xn hp3) (qx 9 (vp (some a3)) Kp9 (lg 10 ?_))
 obtain ⟨hp4,hnh,h⟩:=h
 refine sl_t (jE (S8 (jA (jA jD)))) (xs (v:=s1.v) (sizeOf49 _) hp4) ?_
 intro w15 hn2
 have h:=h w15 hn2
 refine ⟨.inl (by kernel_rfl),?_⟩
 have hk:=Kept.sc hnh hn2
 obtain ⟨hs,hb⟩:=hk.hh hs hb
 refine wn (jL (eg (qb (qm h fun a4 h=>q (ql (isAgg50 _) h fun v3 h=>q (kP (O:=(.cells #[(vi (q6.wrap ((q6.wrap (1+r1))+r2)))] 3)) (fun p=>(Sl.mk (some p) 1 1).v) (jG rfl) (jK (vs:=#[(0,(vi (q6.wrap ((q6.wrap (1+r1))+r2))))]) (by kernel_rfl) (by kernel_rfl)) ?_))))))
 intro p4 w16 hn6
 have h:=h p4 w16 hn6
 obtain ⟨hs,hb⟩:=hs.nw hb hn6
 obtain ⟨s2,w17,hv4,hk,h⟩:=h
 refine st (v:=s2.v) (jG rfl) (jI (args:=#[v3.v,(Sl.mk (some p4) 1 1).v]) (by kernel_rfl) (fun _=>rfl) hv4) ?_
 obtain ⟨hs,hb⟩:=hk.hh hs hb
 refine qm h fun a5 h=>q (st2 (sizeOf50 _) hs hb h fun w18 hs hb h=>ln (eg (qb (qm h fun a6 h=>q (ql (isAgg50 _) h fun v4 h=>q (kP (O:=(.cells #[(vi (q6.wrap (1+z1)))] 3)) (fun p=>(Sl.mk (some p) 1 1).v) (jG rfl) (jK (vs:=#[(0,(vi (q6.wrap (1+z1))))]) (by kernel_rfl) (by kernel_rfl)) ?_))))))
 intro p5 w19 hn5
 have h:=h p5 w19 hn5
 obtain ⟨hs,hb⟩:=hs.nw hb hn5
 obtain ⟨s3,w20,hv2,hk,h⟩:=h
 refine st (v:=s3.v) (jG rfl) (jI (args:=#[v4.v,(Sl.mk (some p5) 1 1).v]) (by kernel_rfl) (fun _=>rfl) hv2) ?_
 obtain ⟨hs,hb⟩:=hk.hh hs hb
 refine qm h fun a7 h=>q (st2 (sizeOf50 _) hs hb h fun w21 hs hb h=>ln (eg (q (qm h fun a8 h=>q (ql (isAgg49 _) h fun v5 h=>qc (ln (er (uE (.inl rfl) results112 (v:=(vi (v5.len:Int))) (by kernel_rfl) (v':=(vi 0)) (by kernel_rfl) ⟨(v5.len:Int),0,rfl,h⟩))))))))
 refine rg (qc (jM 6 (fun ρ w=>∃x2,∃H:NP,Has ρ [(0,(vp p1)),(3,(vp (some p2))),(7,(vi (s_A aA))),(28,(vb x2))]∧Hst w0 H w H w∧HB H w [(p2,(Ac aA aB aC aK aJ aL aM),103)]∧m_L_j2 p1 aA aB aC aK aJ aL aM x2 w0 H w K) ?_ ?_))
 rintro ρ w ⟨x2,H,hH,hs,hb,h⟩
 refine jR hH (q ?_)
 obtain ⟨hg3,h⟩|⟨hg3,h⟩:=h.br
 refine sj3 29 hg3 (sm (sm (sm (sm (sm (sj 29 hg3 (q2 (vb true) (xT hg3) (ln ⟨true,H,hm,hs,hb,h⟩))))))))
 refine qk 29 hg3 (qk 29 hg3 (qk 29 hg3 ?_))
 obtain ⟨hg4,h⟩|⟨hg4,h⟩:=h.br
 refine qk 32 hg4 (qk 32 hg4 (q4 32 hg4 (xl (isAgg23 _) (hb.d 0 6 gZ)) (kQ (wy 32 hg4) (xc call19) (h.mono ?_))))
 rintro e w22 ⟨r7,rfl,hk,h⟩
 refine ⟨_,rfl,?_⟩
 obtain ⟨hs,hb⟩:=hk.hh hs hb
 refine qk 32 hg4 (stq (v:=(vb (!r7))) (wy 29 hg3) (xT hg4) (q2 (vb (!r7)) (xF hg3) (ln ⟨(!r7),H,hm,hs,hb,h⟩)))
 refine sj5 32 hg4 (stq (v:=(vb false)) (wy 29 hg3) (xF hg4) (q2 (vb false) (xF hg3) (ln ⟨false,H,hm,hs,hb,h⟩)))
 obtain ⟨hg5,h⟩|⟨hg5,h⟩:=h.br
 refine qk 22 hg5 (qk 22 hg5 (q4 22 hg5 (xl (isAgg23 _) (hb.d 0 5 gZ)) ?_))
 have ⟨h,hs⟩:=hs.hr (h H1 w3)
 refine kQ (wy 22 hg5) (xc call19) (h.mono ?_)
 rintro e w23 ⟨r8,rfl,hk,h⟩
 refine ⟨_,rfl,?_⟩
 obtain ⟨hs,hb⟩:=hk.hh hs hb
 refine qk 22 hg5 (q2 (vb (!r8)) (xT hg5) (jC ⟨(!r8),H1,hm,hs,hb,h⟩))
 refine sj5 22 hg5 (q2 (vb false) (xF hg5) (jC ?_))
 have ⟨h,hs⟩:=hs.hr (h H1 w3)
 exact ⟨false,H1,hm,hs,hb,h⟩
def m_B1_l1 (p1:Option Addr) (aI:Sl) (i1 aA:Int) (aB aC aK:Int) (aJ:ByteArray) (aL aM:Int) (w0:World) (Hl1:NP) (wl1:World) (Kc1:Int→Int→Int→Int→Int→ByteArray→Int→Int→NP→WP) (K:Int→Int→WP):Prop :=Br (decide (i1<(aI.len:Int))) (∃a1:Addr,At aI i1 6 a1∧∃aO aP aQ aR aS bB,Row wl1 a1 (Aa aO aP aQ aR aS bB)∧Calls prog 58 #[(vp p1),(.agg #[(vi aO),(vi aP),(vi aQ),(vu aR),(vs aS),bB.v])] wl1 (fun e w5=>∃r1 r2,e=.returned (.tuple #[(vi r1),(vi r2)])∧Kept Hl1 wl1 w5∧Br (r2 != 0) (K 0 r2 w5) (∀H3 w8,Hst w0 Hl1 w5 H3 w8→Kc1 (q6.wrap (i1+1)) aA aB aC aK aJ (cond (i1 == 0) r1 aL) (cond (i1 == 0) aM r1) H3 w8))) (Calls prog 112 #[(vp p1),(.agg #[(vi aA),(vi aB),(vi aC),(vu aK),(vs aJ),(vi aL),(vi aM)])] wl1 (fun e w11=>∃r3 r4,e=.returned (.tuple #[(vi r3),(vi r4)])∧Kept Hl1 wl1 w11∧K r3 r4 w11))
def m_B1 (p1:Option Addr) (aD aE:Int) (aF aG:Int) (aH:ByteArray) (aI:Sl) (w0:World) (K:Int→Int→WP):Prop :=∀H2 w4,Hst w0 None w0 H2 w4→∃(I1:Int→Int→Int→Int→Int→ByteArray→Int→Int→NP→WP) (mu1:Int→Int→Int→Int→Int→ByteArray→Int→Int→World→Nat),I1 0 aD aE aF aG aH 0 0 H2 w4∧∀(i1 aA:Int) (aB aC aK:Int) (aJ:ByteArray) (aL aM:Int) (Hl1:NP) (wl1:World),Hst w0 Hl1 wl1 Hl1 wl1→I1 i1 aA aB aC aK aJ aL aM Hl1 wl1→m_B1_l1 p1 aI i1 aA aB aC aK aJ aL aM w0 Hl1 wl1 (fun y'0 y'1 y'2 y'3 y'4 y'5 y'6 y'7 H' w'=>I1 y'0 y'1 y'2 y'3 y'4 y'5 y'6 y'7 H' w'∧mu1 y'0 y'1 y'2 y'3 y'4 y'5 y'6 y'7 w'<mu1 i1 aA aB aC aK aJ aL aM wl1) K
theorem w_B1 (p1 aD aE aF aG aH aI w0 K) (h:m_B1 p1 aD aE aF aG aH aI w0 K):
  Calls prog 58 #[(vp p1),(.agg #[(vi aD),(vi aE),(vi aF),(vu aG),(vs aH),aI.v])] w0 (fun e w'=>∃r5 r6,e=.returned (.tuple #[(vi r5),(vi r6)])∧K r5 r6 w'):=by
 refine cw (args:=[(vp p1),(Ab aD aE aF aG aH aI)]) func58 ntmps58 ?_
 obtain ⟨hs,hb⟩:=st0 w0
 refine eg (nw3 (Aa aD aE aF aG aH aI) 28 hs hb xb fun p2 w1 H1 hs hb=>qb (ln (eg (q2 (Ab aD aE aF aG aH aI) (xa p2 (Aa aD aE aF aG aH aI) (isAgg28 _) (sizeOf28 _) (hb.r0 0 6 gZ)) (sc call111 ((p_U aD aE aF aG aH aI w1).mono ?_))))))
 rintro e w2 ⟨he,hE⟩
 refine ⟨_,he,?_⟩
 obtain ⟨hs,hb⟩:=hs.pp hb hE
 refine nw3 (Aj 0 0 0 0 0 0) 103 hs hb (jW (zeroValue103 _) rfl) fun p3 w3 H2 hs hb=>sbx 0 (Ac aD aE aF aG aH 0 0) (sizeOf103 _) hs hb gZ fun w4 hs hb=>ln (jB (eg (q (ln (jO ?_)))))
 have ⟨h,hs⟩:=hs.hr (h H2 w4)
 obtain ⟨I1,mu1,h0,hr⟩:=h
 refine zU (σ:=Int×Int×Int×Int×Int×ByteArray×Int×Int×NP×World) (fun s ρ w=>w=s.2.2.2.2.2.2.2.2.2∧Has ρ [(0,(vp p1)),(3,(vp (some p2))),(6,(vp (some p3))),(7,(vi s.1))]∧Hst w0 s.2.2.2.2.2.2.2.2.1 w s.2.2.2.2.2.2.2.2.1 w∧HB s.2.2.2.2.2.2.2.2.1 w [(p3,(Ac (s.2.1) (s.2.2.1) (s.2.2.2.1) (s.2.2.2.2.1) (s.2.2.2.2.2.1) (s.2.2.2.2.2.2.1) (s.2.2.2.2.2.2.2.1)),103),(p2,(Aa aD aE aF aG aH aI),28)]∧I1 s.1 s.2.1 s.2.2.1 s.2.2.2.1 s.2.2.2.2.1 s.2.2.2.2.2.1 s.2.2.2.2.2.2.1 s.2.2.2.2.2.2.2.1 s.2.2.2.2.2.2.2.2.1 s.2.2.2.2.2.2.2.2.2) (fun s=>mu1 s.1 s.2.1 s.2.2.1 s.2.2.2.1 s.2.2.2.2.1 s.2.2.2.2.2.1 s.2.2.2.2.2.2.1 s.2.2.2.2.2.2.2.1 s.2.2.2.2.2.2.2.2.2) (0,aD,aE,aF,aG,aH,0,0,H2,w4) ⟨rfl,hm,hs,hb,h0⟩ ?_
 rintro ⟨i1,aA,aB,aC,aK,aJ,aL,aM,Hl1,wl1⟩ ρ w ⟨hw,hH,hs,hb,hI⟩
 dsimp only at hw hH hs hb;subst w
 have h:=hr i1 aA aB aC aK aJ aL aM Hl1 wl1 hs hI
 refine jY hH (jB (eg (qb (q3 (xl (isAgg22 _) (hb.d 1 5 (gS gZ))) (qb (ln (cbr h ?_ ?_)))))))<;>intro h
 refine jF (jL (jB (jO (eg (qb (q3 (xl (isAgg22 _) (hb.d 1 5 (gS gZ))) (q (qi (runUnderlying22 _) (sizeOf28 _) h fun a1 h=>?_))))))))
 obtain ⟨aO,aP,aQ,aR,aS,bB,hv1,h⟩:=h
 refine qa (isAgg28 _) (sizeOf28 _) hv1 (sc call58 (h.mono fun e w5 ⟨r1,r2,k,hk,h⟩=>have ⟨hs,hb⟩:=hk.hh hs hb;⟨_,k,?_⟩))
 refine q (qd (ln (jB (eg (qb (ln (cbr h ?_ ?_)))))))<;>intro h
 refine eg (qc (ln (er (zM (vR (zM (zM (vR (zM (uE (.inl rfl) results58 (v:=(vi 0)) (by kernel_rfl) (v':=(vi r2)) (by kernel_rfl) ⟨0,r2,rfl,h⟩))))))))))
 refine jF (jL (eg (qb (ln (zH (fun ρ wJ=>∃b1'0:Bool,∃HJ:NP,((i1 == 0)=b1'0)∧Hst w0 Hl1 w5 HJ wJ∧HB HJ wJ [(p3,(Ac aA aB aC aK aJ (cond b1'0 r1 aL) (cond b1'0 aM r1)),103),(p2,(Aa aD aE aF aG aH aI),28)]∧Has ρ [(0,(vp p1)),(3,(vp (some p2))),(6,(vp (some p3))),(7,(vi i1))]) ?_ ?_)))))
 refine zO (t:=(i1 == 0)) (by kernel_rfl) (fun hc4=>?_) (fun hc4=>?_)
 refine rg (qb (zF (jG rfl) (zY (a:=(p3.add 5)) (v:=(vi r1)) (by kernel_rfl) (by kernel_rfl) rfl (sizeOf23 _) (hb.canW 0 5 gZ (by kernel_rfl))) ?_))
 intro w9 hn6
 have hsb:Hst w0 Hl1 w5 Hl1 w9∧HB Hl1 w9 [(p3,(Ac aA aB aC aK aJ r1 aM),103),(p2,(Aa aD aE aF aG aH aI),28)]:=by
  rw [hn6];exact hb.set (i:=0) 5 (v:=(vi r1)) hs gZ (by kernel_rfl)
 obtain ⟨hs,hb⟩:=hsb
 refine ln ⟨true,_,hc4,hs,hb,hm⟩
 refine rg (qb (zF (jG rfl) (zY (a:=(p3.add 6)) (v:=(vi r1)) (by kernel_rfl) (by kernel_rfl) rfl (sizeOf23 _) (hb.canW 0 6 gZ (by kernel_rfl))) ?_))
 intro w10 hn7
 have hsb:Hst w0 Hl1 w5 Hl1 w10∧HB Hl1 w10 [(p3,(Ac aA aB aC aK aJ aL r1),103),(p2,(Aa aD aE aF aG aH aI),28)]:=by
  rw [hn7];exact hb.set (i:=0) 6 (v:=(vi r1)) hs gZ (by kernel_rfl)
 obtain ⟨hs,hb⟩:=hsb
 refine ln ⟨false,_,hc4,hs,hb,hm⟩
 rintro ρ w8 ⟨b1'0,H3,he0,hs,hb,hH⟩
 subst he0
 refine zA hH (kW (jL (rg (qc (jC ?_)))))
 have ⟨h,hs⟩:=hs.hr (h H3 w8)
 refine jL ⟨((q6.wrap (i1+1)),aA,aB,aC,aK,aJ,(cond (i1 == 0) r1 aL),(cond (i1 == 0) aM r1),H3,w8),⟨rfl,hm,hs,hb,h.1⟩,h.2⟩
 refine zI (vM (vM (vI (jL (eg (q0 (vp p1) (q2 (Ad aA aB aC aK aJ aL aM) (xa p3 (Ac aA aB aC aK aJ aL aM) (isAgg103 _) (sizeOf103 _) (hb.r0 0 7 gZ)) (sc call112 (h.mono fun e w11 ⟨r3,r4,k,hk,h⟩=>have ⟨hs,hb⟩:=hk.hh hs hb;⟨_,k,?_⟩)))))))))
 refine qd (ln (er (uE (.inl rfl) results58 (v:=(vi r3)) (by kernel_rfl) (v':=(vi r4)) (by kernel_rfl) ⟨r3,r4,rfl,h⟩)))
def m_P1 (p1:Option Addr) (n1:Int) (w0:World) (K:WP):Prop :=∃a1,p1=some a1∧∃v1:Sl,w0.cell? a1=some v1.v∧∃s1:Sl,(Instr.sliceAt 49 v1.v none (some (vi n1)) none).run prog w0=.ok s1.v w0∧∃a2,p1=some a2∧kG w0 a2∧∀w1,w1=w0.setCell a2 s1.v→∃a3,p1=some a3∧∃v2:Sl,w1.cell? (a3.add 1)=some v2.v∧∃s2:Sl,(Instr.sliceAt 50 v2.v none (some (vi n1)) none).run prog w1=.ok s2.v w1∧∃a4,p1=some a4∧kG w1 (a4.add 1)∧∀w2,w2=w1.setCell (a4.add 1) s2.v→∃a5,p1=some a5∧∃v3:Sl,w2.cell? (a5.add 2)=some v3.v∧∃s3:Sl,(Instr.sliceAt 50 v3.v none (some (vi n1)) none).run prog w2=.ok s3.v w2∧∃a6,p1=some a6∧kG w2 (a6.add 2)∧∀w3,w3=w2.setCell (a6.add 2) s3.v→K w3
theorem w_P1 (p1 n1 w0 K) (h:m_P1 p1 n1 w0 K):
  Calls prog 59 #[(vp p1),(vi n1)] w0 (fun e w'=>e=.returned (.tuple #[])∧K  w'):=by
 refine cw (args:=[(vp p1),(vi n1)]) func59 ntmps59 (eg (q0 (vp p1) (q0 (vp p1) ?_)))
 refine qm h fun a1 h=>q (ql (isAgg49 _) h fun v1 h=>q ?_)
 obtain ⟨s1,hv5,h⟩:=h
 refine q2 s1.v (qB (by kernel_rfl) (by kernel_rfl) (by kernel_rfl) (by kernel_rfl) hv5) (qm h fun a2 h=>q (st1 (sizeOf49 _) h fun w1 h=>ln (eg (qb (qm h fun a3 h=>q (ql (isAgg50 _) h fun v2 h=>q ?_))))))
 obtain ⟨s2,hv3,h⟩:=h
 refine q2 s2.v (qB (by kernel_rfl) (by kernel_rfl) (by kernel_rfl) (by kernel_rfl) hv3) (qm h fun a4 h=>q (st1 (sizeOf50 _) h fun w2 h=>ln (rg (qb (qm h fun a5 h=>q (ql (isAgg50 _) h fun v3 h=>q ?_))))))
 obtain ⟨s3,hv1,h⟩:=h
 refine q2 s3.v (qB (by kernel_rfl) (by kernel_rfl) (by kernel_rfl) (by kernel_rfl) hv1) (qm h fun a6 h=>q (st1 (sizeOf50 _) h fun w3 h=>jC (jDK (.inr rfl) results59 ⟨rfl,h⟩)))
def m_Q1 (p1:Option Addr) (aD aE:Int) (aF aG:Int) (aH:ByteArray) (aI:Sl) (w0:World) (K:Int→Int→WP):Prop :=∀H1 w1,Hst w0 None w0 H1 w1→Calls prog 57 #[(.agg #[(vi aD),(vi aE),(vi aF),(vu aG),(vs aH),aI.v])] w1 (fun e w2=>∃r1,e=.returned (vi r1)∧Kept H1 w1 w2∧Br (r1 != 0) (K 0 r1 w2) (∃a1,p1=some a1∧∃v1:Sl,w2.cell? a1=some v1.v∧Calls prog 58 #[(vp p1),(.agg #[(vi aD),(vi aE),(vi aF),(vu aG),(vs aH),aI.v])] w2 (fun e w3=>∃r2 r3,e=.returned (.tuple #[(vi r2),(vi r3)])∧Kept H1 w2 w3∧Br (r3 != 0) (Calls prog 59 #[(vp p1),(vi (v1.len:Int))] w3 (fun e w4=>e=.returned (.tuple #[])∧Kept H1 w3 w4∧K r2 r3 w4)) (K r2 r3 w3))))
theorem w_Q1 (p1 aD aE aF aG aH aI w0 K) (h:m_Q1 p1 aD aE aF aG aH aI w0 K):
  Calls prog 14 #[(vp p1),(.agg #[(vi aD),(vi aE),(vi aF),(vu aG),(vs aH),aI.v])] w0 (fun e w'=>∃r4 r5,e=.returned (.tuple #[(vi r4),(vi r5)])∧K r4 r5 w'):=by
 refine cw (args:=[(vp p1),(Ab aD aE aF aG aH aI)]) func14 ntmps14 ?_
 obtain ⟨hs,hb⟩:=st0 w0
 refine eg (nw3 (Aa aD aE aF aG aH aI) 28 hs hb xb fun p2 w1 H1 hs hb=>qb (ln (eg (q2 (Ab aD aE aF aG aH aI) (xa p2 (Aa aD aE aF aG aH aI) (isAgg28 _) (sizeOf28 _) (hb.r0 0 6 gZ)) ?_))))
 have ⟨h,hs⟩:=hs.hr (h H1 w1)
 refine sc call57 (h.mono fun e w2 ⟨r1,k,hk,h⟩=>have ⟨hs,hb⟩:=hk.hh hs hb;⟨_,k,?_⟩)
 refine q (ln (jB (eg (qb (ln (cbr h ?_ ?_))))))<;>intro h
 refine eg (qc (ln (er (zM (uE (.inl rfl) results14 (v:=(vi 0)) (by kernel_rfl) (v':=(vi r1)) (by kernel_rfl) ⟨0,r1,rfl,h⟩)))))
 refine jF (jL (eg (q (qm h fun a1 h=>q (ql (isAgg49 _) h fun v1 h=>qb (ln (eg (q (q2 (Ab aD aE aF aG aH aI) (xa p2 (Aa aD aE aF aG aH aI) (isAgg28 _) (sizeOf28 _) (hb.r0 0 6 gZ)) (sc call58 (h.mono fun e w3 ⟨r2,r3,k,hk,h⟩=>have ⟨hs,hb⟩:=hk.hh hs hb;⟨_,k,?_⟩)))))))))))
 refine q (qd (ln (jB (eg (qb (ln (cbr h ?_ ?_)))))))<;>intro h
 refine rg (qb (sc call59 (h.mono fun e w4 ⟨k,hk,h⟩=>have ⟨hs,hb⟩:=hk.hh hs hb;⟨_,k,?_⟩)))
 refine ln (eg (qd (ln (er (uE (.inl rfl) results14 (v:=(vi r2)) (by kernel_rfl) (v':=(vi r3)) (by kernel_rfl) ⟨r2,r3,rfl,h⟩)))))
 refine jF (jL (eg (qd (ln (er (uE (.inl rfl) results14 (v:=(vi r2)) (by kernel_rfl) (v':=(vi r3)) (by kernel_rfl) ⟨r2,r3,rfl,h⟩))))))
def m_A2 (p1:Option Addr) (t1:Int) (w0:World) (K:Int→Int→Int→Int→ByteArray→Int→Int→Bool→WP):Prop :=∀H1 w1,Hst w0 None w0 H1 w1→Calls prog 19 #[(vp p1),(vi t1)] w1 (fun e w2=>∃r1,e=.returned (vb r1)∧Kept H1 w1 w2∧Br (!r1) (∀w3,Hst w0 H1 w2 H1 w3→K 0 0 0 0 ⟨#[]⟩ 0 0 false w3) (∃a1,p1=some a1∧∃v1:Sl,w2.cell? a1=some v1.v∧∃a2:Addr,At v1 (q6.wrap (t1 - 1)) 7 a2∧∃aO aP aQ aR aS bN bO,Row w2 a2 (Ac aO aP aQ aR aS bN bO)∧∀w4,Hst w0 H1 w2 H1 w4→K aO aP aQ aR aS bN bO true w4))
theorem w_A2 (p1 t1 w0 K) (h:m_A2 p1 t1 w0 K):
  Calls prog 63 #[(vp p1),(vi t1)] w0 (fun e w'=>∃aN aT aU aV aW bJ bF r2,e=.returned (.tuple #[(Ad aN aT aU aV aW bJ bF),(vb r2)])∧K aN aT aU aV aW bJ bF r2 w'):=by
 refine cw (args:=[(vp p1),(vi t1)]) func63 ntmps63 ?_
 obtain ⟨hs,hb⟩:=st0 w0
 refine eg (nw3 (Aj 0 0 0 0 0 0) 103 hs hb (jW (zeroValue103 _) rfl) fun p2 w1 H1 hs hb=>q (ln (jB (eg (qb ?_)))))
 have ⟨h,hs⟩:=hs.hr (h H1 w1)
 refine sc call19 (h.mono fun e w2 ⟨r1,k,hk,h⟩=>have ⟨hs,hb⟩:=hk.hh hs hb;⟨_,k,?_⟩)
 refine q (ln (cbr h ?_ ?_))<;>intro h
 refine eg (q (zF (jG rfl) (xo p2 (Aj 0 0 0 0 0 0) (sizeOf103 _) (hb.k0 0 7 gZ)) ?_))
 intro w3 hn2
 obtain ⟨hs,hb⟩:=hb.st1 0 hs hn2 gZ
 refine q (ln (er (zM ?_)))
 have ⟨h,hs⟩:=hs.hr (h w3)
 refine uD (.inl rfl) (vs:=[(.agg #[(vi 0),(vi 0),(vi 0),(vu 0),ve,(vi 0),(vi 0)]),(vb false)]) (v:=(.tuple #[(.agg #[(vi 0),(vi 0),(vi 0),(vu 0),ve,(vi 0),(vi 0)]),(vb false)])) results63 ⟨(rva (isAgg103 _) (sizeOf103 _) (hb.r0 0 7 gZ)),(rvT (by kernel_rfl)),trivial⟩ (by kernel_rfl) ⟨0,0,0,0,⟨#[]⟩,0,0,false,rfl,h⟩
 refine jF (jL (eg (q (qm h fun a1 h=>q (ql (isAgg49 _) h fun v1 h=>qb (qi (runUnderlying49 _) (sizeOf103 _) h fun a2 h=>?_))))))
 obtain ⟨aO,aP,aQ,aR,aS,bN,bO,hv1,h⟩:=h
 refine qa (isAgg103 _) (sizeOf103 _) hv1 (zF (jG rfl) (xo p2 (Ac aO aP aQ aR aS bN bO) (sizeOf103 _) (hb.k0 0 7 gZ)) ?_)
 intro w4 hn3
 obtain ⟨hs,hb⟩:=hb.st1 0 hs hn3 gZ
 refine q (ln (er ?_))
 have ⟨h,hs⟩:=hs.hr (h w4)
 refine uD (.inl rfl) (vs:=[(Ad aO aP aQ aR aS bN bO),(vb true)]) (v:=(.tuple #[(Ad aO aP aQ aR aS bN bO),(vb true)])) results63 ⟨(rva (isAgg103 _) (sizeOf103 _) (hb.r0 0 7 gZ)),(rvT (by kernel_rfl)),trivial⟩ (by kernel_rfl) ⟨aO,aP,aQ,aR,aS,bN,bO,true,rfl,h⟩
def m_S_j1 (p1:Option Addr) (aN bF:Int) (aD aE:Int) (aF aG:Int) (aH:ByteArray) (aI:Sl) (w0:World) (H:NP) (w:World) (K:Int→Int→Int→Int→ByteArray→Sl→WP):Prop :=Br (((s_A aN):Int) == 2) (∀w9,Hst w0 H w H w9→∃C1:WP,C1 w9.drew∧∀w10,w10=w9.drew→Calls prog 20 #[(vp p1),(vi bF)] w10 (fun e w11=>∃bV bW bX bY bZ bU,e=.returned (Ab bV bW bX bY bZ bU)∧C1 w11∧Kept H w10 w11∧∀p5 w12,New w11 (.cells #[(vi bV),(vi bW),(vi bX),(vu bY),(vs bZ),bU.v] 28) p5 w12→C1 w12∧∃s1:Sl,∃w13:World,(Builtin.append_ #[22,22] 22 #[aI.v,(Sl.mk (some p5) 1 1).v]).run prog w12=.ok s1.v w13∧C1 w13∧Kept H w12 w13∧∀w15,Hst w0 H w13 H w15→K aD aE aF aG aH s1 w15)) (∀w16,Hst w0 H w H w16→K aD aE aF aG aH aI w16)
def m_S (p1:Option Addr) (t1:Int) (w0:World) (K:Int→Int→Int→Int→ByteArray→Sl→WP):Prop :=∀H1 w1,Hst w0 None w0 H1 w1→Calls prog 63 #[(vp p1),(vi t1)] w1 (fun e w2=>∃aN aT aU aV aW bJ bF r1,e=.returned (.tuple #[(Ad aN aT aU aV aW bJ bF),(vb r1)])∧Kept H1 w1 w2∧Br (!r1) (∀H2 w5,Hst w0 H1 w2 H2 w5→K 0 0 0 0 ⟨#[]⟩ Sl.nil w5) (Br (decide ((s_A aN)≥1)) (∀H3 w8,Hst w0 H1 w2 H3 w8→∃C2:WP,C2 w8.drew∧∀w17,w17=w8.drew→Calls prog 20 #[(vp p1),(vi bJ)] w17 (fun e w18=>∃cB cC cD cE cF cA,e=.returned (Ab cB cC cD cE cF cA)∧C2 w18∧Kept H3 w17 w18∧∀p6 w19,New w18 (.cells #[(vi cB),(vi cC),(vi cD),(vu cE),(vs cF),cA.v] 28) p6 w19→C2 w19∧∃s2:Sl,∃w20:World,(Builtin.append_ #[22,22] 22 #[Sl.nil.v,(Sl.mk (some p6) 1 1).v]).run prog w19=.ok s2.v w20∧C2 w20∧Kept H3 w19 w20∧∀w21,Hst w0 H3 w20 H3 w21→m_S_j1 p1 aN bF aN aT aU aV aW s2 w0 H3 w21 K)) (∀H3 w8,Hst w0 H1 w2 H3 w8→m_S_j1 p1 aN bF aN aT aU aV aW Sl.nil w0 H3 w8 K)))
theorem w_S (p1 t1 w0 K) (h:m_S p1 t1 w0 K):
  Calls prog 20 #[(vp p1),(vi t1)] w0 (fun e w'=>∃cM cN cO cP cQ cR,e=.returned (Ab cM cN cO cP cQ cR)∧K cM cN cO cP cQ cR w'):=by
 refine cw (args:=[(vp p1),(vi t1)]) func20 ntmps20 ?_
 obtain ⟨hs,hb⟩:=st0 w0
 refine eg (nw3 [(vi 0),(vi 0),(vi 0),(vu 0),ve,Sl.nil.v] 28 hs hb (jW (zeroValue28 _) rfl) fun p2 w1 H1 hs hb=>ln (eg (qb ?_)))
 have ⟨h,hs⟩:=hs.hr (h H1 w1)
 refine sc call63 (h.mono fun e w2 ⟨aN,aT,aU,aV,aW,bJ,bF,r1,k,hk,h⟩=>have ⟨hs,hb⟩:=hk.hh hs hb;⟨_,k,?_⟩)
 refine qc (nw3 (Aj 0 0 0 0 0 0) 103 hs hb (jW (zeroValue103 _) rfl) fun p3 w3 H2 hs hb=>sbx 0 (Ac aN aT aU aV aW bJ bF) (sizeOf103 _) hs hb gZ fun w4 hs hb=>q (ln (jB (eg (qb (ln (cbr h ?_ ?_)))))))<;>intro h
 refine eg (q (zF (jG rfl) (xo p2 [(vi 0),(vi 0),(vi 0),(vu 0),ve,Sl.nil.v] (sizeOf28 _) (hb.k0 1 6 (gS gZ))) ?_))
 intro w5 hn4
 obtain ⟨hs,hb⟩:=hb.st1 1 hs hn4 (gS gZ)
 refine ln (er (zM ?_))
 have ⟨h,hs⟩:=hs.hr (h H2 w5)
 refine uD (.inl rfl) (vs:=[(.agg #[(vi 0),(vi 0),(vi 0),(vu 0),ve,Sl.nil.v])]) (v:=(.agg #[(vi 0),(vi 0),(vi 0),(vu 0),ve,Sl.nil.v])) results20 ⟨(rva (isAgg28 _) (sizeOf28 _) (hb.r0 1 6 (gS gZ))),trivial⟩ (by kernel_rfl) ⟨0,0,0,0,⟨#[]⟩,Sl.nil,rfl,h⟩
 refine jF (jL (eg (q (q3 (xl (isAgg3 _) (hb.d0 0 gZ)) (q (q3 (xl (isAgg3 _) (hb.d 0 1 gZ)) (q (q3 (xl (isAgg3 _) (hb.d 0 2 gZ)) (q (q3 (xl (isAgg26 _) (hb.d 0 3 gZ)) (q (q3 (xl (isAgg9 _) (hb.d 0 4 gZ)) (q (nw3 [(vi 0),(vi 0),(vi 0),(vu 0),ve,Sl.nil.v] 28 hs hb (jW (zeroValue28 _) rfl) fun p4 w6 H3 hs hb=>sbx 0 [(vi aN),(vi aT),(vi aU),(vu aV),(vs aW),Sl.nil.v] (sizeOf28 _) hs hb gZ fun w7 hs hb=>ln (jB (eg (q (q3 (xl (isAgg3 _) (hb.d0 1 (gS gZ))) (sc call64 ((p_A aN w7).mono ?_))))))))))))))))))))
 rintro e w8 ⟨he,hE⟩
 refine ⟨_,he,?_⟩
 obtain ⟨hs,hb⟩:=hs.pp hb hE
 refine q (ln (zD (fun ρ w=>∃aD aE aF aG aH aI,∃H:NP,Has ρ [(0,(vp p1)),(4,(vp (some p2))),(5,(vp (some p3))),(7,(vp (some p4)))]∧Hst w0 H w H w∧HB H w [(p4,(Aa aD aE aF aG aH aI),28),(p3,(Ac aN aT aU aV aW bJ bF),103),(p2,[(vi 0),(vi 0),(vi 0),(vu 0),ve,Sl.nil.v],28)]∧m_S_j1 p1 aN bF aD aE aF aG aH aI w0 H w K) ?_ ?_))
 rintro ρ w ⟨aD,aE,aF,aG,aH,aI,H,hH,hs,hb,h⟩
 refine jY hH (jB (eg (q (q3 (xl (isAgg3 _) (hb.d0 1 (gS gZ))) (sc call64 ((p_A aN w).mono ?_))))))
 rintro e w9 ⟨he,hE⟩
 refine ⟨_,he,?_⟩
 obtain ⟨hs,hb⟩:=hs.pp hb hE
 refine q (ln (cbr h ?_ ?_))<;>intro h
 have ⟨h,hs⟩:=hs.hr (h w9)
 obtain ⟨C1,hC,h⟩:=h
 refine dr2 (fun x=>C1 x∧HB H x _) [5,6,7,9] [9] ⟨hC,hb.drew⟩ h hs hb fun w10 hs hb h=>?_
 have hs:=hs.here
 refine qx 0 (vp (some (p4.add 5))) Kp0 (qz 1 aI.v Kp1 (fun w' hw'=>(xl (isAgg22 _) (hw'.2.cell 0 5 gZ (by kernel_rfl)))) (qx 2 (vp p1) Kp2 (qx 3 (vp (some (p3.add 6))) Kp3 (qz 4 (vi bF) Kp4 (fun w' hw'=>(xl (isAgg23 _) (hw'.2.cell 1 6 (gS gZ) (by kernel_rfl)))) (lg 5 (slc Kp5 call20 (h.mono ?_)))))))
 rintro e w11 ⟨bV,bW,bX,bY,bZ,bU,rfl,hC,hk,h⟩
 refine ⟨_,rfl,.inr ⟨hC,hb.kept hk⟩,?_⟩
 obtain ⟨hs,hb⟩:=hk.hh hs hb
 refine lg 6 (kC (O:=(.cells #[(vi bV),(vi bW),(vi bX),(vu bY),(vs bZ),bU.v] 28)) (fun p=>(Sl.mk (some p) 1 1).v) Kp6 (jG rfl) (by kernel_rfl) (jK (vs:=#[(0,(Ab bV bW bX bY bZ bU))]) (by kernel_rfl) (by kernel_rfl)) ?_)
 intro p5 w12 hn9
 have h:=h p5 w12 hn9
 refine ⟨.inr ⟨h.1,hb.kept (Ext.new (F:=None) hn9).keptP⟩,?_⟩
 have h:=h.2
 obtain ⟨hs,hb⟩:=hs.nw hb hn9
 refine lg 7 ?_
 obtain ⟨s1,w13,hv1,hC,hk,h⟩:=h
 refine sl (v:=s1.v) Kp7 (jG rfl) (by kernel_rfl) (jI (args:=#[aI.v,(Sl.mk (some p5) 1 1).v]) (by kernel_rfl) (fun _=>rfl) hv1) (.inr ⟨hC,hb.kept hk⟩) ?_
 obtain ⟨hs,hb⟩:=hk.hh hs hb
 refine qx 8 (vp (some (p4.add 5))) Kp8 (lg 9 (sl_t Kp9 (xs (v:=s1.v) (sizeOf22 _) (hb.canW 0 5 gZ (by kernel_rfl))) ?_))
 intro w14 hn7
 have hsb:Hst w0 H w13 H w14∧HB H w14 [(p4,(Aa aD aE aF aG aH s1),28),(p3,(Ac aN aT aU aV aW bJ bF),103),(p2,[(vi 0),(vi 0),(vi 0),(vu 0),ve,Sl.nil.v],28)]:=by
  rw [hn7];exact hb.set (i:=0) 5 (v:=s1.v) hs gZ (by kernel_rfl)
 obtain ⟨hs,hb⟩:=hsb
 refine ⟨.inl (by kernel_rfl),?_⟩
 refine wn (jL (eg (q2 (Ab aD aE aF aG aH s1) (xa p4 (Aa aD aE aF aG aH s1) (isAgg28 _) (sizeOf28 _) (hb.r0 0 6 gZ)) (zF (jG rfl) (xo p2 (Aa aD aE aF aG aH s1) (sizeOf28 _) (hb.k0 2 6 (gS (gS gZ)))) ?_))))
 intro w15 hn8
 obtain ⟨hs,hb⟩:=hb.st1 2 hs hn8 (gS (gS gZ))
 refine ln (er ?_)
 have ⟨h,hs⟩:=hs.hr (h w15)
 refine uD (.inl rfl) (vs:=[(Ab aD aE aF aG aH s1)]) (v:=(Ab aD aE aF aG aH s1)) results20 ⟨(rva (isAgg28 _) (sizeOf28 _) (hb.r0 2 6 (gS (gS gZ)))),trivial⟩ (by kernel_rfl) ⟨aD,aE,aF,aG,aH,s1,rfl,h⟩
 refine jF (jL (eg (q2 (Ab aD aE aF aG aH aI) (xa p4 (Aa aD aE aF aG aH aI) (isAgg28 _) (sizeOf28 _) (hb.r0 0 6 gZ)) (zF (jG rfl) (xo p2 (Aa aD aE aF aG aH aI) (sizeOf28 _) (hb.k0 2 6 (gS (gS gZ)))) ?_))))
 intro w16 hn10
 obtain ⟨hs,hb⟩:=hb.st1 2 hs hn10 (gS (gS gZ))
 refine ln (er ?_)
 have ⟨h,hs⟩:=hs.hr (h w16)
 refine uD (.inl rfl) (vs:=[(Ab aD aE aF aG aH aI)]) (v:=(Ab aD aE aF aG aH aI)) results20 ⟨(rva (isAgg28 _) (sizeOf28 _) (hb.r0 2 6 (gS (gS gZ)))),trivial⟩ (by kernel_rfl) ⟨aD,aE,aF,aG,aH,aI,rfl,h⟩
 refine cbr h ?_ ?_<;>intro h
 have ⟨h,hs⟩:=hs.hr (h H3 w8)
 obtain ⟨C2,hC,h⟩:=h
 refine dr2 (fun x=>C2 x∧HB H3 x _) [5,6,7,9] [9] ⟨hC,hb.drew⟩ h hs hb fun w17 hs hb h=>?_
 have hs:=hs.here
 refine qx 0 (vp (some (p4.add 5))) Kp0 (qz 1 Sl.nil.v Kp1 (fun w' hw'=>(xl (isAgg22 _) (hw'.2.cell 0 5 gZ (by kernel_rfl)))) (qx 2 (vp p1) Kp2 (qx 3 (vp (some (p3.add 5))) Kp3 (qz 4 (vi bJ) Kp4 (fun w' hw'=>(xl (isAgg23 _) (hw'.2.cell 1 5 (gS gZ) (by kernel_rfl)))) (lg 5 (slc Kp5 call20 (h.mono ?_)))))))
 rintro e w18 ⟨cB,cC,cD,cE,cF,cA,rfl,hC,hk,h⟩
 refine ⟨_,rfl,.inr ⟨hC,hb.kept hk⟩,?_⟩
 obtain ⟨hs,hb⟩:=hk.hh hs hb
 refine lg 6 (kC (O:=(.cells #[(vi cB),(vi cC),(vi cD),(vu cE),(vs cF),cA.v] 28)) (fun p=>(Sl.mk (some p) 1 1).v) Kp6 (jG rfl) (by kernel_rfl) (jK (vs:=#[(0,(Ab cB cC cD cE cF cA))]) (by kernel_rfl) (by kernel_rfl)) ?_)
 intro p6 w19 hn12
 have h:=h p6 w19 hn12
 refine ⟨.inr ⟨h.1,hb.kept (Ext.new (F:=None) hn12).keptP⟩,?_⟩
 have h:=h.2
 obtain ⟨hs,hb⟩:=hs.nw hb hn12
 refine lg 7 ?_
 obtain ⟨s2,w20,hv2,hC,hk,h⟩:=h
 refine sl (v:=s2.v) Kp7 (jG rfl) (by kernel_rfl) (jI (args:=#[Sl.nil.v,(Sl.mk (some p6) 1 1).v]) (by kernel_rfl) (fun _=>rfl) hv2) (.inr ⟨hC,hb.kept hk⟩) ?_
 obtain ⟨hs,hb⟩:=hk.hh hs hb
 refine qx 8 (vp (some (p4.add 5))) Kp8 (lg 9 (sl_t Kp9 (xs (v:=s2.v) (sizeOf22 _) (hb.canW 0 5 gZ (by kernel_rfl))) ?_))
 intro w21 hn11
 have hsb:Hst w0 H3 w20 H3 w21∧HB H3 w21 [(p4,(Aa aN aT aU aV aW s2),28),(p3,(Ac aN aT aU aV aW bJ bF),103),(p2,[(vi 0),(vi 0),(vi 0),(vu 0),ve,Sl.nil.v],28)]:=by
  rw [hn11];exact hb.set (i:=0) 5 (v:=s2.v) hs gZ (by kernel_rfl)
 obtain ⟨hs,hb⟩:=hsb
 refine ⟨.inl (by kernel_rfl),?_⟩
 refine wn ?_
 have ⟨h,hs⟩:=hs.hr (h w21)
 refine jL ⟨aN,aT,aU,aV,aW,s2,H3,hm,hs,hb,h⟩
 refine jF ?_
 have ⟨h,hs⟩:=hs.hr (h H3 w8)
 refine jL ⟨aN,aT,aU,aV,aW,Sl.nil,H3,hm,hs,hb,h⟩
def m_C1_l1 (bC bI:Sl) (i1:Int) (Hl1:NP) (wl1:World) (Kc1:Int→NP→WP) (K:Bool→WP):Prop :=Br (decide (i1<(bC.len:Int))) (∃C1:WP,C1 wl1.drew∧∀w12,w12=wl1.drew→∃a1:Addr,At bC i1 6 a1∧∃aO aP aQ aR aS bB,(∀w',C1 w'→Row w' a1 (Aa aO aP aQ aR aS bB))∧∃a2:Addr,At bI i1 6 a2∧∃cG cH cI cJ cK cL,(∀w',C1 w'→Row w' a2 (Aa cG cH cI cJ cK cL))∧Calls prog 37 #[(.agg #[(vi aO),(vi aP),(vi aQ),(vu aR),(vs aS),bB.v]),(.agg #[(vi cG),(vi cH),(vi cI),(vu cJ),(vs cK),cL.v])] w12 (fun e w13=>∃r1,e=.returned (vb r1)∧C1 w13∧Kept Hl1 w12 w13∧Br (!r1) (K false w13) (Kc1 (q6.wrap (i1+1)) Hl1 w13))) (K true wl1)
def m_C1 (aX aZ:Int) (bD bG:Int) (bL:ByteArray) (bC:Sl) (aY bA:Int) (bE bH:Int) (bM:ByteArray) (bI:Sl) (w0:World) (K:Bool→WP):Prop :=∀y1:Bool,y1=((((((aX != aY) || (aZ != bA)) || (bD != bE)) || (bG != bH)) || (!(decide (bL=bM)))) || (((bC.len:Int):Int) != (bI.len:Int)))→Br y1 (∀H7 w7,Hst w0 None w0 H7 w7→K false w7) (∀H7 w7,Hst w0 None w0 H7 w7→∃(I1:Int→NP→WP) (mu1:Int→World→Nat),I1 0 H7 w7∧∀(i1:Int) (Hl1:NP) (wl1:World),Hst w0 Hl1 wl1 Hl1 wl1→I1 i1 Hl1 wl1→m_C1_l1 bC bI i1 Hl1 wl1 (fun y'0 H' w'=>I1 y'0 H' w'∧mu1 y'0 w'<mu1 i1 wl1) K)
theorem w_C1 (aX aZ bD bG bL bC aY bA bE bH bM bI w0 K) (h:m_C1 aX aZ bD bG bL bC aY bA bE bH bM bI w0 K):
  Calls prog 37 #[(.agg #[(vi aX),(vi aZ),(vi bD),(vu bG),(vs bL),bC.v]),(.agg #[(vi aY),(vi bA),(vi bE),(vu bH),(vs bM),bI.v])] w0 (fun e w'=>∃r2,e=.returned (vb r2)∧K r2 w'):=by
 refine cw (args:=[(Ab aX aZ bD bG bL bC),(Ab aY bA bE bH bM bI)]) func37 ntmps37 ?_
 obtain ⟨hs,hb⟩:=st0 w0
 refine eg (nw3 (Aa aX aZ bD bG bL bC) 28 hs hb xb fun p1 w1 H1 hs hb=>nw3 (Aa aY bA bE bH bM bI) 28 hs hb xb fun p2 w2 H2 hs hb=>q (ln (jB (jB (zH (fun ρ wJ=>∃b5'0 y1:Bool,∃HJ:NP,((((((aX != aY) || (aZ != bA)) || (bD != bE)) || (bG != bH)) || (!(decide (bL=bM))))=b5'0)∧(y1=(b5'0 || (((bC.len:Int):Int) != (bI.len:Int))))∧Hst w0 None w0 HJ wJ∧HB HJ wJ [(p2,(Aa aY bA bE bH bM bI),28),(p1,(Aa aX aZ bD bG bL bC),28)]∧Has ρ [(2,(vp (some p1))),(3,(vp (some p2))),(47,(vb y1))]) ?_ ?_)))))
 refine rg (q (q3 (xl (isAgg3 _) (hb.d0 1 (gS gZ))) (q (q3 (xl (isAgg3 _) (hb.d0 0 gZ)) (qb (jM 6 (fun ρ wJ=>∃b6'0:Bool,∃HJ:NP,((aX != aY)=b6'0)∧Hst w0 None w0 HJ wJ∧HB HJ wJ [(p2,(Aa aY bA bE bH bM bI),28),(p1,(Aa aX aZ bD bG bL bC),28)]∧Has ρ [(2,(vp (some p1))),(3,(vp (some p2))),(17,(vb (b6'0 || (aZ != bA))))]) ?_ ?_))))))
 rintro ρ w8 ⟨b6'0,H8,he0,hs,hb,hH⟩
 subst he0
 refine jR hH (q (jM 6 (fun ρ wJ=>∃b7'0:Bool,∃HJ:NP,(((aX != aY) || (aZ != bA))=b7'0)∧Hst w0 None w0 HJ wJ∧HB HJ wJ [(p2,(Aa aY bA bE bH bM bI),28),(p1,(Aa aX aZ bD bG bL bC),28)]∧Has ρ [(2,(vp (some p1))),(3,(vp (some p2))),(24,(vb (b7'0 || (bD != bE))))]) ?_ ?_))
 rintro ρ w9 ⟨b7'0,H9,he0,hs,hb,hH⟩
 subst he0
 refine jR hH (q (jM 6 (fun ρ wJ=>∃b8'0:Bool,∃HJ:NP,((((aX != aY) || (aZ != bA)) || (bD != bE))=b8'0)∧Hst w0 None w0 HJ wJ∧HB HJ wJ [(p2,(Aa aY bA bE bH bM bI),28),(p1,(Aa aX aZ bD bG bL bC),28)]∧Has ρ [(2,(vp (some p1))),(3,(vp (some p2))),(31,(vb (b8'0 || (bG != bH))))]) ?_ ?_))
 rintro ρ w10 ⟨b8'0,H10,he0,hs,hb,hH⟩
 subst he0
 refine jR hH (q (jM 6 (fun ρ wJ=>∃b9'0:Bool,∃HJ:NP,(((((aX != aY) || (aZ != bA)) || (bD != bE)) || (bG != bH))=b9'0)∧Hst w0 None w0 HJ wJ∧HB HJ wJ [(p2,(Aa aY bA bE bH bM bI),28),(p1,(Aa aX aZ bD bG bL bC),28)]∧Has ρ [(2,(vp (some p1))),(3,(vp (some p2))),(38,(vb (b9'0 || (!(decide (bL=bM))))))]) ?_ ?_))
 rintro ρ w11 ⟨b9'0,H11,he0,hs,hb,hH⟩
 subst he0
 refine jR hH (q ?_)
 rcases bte (((((aX != aY) || (aZ != bA)) || (bD != bE)) || (bG != bH)) || (!(decide (bL=bM)))) with hg18 | hg18
 refine sj2 39 hg18 (sj5 39 hg18 (q2 (vb true) (xT hg18) (ln ⟨true,_,_,hg18,rfl,hs,hb,hm⟩)))
 refine qk 39 hg18 (q4 39 hg18 (xl (isAgg22 _) (hb.d 1 5 (gS gZ))) (qk 39 hg18 (qk 39 hg18 (q4 39 hg18 (xl (isAgg22 _) (hb.d 0 5 gZ)) (qk 39 hg18 (qk 39 hg18 (q2 (vb (((bC.len:Int):Int) != (bI.len:Int))) (xF hg18) (ln ⟨false,_,_,hg18,rfl,hs,hb,hm⟩))))))))
 rcases bte ((((aX != aY) || (aZ != bA)) || (bD != bE)) || (bG != bH)) with hg17 | hg17
 refine sj5 32 hg17 (q2 (vb true) (xT hg17) (jC ⟨true,_,hg17,hs,hb,hm⟩))
 refine qk 32 hg17 (q4 32 hg17 (xl (isAgg9 _) (hb.d 1 4 (gS gZ))) (qk 32 hg17 (q4 32 hg17 (xl (isAgg9 _) (hb.d 0 4 gZ)) (stq (v:=(vb (!(decide (bL=bM))))) (wy 32 hg17) (xN (by kernel_rfl) (by kernel_rfl)) (q2 (vb (!(decide (bL=bM)))) (xF hg17) (jC ⟨false,_,hg17,hs,hb,hm⟩))))))
 rcases bte (((aX != aY) || (aZ != bA)) || (bD != bE)) with hg15 | hg15
 refine sj5 25 hg15 (q2 (vb true) (xT hg15) (jC ⟨true,_,hg15,hs,hb,hm⟩))
 refine qk 25 hg15 (q4 25 hg15 (xl (isAgg26 _) (hb.d 1 3 (gS gZ))) (qk 25 hg15 (q4 25 hg15 (xl (isAgg26 _) (hb.d 0 3 gZ)) (qk 25 hg15 (q2 (vb (bG != bH)) (xF hg15) (jC ⟨false,_,hg15,hs,hb,hm⟩))))))
 rcases bte ((aX != aY) || (aZ != bA)) with hg13 | hg13
 refine sj5 18 hg13 (q2 (vb true) (xT hg13) (jC ⟨true,_,hg13,hs,hb,hm⟩))
 refine qk 18 hg13 (q4 18 hg13 (xl (isAgg3 _) (hb.d 1 2 (gS gZ))) (qk 18 hg13 (q4 18 hg13 (xl (isAgg3 _) (hb.d 0 2 gZ)) (qk 18 hg13 (q2 (vb (bD != bE)) (xF hg13) (jC ⟨false,_,hg13,hs,hb,hm⟩))))))
 rcases bte (aX != aY) with hg11 | hg11
 refine sj5 11 hg11 (q2 (vb true) (xT hg11) (jC ⟨true,_,hg11,hs,hb,hm⟩))
 refine qk 11 hg11 (q4 11 hg11 (xl (isAgg3 _) (hb.d 1 1 (gS gZ))) (qk 11 hg11 (q4 11 hg11 (xl (isAgg3 _) (hb.d 0 1 gZ)) (qk 11 hg11 (q2 (vb (aZ != bA)) (xF hg11) (jC ⟨false,_,hg11,hs,hb,hm⟩))))))
 rintro ρ w7 ⟨b5'0,y1,H7,he0,hy1,hs,hb,hH⟩
 subst he0
 have h:=h y1 hy1
 refine zA hH (jL (cbr h ?_ ?_))<;>intro h
 refine eg (q (ln (er (zM ?_))))
 have ⟨h,hs⟩:=hs.hr (h H7 w7)
 refine rs1 results37 ⟨false,rfl,h⟩
 refine jF (jL (jB (eg (q (ln (jO ?_))))))
 have ⟨h,hs⟩:=hs.hr (h H7 w7)
 obtain ⟨I1,mu1,h0,hr⟩:=h
 refine zU (σ:=Int×NP×World) (fun s ρ w=>w=s.2.2∧Has ρ [(2,(vp (some p1))),(3,(vp (some p2))),(5,(vi s.1))]∧Hst w0 s.2.1 w s.2.1 w∧HB s.2.1 w [(p2,(Aa aY bA bE bH bM bI),28),(p1,(Aa aX aZ bD bG bL bC),28)]∧I1 s.1 s.2.1 s.2.2) (fun s=>mu1 s.1 s.2.2) (0,H7,w7) ⟨rfl,hm,hs,hb,h0⟩ ?_
 rintro ⟨i1,Hl1,wl1⟩ ρ w ⟨hw,hH,hs,hb,hI⟩
 dsimp only at hw hH hs hb;subst w
 have h:=hr i1 Hl1 wl1 hs hI
 refine jY hH (jB (eg (qb (q3 (xl (isAgg22 _) (hb.d 1 5 (gS gZ))) (qb (ln (cbr h ?_ ?_)))))))<;>intro h
 refine jF (jL (jB (jO (jB ?_))))
 obtain ⟨C1,hC,h⟩:=h
 refine dr2 (fun x=>C1 x∧HB Hl1 x _) [10] [] ⟨hC,hb.drew⟩ h hs hb fun w12 hs hb h=>?_
 have hs:=hs.here
 refine qx 0 (vp (some (p1.add 5))) Kp0 (qz 1 bC.v Kp1 (fun w' hw'=>(xl (isAgg22 _) (hw'.2.cell 1 5 (gS gZ) (by kernel_rfl)))) (qx 2 (vi i1) Kp2 (qg 3 ?_)))
 obtain ⟨a1,hv4,h⟩:=h
 refine sy Kp3 (fun _ _=>xi (runUnderlying22 _) (sizeOf28 _) hv4) (qg 4 ?_)
 obtain ⟨aO,aP,aQ,aR,aS,bB,hv3,h⟩:=h
 refine sy (v:=(Ab aO aP aQ aR aS bB)) Kp4 (fun w' hw'=>(xa a1 (Aa aO aP aQ aR aS bB) (isAgg28 _) (sizeOf28 _) (hv3 w' hw'.1))) (qx 5 (vp (some (p2.add 5))) Kp5 (qz 6 bI.v Kp6 (fun w' hw'=>(xl (isAgg22 _) (hw'.2.cell 0 5 gZ (by kernel_rfl)))) (qx 7 (vi i1) Kp7 (qg 8 ?_))))
 obtain ⟨a2,hv2,h⟩:=h
 refine sy Kp8 (fun _ _=>xi (runUnderlying22 _) (sizeOf28 _) hv2) (qg 9 ?_)
 obtain ⟨cG,cH,cI,cJ,cK,cL,hv1,h⟩:=h
 refine sy (v:=(Ab cG cH cI cJ cK cL)) Kp9 (fun w' hw'=>(xa a2 (Aa cG cH cI cJ cK cL) (isAgg28 _) (sizeOf28 _) (hv1 w' hw'.1))) (lg 10 (slc (jE (S8 (jA (jA jD)))) call37 (h.mono ?_)))
 rintro e w13 ⟨r1,rfl,hC,hk,h⟩
 refine ⟨_,rfl,.inr ⟨hC,hb.kept hk⟩,?_⟩
 obtain ⟨hs,hb⟩:=hk.hh hs hb
 refine qx 11 (vb (!r1)) (jE (S8 (jA (jA (jA jD))))) (wn (jL (cbr h ?_ ?_)))<;>intro h
 refine eg (q (ln (er (vR (zM (zM (vR (zM (rs1 results37 ⟨false,rfl,h⟩)))))))))
 refine jF (kW (jL (rg (qc (ln ⟨((q6.wrap (i1+1)),Hl1,w13),⟨rfl,hm,hs,hb,h.1⟩,h.2⟩)))))
 refine zI (vM (vM (vI (jL (eg (q0 (vb true) (ln (er (rs1 results37 ⟨true,rfl,h⟩)))))))))
end Go.Proofs
end
section
open Go Go.SE
namespace Go.Proofs
set_option maxRecDepth 100000
set_option maxHeartbeats 4000000
attribute [local irreducible] wpL wpX opE wpE Calls
end Go.Proofs
end
section
open Go Go.SE
namespace Go.Proofs
attribute [local irreducible] wpL wpX opE wpE Calls
end Go.Proofs
end
section
open Go Go.SE
namespace Go.Proofs
attribute [local irreducible] Calls
def tmr (ts:List Int):List (List Value):=ts.map fun t=>[.int .i64 t]
theorem jGW (ts:List Int):(tmr ts).length=ts.length:=by simp [tmr]
structure RetO (w:World) (e:TypeId) (sz:Nat) (rs:List (List Value)) (s:Sl) (w':World):Prop where
 rows:Rws w' e sz s rs
 own:∀b,s.blk b→w.heap.size≤b
 pure:Pure w w'
theorem RetO.kept {w:World} {H:NP} {e:TypeId} {sz:Nat} {rs:List (List Value)} {s:Sl} {w':World} (h:RetO w e sz rs s w'):Kept H w w':=h.pure.keptP
theorem tm_nth {S:NP} {w:World} {s:Sl} {ts:List Int} (h:Lst S w 1 s (tmr ts)) {j:Nat} (hj:j<ts.length):∃a,At s j 1 a∧S a.block∧w.cell? a=some (.int .i64 ts[j]):=by
 obtain ⟨a,h1,h2,h3⟩:=h.at_ j (by simpa [tmr] using hj);exact ⟨a,h1,h2,xS (by simpa [tmr] using h3)⟩
end Go.Proofs
end
section
open Nat
namespace Go.Proofs
def qD (n:Nat):List UInt8:=if h:n<128 then [UInt8.ofNat n] else UInt8.ofNat (n % 128+128) :: qD (n / 128)
theorem jBC {n:Nat} (h:n<128):qD n=[UInt8.ofNat n]:=by rw [qD,dif_pos h]
theorem jGP {n:Nat} (h:128≤n):qD n=UInt8.ofNat (n % 128+128) :: qD (n / 128):=by rw [qD,dif_neg (by omega)]
theorem jFC (k:Nat):∀n,n<128 ^ (k+1)→(qD n).length≤k+1:=by
 induction k with
 | zero=>intro n h;rw [jBC (by simpa using h)];simp
 | succ k ih =>
  intro n h
  by_cases h1:n<128
  ·rw [jBC h1];simp
  ·rw [jGP (by omega),List.length_cons]
   have:=ih (n / 128) (by rw [Nat.div_lt_iff_lt_mul (by omega)];rw [Nat.pow_succ] at h;exact h)
   omega
theorem jDF {n:Nat} (h:n<18446744073709551616):(qD n).length≤10:=jFC 9 n (by omega)
def lO (s:ByteArray):List UInt8:=qD s.size++s.data.toList
end Go.Proofs
end
section
open Go Go.SE
namespace Go.Proofs
open Tryz
attribute [local irreducible] Calls
theorem uK:SlType prog 54 5 1 1:=by
 refine ⟨underlying54,⟨t5,_,by kernel_rfl,(by kernel_rfl:t5.zero=some (.int .u8 0)),by kernel_rfl,by kernel_rfl,rfl⟩,by omega⟩
theorem RetO.put {w0 w w1:World} {s:Sl} {bs:List UInt8} {x:UInt8} {p:Addr} (h:RetO w0 5 1 (byr bs) s w) (hn:New w (.cells #[.int .u8 (x.toNat:Int)] 5) p w1) (hl:bs.length≤100000000000) :
  ∃s' w',(Builtin.append_ #[54,54] 54 #[s.v,(Sl.mk (some p) 1 1).v]).run prog w1=.ok s'.v w'∧RetO w0 5 1 (byr (bs++[x])) s' w':=by
 have E1:Pure w w1:=Ext.new hn
 have hrow:Row w1 p [.int .u8 (x.toNat:Int)]:=(Box.of_newA hn).row
 obtain ⟨s',w',hr,hR,hE,hb⟩:=(h.rows.pure E1).append (ty:=54) (c:=1) uK hrow rfl rfl (by rw [zG];omega) (by rw [zG];simp [maxLen];omega)
 have h1:=(h.pure.trans E1)
 exact ⟨s',w',hr,by rw [jIS];exact hR,fun b hb'=>(hb b hb').elim (h.own b) (fun h2=>by have:=h1.size;omega),h1.trans' hE (fun i hi h2=>by have:=h.own i h2;omega)⟩
theorem RetO.text {w0 w:World} {s:Sl} {bs:List UInt8} {x:ByteArray} (h:RetO w0 5 1 (byr (bs++qD x.size)) s w) (hn:bs.length≤10000000000) (hN:x.size≤10000000000) :
  ∃s' w',(Builtin.append_ #[54,9] 54 #[s.v,.string x]).run prog w=.ok s'.v w'∧RetO w0 5 1 (byr (bs++lO x)) s' w':=by
 have hv:=jDF (n:=x.size) (by omega)
 obtain ⟨s',w',hr,hR,hE,hb⟩:=h.rows.appendStr (ty:=54) uK underlying9 x (by rw [zG,List.length_append];omega) (by rw [zG,List.length_append];simp [maxLen];omega)
 refine ⟨s',w',hr,?_,fun b hb'=>(hb b hb').elim (h.own b) (fun h2=>by have:=h.pure.size;omega),h.pure.trans' hE (fun i hi h2=>by have:=h.own i h2;omega)⟩
 rw [lO,← List.append_assoc,jIS];exact hR
structure AppR (w0:World) (b r:Sl) (acc:List UInt8) (w':World):Prop where
 rows:Rws w' 5 1 r (byr acc)
 ext:Ext b.blk w0 w'
 new:∀k,r.blk k→b.blk k∨w0.heap.size≤k
theorem jCW (b:Sl) (acc:List UInt8) (n:Nat) (hn:n<18446744073709551616) (w0:World) (hR:Rws w0 5 1 b (byr acc)) (hl:acc.length≤100000000) (ht:Pow w0) :
  Calls prog 157 #[b.v,.int .u64 (n:Int),.int .i64 10] w0 (fun e w'=>∃r:Sl,e=.returned r.v∧AppR w0 b r (acc++Lib.decDigits n) w'):=by
 refine w_U1 _ _ _ w0 (fun r w'=>AppR w0 b r (acc++Lib.decDigits n) w') ?_
 unfold m_U1
 refine w_T1 _ _ _ w0 (fun r w'=>AppR w0 b r (acc++Lib.decDigits n) w') ?_
 unfold m_T1
 have hd20:=nd20 hn
 have hb0:∀k,b.blk k→k<w0.heap.size:=fun k hk=>hR.lt hk
 refine ⟨fun _=>⟨fun h=>?_,fun h=>?_⟩,fun h=>absurd h (by decide)⟩
 ·have h:=of_decide_eq_true h
  have hw:IntKind.i64.wrap (n:Int)=(n:Int):=IntWalk.i64_in _ ⟨by omega,by omega⟩
  rw [hw]
  refine (jHZ n (by omega) w0).mono ?_
  rintro _ w1 ⟨rfl,rfl⟩
  obtain ⟨s,w2,hr,R,X,o⟩:=hR.appendStr (P:=prog) (ty:=54) uK underlying9 ⟨(Lib.decDigits n).toArray⟩ (by rw [zG];simp [ByteArray.size];omega) (by rw [zG];simp [ByteArray.size,maxLen];omega)
  exact ⟨_,rfl,s,w2,hr,by simpa [byr] using R,X,o⟩
 ·have h:¬ (n:Int)<100:=of_decide_eq_false h
  intro p1 w2 h2
  obtain ⟨hp,hw⟩:=h2
  subst hp;subst hw
  have hnd:=Lib.numDigits_eq n (by omega) hn
  have hnd20:Lib.nDigits n≤20:=by split at hnd <;> omega
  refine (jAH n (by omega) hn _ (Lib.tabIs_alloc ht _)).mono ?_
  rintro _ w3 ⟨rfl,rfl⟩
  have hal:prog.arrayLen 244=24:=by simp [Program.arrayLen,underlying244]
  have hsl:∀W,(Instr.sliceAt 244 (.pointer (some ⟨w0.heap.size,0,none⟩)) none (some (.int .i64 (Lib.nDigits n:Int))) none).run prog W=.ok (Sl.mk (some ⟨w0.heap.size,0,none⟩) (Lib.nDigits n) 24).v W:=fun W=>by
   rw [run_sliceAt_array_h W 244 ⟨w0.heap.size,0,none⟩ (by simp [Program.arrayLen,Program.elem,underlying244]) .i64 (Lib.nDigits n:Int) (by omega) (by rw [hal];omega)];go_simp;unfold Sl.v;simp
  refine ⟨_,rfl,Sl.mk (some ⟨w0.heap.size,0,none⟩) (Lib.nDigits n) 24,hsl _,?_⟩
  have hH0:=jDV w0 244 (Lib.nDigits n) (by omega)
  have hf:=jFQ w0.heap.size 0 24 n (Array.replicate (Lib.nDigits n) 0) _ hH0 (by rw [Array.size_replicate];exact Lib.lt_pow_nDigits n) hn (by rw [Array.size_replicate];omega)
  rw [Array.size_replicate] at hf
  have hH1:=Lib.hid hH0
  refine Calls.mono hf ?_
  rintro _ w4 ⟨rfl,k,v',dk,rfl,hF⟩
  have E:Pure w0 ((Sort.putRow (fun (b:UInt8)=>Value.int .u8 (b.toNat:Int)) (w0.alloc (.cells Lib.zeros24 244)) w0.heap.size 0 dk).drewN k):=by
   obtain ⟨os,eo⟩:=jKD w0 (.cells Lib.zeros24 244) dk k;have E:Pure w0 (Sort.grow (w0.drewN k) os):=jBN;rw [← eo] at E;exact E
  have hcell:∀j (hj:j<(Lib.decDigits n).length),((Sort.putRow (fun (b:UInt8)=>Value.int .u8 (b.toNat:Int)) (w0.alloc (.cells Lib.zeros24 244)) w0.heap.size 0 dk).drewN k).cell? ((⟨w0.heap.size,0,none⟩:Addr).add j)=some (.int .u8 ((Lib.decDigits n)[j].toNat:Int)):=fun j hj=>by
   rw [Lib.row_is_numeral hF j hj,Lib.add_plain,World.cell?_drewN];exact Sort.cell?_putRow (fun (b:UInt8)=>Value.int .u8 (b.toNat:Int)) _ w0.heap.size 0 _ dk hH1.out (by rw [hF.size,Array.size_replicate]) j (by rw [hF.size];rw [Lib.decDigits_length] at hj;exact hj)
  generalize (Sort.putRow (fun (b:UInt8)=>Value.int .u8 (b.toNat:Int)) (w0.alloc (.cells Lib.zeros24 244)) w0.heap.size 0 dk).drewN k=w4 at *
  have hL:Lst (fun _=>True) w4 1 (Sl.mk (some ⟨w0.heap.size,0,none⟩) (Lib.nDigits n) 24) (byr (Lib.decDigits n)):=by
   refine ⟨by rw [zG,Lib.decDigits_length],fun j hj=>?_⟩;rw [zG] at hj;refine ⟨(⟨w0.heap.size,0,none⟩:Addr).add j,?_,trivial,?_⟩
   ·refine ⟨by omega,by rw [Lib.decDigits_length] at hj;show (j:Int)<((Lib.nDigits n:Nat):Int);omega,⟨w0.heap.size,0,none⟩,rfl,?_⟩;simp
   ·have:(byr (Lib.decDigits n))[j]'(by rw [zG];exact hj)=[Value.int .u8 ((Lib.decDigits n)[j].toNat:Int)]:=by simp [byr]
    rw [this];intro i hi;have hi:i=0:=by simpa using hi
    subst hi;have:=hcell j hj;simpa [Addr.add] using this
  obtain ⟨s,w6,hr,R,X,o⟩:=(hR.pure E).appendL (P:=prog) (ty:=54) uK hL (gJ _) (jAR _) (by rw [zG,zG];omega) (by rw [zG,zG];simp [maxLen];omega)
  refine ⟨rfl,Sl.mk (some ⟨w0.heap.size,0,none⟩) (Lib.nDigits n) 24,hsl _,s,w6,hr,by simpa [byr] using R,E.pure.trans X,fun k hk=>(o k hk).imp_right (fun h=>by have:=E.size;omega)⟩
end Go.Proofs
end
section
namespace Go.Sp
structure Node where
 kind:Int
 frm:Int
 to:Int
 num:Int
 text:ByteArray
 a:Int
 b:Int
deriving DecidableEq
structure Shape where
 frm:Bool
 to:Bool
 num:Bool
 text:Bool
 kids:Int
deriving DecidableEq
def noShape:Shape:=⟨false,false,false,false,0⟩
def shapeOf (k:Int):Shape :=
 if k=1 then ⟨true,false,false,false,0⟩ else if k=2 then ⟨false,false,true,false,0⟩ else if k=3 then ⟨false,false,false,true,0⟩
 else if k=4 then ⟨false,false,false,false,2⟩ else if k=5 then ⟨false,false,false,false,1⟩ else if k=6 then ⟨true,false,false,false,0⟩
 else if k=7 then ⟨true,false,false,false,1⟩ else if k=8 then ⟨true,true,false,false,1⟩ else if k=9 then ⟨true,true,false,false,1⟩ else noShape
def isKind (k:Int):Bool:=decide (1≤k) && decide (k≤9)
def qO (n:Int):Bool:=decide (0≤n) && decide (n<16)
def jX (n:Node):Int :=
 let s:=shapeOf n.kind
 if !isKind n.kind || (!s.frm && n.frm != 0) || (!s.to && n.to != 0) || (!s.num && n.num != 0) || (!s.text && !decide (n.text=⟨#[]⟩)) then 53 else 0
def jV (s:Shape) (n:Node):Int :=
 if (s.frm && !qO n.frm) || (s.to && (!qO n.to || n.to == n.frm)) then 50 else if n.text.size>64 then 1 else 0
structure Ent where
 node:Node
 size:Int
 depth:Int
deriving DecidableEq
abbrev Pool:=List Ent
def inP (L:Pool) (t:Int):Bool:=decide (1≤t) && decide (t≤L.length)
def get (L:Pool) (t:Int):Option Ent:=if inP L t then L[(t - 1).toNat]? else none
def sizeOf (L:Pool) (t:Int):Int:=((get L t).map (·.size)).getD 0
def depthOf (L:Pool) (t:Int):Int:=((get L t).map (·.depth)).getD 0
def jHS:Node:=⟨0,0,0,0,⟨#[]⟩,0,0⟩
def jJ (L:Pool) (t:Int):Node:=((get L t).map (·.node)).getD jHS
def jS (n:Node):List Int:=[n.a,n.b].take (shapeOf n.kind).kids.toNat
def check (L:Pool) (n:Node):Int×Int×Int :=
 let s:=shapeOf n.kind
 if jX n≠0 then (0,0,jX n)
 else if (decide (s.kids<1) && n.a != 0) || (decide (s.kids<2) && n.b != 0) then (0,0,53)
 else if jV s n≠0 then (0,0,jV s n)
 else if (jS n).any (fun t=>!inP L t) then (0,0,51)
 else
  let sz:=1+((jS n).map (sizeOf L)).sum
  let d:=(jS n).foldl (fun d t=>max d (depthOf L t)) 0+1
  if sz>4096∨d>64 then (0,0,52) else (sz,d,0)
def find (L:Pool) (n:Node):Option Nat:=L.findIdx? (fun e=>e.node=n)
def make (L:Pool) (n:Node):Int×Int×Pool :=
 let c:=check L n
 if c.2.2≠0 then (0,c.2.2,L)
 else match find L n with
  | some i=>(i+1,0,L)
  | none=>if 65536≤L.length then (0,6,L) else (L.length+1,0,L++[⟨n,c.1,c.2.1⟩])
structure Ok (L:Pool):Prop where
 few:L.length≤65536
 nodup:(L.map (·.node)).Nodup
 size:∀e∈L,1≤e.size∧e.size≤4096
 depth:∀e∈L,1≤e.depth∧e.depth≤64
theorem zR {L:Pool} {t:Int}:inP L t=true↔1≤t∧t≤L.length:=by simp [inP]
theorem uG {L:Pool} {t:Int} (h:inP L t=true):∃e,get L t=some e∧e∈L∧∃hi:(t - 1).toNat<L.length,L[(t - 1).toNat]=e:=by
 obtain ⟨h1,h2⟩:=zR.1 h;have hi:(t - 1).toNat<L.length:=by omega
 exact ⟨L[(t - 1).toNat],by simp [get,h],List.getElem_mem hi,hi,rfl⟩
theorem vU {L:Pool} {t:Int} (h:inP L t=false):get L t=none:=by simp [get,h]
theorem Ok.sizeOf {L:Pool} (h:Ok L) (t:Int):0≤sizeOf L t∧sizeOf L t≤4096:=by
 cases ht:inP L t with
 | true=>obtain ⟨e,he,hm,_⟩:=uG ht;have:=h.size e hm;simp [Sp.sizeOf,he];omega
 | false=>simp [Sp.sizeOf,vU ht]
theorem Ok.depthOf {L:Pool} (h:Ok L) (t:Int):0≤depthOf L t∧depthOf L t≤64:=by
 cases ht:inP L t with
 | true=>obtain ⟨e,he,hm,_⟩:=uG ht;have:=h.depth e hm;simp [Sp.depthOf,he];omega
 | false=>simp [Sp.depthOf,vU ht]
theorem Ok.nil:Ok []:=⟨by simp,by simp,by simp,by simp⟩
theorem yM (k:Int):(shapeOf k).kids=0∨(shapeOf k).kids=1∨(shapeOf k).kids=2:=by
 unfold shapeOf noShape;repeat' split
 all_goals simp
end Go.Sp
end
section
namespace Go.Sp
inductive Tree where
 | mk (k f t u:Int) (x:ByteArray) (kids:List Tree)
def Tree.kids:Tree→List Tree | .mk _ _ _ _ _ ks=>ks
def Tree.node:Tree→Node | .mk k f t u x _=>⟨k,f,t,u,x,0,0⟩
theorem Tree.ind {P:Tree→Prop} (h:∀k f t u x (ks:List Tree),(∀i (hi:i<ks.length),P ks[i])→P (.mk k f t u x ks)) (t:Tree):P t:=by
 refine Tree.rec (motive_1:=P) (motive_2:=fun ks=>∀i (hi:i<ks.length),P ks[i]) ?_ ?_ ?_ t
 ·intro k f t u x ks ih;exact h _ _ _ _ _ _ ih
 ·intro i hi;simp at hi
 ·intro t ks ht hks i hi;cases i with
  | zero=>exact ht
  | succ i=>exact hks i (by simpa using hi)
def zW (n:Node) (len:Nat):Int :=
 let e:=if jX n=0 then if (len:Int)≠(shapeOf n.kind).kids then 53 else 0 else jX n
 if e=0 then jV (shapeOf n.kind) n else e
mutual
def looks (inside seen:Int):Tree→Int×Int
 | .mk k f t u x ks=>if 4096≤seen then (52,seen) else if 64≤inside then (52,seen) else zE (inside+1) (zW ⟨k,f,t,u,x,0,0⟩ ks.length) (seen+1) ks
def zE (inside e seen:Int):List Tree→Int×Int
 | []=>(e,seen)
 | t :: ts=>if e=0 then zE inside (looks inside seen t).1 (looks inside seen t).2 ts else (e,seen)
end
mutual
def grow (L:Pool):Tree→Int×Int×Pool
 | .mk k f t u x ks=>jZ ⟨k,f,t,u,x,0,0⟩ 0 L ks
def jZ (n:Node) (i:Nat) (L:Pool):List Tree→Int×Int×Pool
 | []=>make L n
 | t :: ts=>if (grow L t).2.1≠0 then (0,(grow L t).2.1,(grow L t).2.2) else jZ (if i=0 then { n with a:=(grow L t).1 } else { n with b:=(grow L t).1 }) (i+1) (grow L t).2.2 ts
end
def of (L:Pool) (t:Tree):Int×Int×Pool :=
 if (looks 0 0 t).1≠0 then (0,(looks 0 0 t).1,L)
 else if (grow L t).2.1≠0 then (0,(grow L t).2.1,L) else ((grow L t).1,0,(grow L t).2.2)
theorem tD (L:Pool) (n:Node):∃M,(make L n).2.2=L++M:=by
 unfold make;simp only;by_cases hc:(check L n).2.2=0
 ·simp only [hc];rw [if_neg (by simp)];split
  ·exact ⟨[],by simp⟩
  ·split
   ·exact ⟨[],by simp⟩
   ·exact ⟨_,rfl⟩
 ·rw [if_pos hc];exact ⟨[],by simp⟩
theorem jKG {L:Pool} {n:Node} (hok:Ok L) (h:(check L n).2.2=0):1≤(check L n).1∧(check L n).1≤4096∧1≤(check L n).2.1∧(check L n).2.1≤64:=by
 unfold check at h ⊢;simp only at h ⊢;by_cases h1:jX n≠0
 ·rw [if_pos h1] at h;exact absurd h h1
 rw [if_neg h1] at h ⊢;split at h
 ·simp at h
 rename_i h2;rw [if_neg h2];by_cases h3:jV (shapeOf n.kind) n≠0
 ·rw [if_pos h3] at h;exact absurd h h3
 rw [if_neg h3] at h ⊢;split at h
 ·simp at h
 rename_i h4;rw [if_neg h4];split at h
 ·simp at h
 rename_i h5;rw [if_neg h5];have hs:∀l:List Int,0≤(l.map (sizeOf L)).sum:=by
  intro l;induction l with
  | nil=>simp
  | cons y l ih=>have:=hok.sizeOf y;simp only [List.map_cons,List.sum_cons];omega
 have hd:∀(l:List Int) (d:Int),0≤d→0≤l.foldl (fun d t=>max d (depthOf L t)) d:=by
  intro l;induction l with
  | nil=>intro d h;exact h
  | cons y l ih=>intro d h;exact ih (max d (depthOf L y)) (by omega)
 have:=hs (jS n);have:=hd (jS n) 0 (by omega);simp only;omega
theorem jHT {L:Pool} (hok:Ok L) (n:Node):Ok (make L n).2.2:=by
 by_cases hc:(check L n).2.2=0
 ·have:=jKG hok hc;unfold make;simp only [hc];rw [if_neg (by simp)];split
  ·exact hok
  ·rename_i hf;split
   ·exact hok
   ·rename_i hl;refine ⟨by simp;omega,?_,?_,?_⟩
    ·rw [List.map_append,List.nodup_append];refine ⟨hok.nodup,by simp,?_⟩;intro a ha b hb;simp only [List.map_cons,List.map_nil,List.mem_singleton] at hb;subst hb;obtain ⟨e,he,rfl⟩:=List.mem_map.1 ha;unfold find at hf;rw [List.findIdx?_eq_none_iff] at hf;simpa using hf e he
    ·intro e he;rcases List.mem_append.1 he with h | h
     ·exact hok.size e h
     ·simp only [List.mem_singleton] at h;subst h;simp;omega
    ·intro e he;rcases List.mem_append.1 he with h | h
     ·exact hok.depth e h
     ·simp only [List.mem_singleton] at h;subst h;simp;omega
 ·unfold make;simp only;rw [if_pos hc];exact hok
theorem yG (t:Tree):∀L,Ok L→Ok (grow L t).2.2∧∃M,(grow L t).2.2=L++M:=by
 induction t using Tree.ind with
 | h k f t u x ks ih =>
  have:∀(ks:List Tree),(∀i (hi:i<ks.length),∀L,Ok L→Ok (grow L ks[i]).2.2∧∃M,(grow L ks[i]).2.2=L++M)→∀n i L,Ok L→Ok (jZ n i L ks).2.2∧∃M,(jZ n i L ks).2.2=L++M:=by
   intro ks;induction ks with
   | nil=>intro _ n i L h;unfold jZ;exact ⟨jHT h n,tD L n⟩
   | cons t ts iht =>
    intro hh n i L h
    have h0:=hh 0 (by simp) L h
    simp only [List.getElem_cons_zero] at h0
    unfold jZ
    split
    ·exact h0
    ·obtain ⟨ho,M,hM⟩:=h0
     have:=iht (fun i hi=>hh (i+1) (by simpa using hi)) (if i=0 then { n with a:=(grow L t).1 } else { n with b:=(grow L t).1 }) (i+1) (grow L t).2.2 ho
     refine ⟨this.1,?_⟩
     obtain ⟨M2,hM2⟩:=this.2
     exact ⟨M++M2,by rw [hM2,hM,List.append_assoc]⟩
  intro L h
  unfold grow
  exact this ks ih _ _ L h
def oQ (n:Int):Prop:=0≤n∧n<18446744073709551616
inductive NumT:Tree→Prop
 | mk (k f t u:Int) (x:ByteArray) (ks:List Tree) (own:oQ u) (kids:∀i (hi:i<ks.length),NumT ks[i]):NumT (.mk k f t u x ks)
end Go.Sp
end
section
namespace Go.Sp
theorem yC {L:Pool} {i:Nat} (hi:i<L.length):jJ L ((i:Int)+1)=L[i].node:=by
 have h:inP L ((i:Int)+1)=true:=zR.2 ⟨by omega,by omega⟩;have e:((i:Int)+1 - 1).toNat=i:=by omega
 simp [jJ,get,h,e,hi]
theorem jEQ {L:Pool} {t:Int} (h:inP L t=true):∃i:Nat,i<L.length∧t=(i:Int)+1:=by
 have:=zR.1 h;exact ⟨(t - 1).toNat,by omega,by omega⟩
theorem tH {L:Pool} {i:Nat} (hi:i<L.length):get L ((i:Int)+1)=some L[i]:=by
 have h:inP L ((i:Int)+1)=true:=zR.2 ⟨by omega,by omega⟩;have e:((i:Int)+1 - 1).toNat=i:=by omega
 simp [get,h,e,hi]
structure Wf (L:Pool):Prop where
 ok:Ok L
 each:∀i (hi:i<L.length),check (L.take i) L[i].node=(L[i].size,L[i].depth,0)
theorem Wf.nil:Wf []:=⟨Ok.nil,fun i hi=>by simp at hi⟩
theorem tM {L:Pool} {n:Node} (h:(check L n).2.2=0):jX n=0∧((shapeOf n.kind).kids<1→n.a=0)∧((shapeOf n.kind).kids<2→n.b=0)∧jV (shapeOf n.kind) n=0∧(∀t∈jS n,inP L t=true) ∧
  (check L n).1=1+((jS n).map (sizeOf L)).sum∧(check L n).2.1=(jS n).foldl (fun d t=>max d (depthOf L t)) 0+1∧(check L n).1≤4096∧(check L n).2.1≤64:=by
 unfold check at h ⊢
 simp only at h ⊢
 by_cases h1:jX n≠0
 ·rw [if_pos h1] at h;exact absurd h h1
 rw [if_neg h1] at h ⊢
 split at h
 ·simp at h
 rename_i h2;rw [if_neg h2]
 by_cases h3:jV (shapeOf n.kind) n≠0
 ·rw [if_pos h3] at h;exact absurd h h3
 rw [if_neg h3] at h ⊢
 split at h
 ·simp at h
 rename_i h4;rw [if_neg h4]
 split at h
 ·simp at h
 rename_i h5;rw [if_neg h5]
 simp only [Bool.or_eq_true,Bool.and_eq_true,decide_eq_true_eq,bne_iff_ne,ne_eq,not_or,not_and,Classical.not_not] at h2
 refine ⟨by simpa using h1,h2.1,h2.2,by simpa using h3,fun t ht=>?_,rfl,rfl,by simp only;omega,by simp only;omega⟩
 cases hi:inP L t with
 | true=>rfl
 | false=>exact absurd (List.any_eq_true.2 ⟨t,ht,by simp [hi]⟩) h4
theorem oE (L:Pool) (n:Node):(make L n).2.2=L∨((check L n).2.2=0∧(make L n).2.2=L++[⟨n,(check L n).1,(check L n).2.1⟩]):=by
 by_cases hc:(check L n).2.2=0
 ·unfold make;simp only [hc];rw [if_neg (by simp)];split
  ·exact .inl rfl
  ·split
   ·exact .inl rfl
   ·exact .inr ⟨trivial,rfl⟩
 ·unfold make;simp only;rw [if_pos hc];exact .inl rfl
theorem jGZ {L:Pool} {e:Ent} (h:∀i (hi:i<L.length),check (L.take i) L[i].node=(L[i].size,L[i].depth,0)) (he:check L e.node=(e.size,e.depth,0)):∀i (hi:i<(L++[e]).length),check ((L++[e]).take i) (L++[e])[i].node=((L++[e])[i].size,(L++[e])[i].depth,0):=by
 intro i hi;simp only [List.length_append,List.length_cons,List.length_nil] at hi;by_cases hlt:i<L.length
 ·simp only [List.getElem_append_left hlt];rw [List.take_append_of_le_length (by omega)];exact h i hlt
 ·have:i=L.length:=by omega
  subst this;simp only [List.getElem_append_right (Nat.le_refl _),Nat.sub_self,List.getElem_cons_zero];rw [List.take_left' rfl];exact he
theorem jAG {L:Pool} (h:Wf L) (n:Node):Wf (make L n).2.2:=by
 have ho:=jHT h.ok n;rcases oE L n with e | ⟨hc,e⟩
 ·rw [e];exact h
 ·rw [e] at ho ⊢;exact ⟨ho,jGZ h.each (by rw [← hc])⟩
theorem jAI (t:Tree):∀L,Wf L→Wf (grow L t).2.2:=by
 induction t using Tree.ind with
 | h k f t u x ks ih =>
  have:∀(ks:List Tree),(∀i (hi:i<ks.length),∀L,Wf L→Wf (grow L ks[i]).2.2)→∀n i L,Wf L→Wf (jZ n i L ks).2.2:=by
   intro ks;induction ks with
   | nil=>intro _ n i L h;unfold jZ;exact jAG h n
   | cons t ts iht =>
    intro hh n i L h
    have h0:=hh 0 (by simp) L h
    simp only [List.getElem_cons_zero] at h0
    unfold jZ
    split
    ·exact h0
    ·exact iht (fun i hi=>hh (i+1) (by simpa using hi)) _ _ _ h0
  intro L h
  unfold grow
  exact this ks ih _ _ L h
theorem of_wf {L:Pool} (h:Wf L) (t:Tree):Wf (of L t).2.2:=by
 unfold of;split
 ·exact h
 ·split
  ·exact h
  ·exact jAI t L h
theorem jDT {L M:Pool} {t:Int} (h:inP L t=true):inP (L++M) t=true:=by
 have:=zR.1 h;exact zR.2 ⟨this.1,by rw [List.length_append];omega⟩
theorem jDX {L M:Pool} {t:Int} (h:inP L t=true):get (L++M) t=get L t:=by
 obtain ⟨i,hi,rfl⟩:=jEQ h;rw [tH hi,tH (by rw [List.length_append];omega),List.getElem_append_left hi]
theorem jFM {L M:Pool} {t:Int} (h:inP L t=true):jJ (L++M) t=jJ L t:=by unfold jJ;rw [jDX h]
theorem gR {L M:Pool} {t:Int} (h:inP L t=true):sizeOf (L++M) t=sizeOf L t:=by unfold sizeOf;rw [jDX h]
theorem uV {L M:Pool} {t:Int} (h:inP L t=true):depthOf (L++M) t=depthOf L t:=by unfold depthOf;rw [jDX h]
theorem Wf.node {L:Pool} (h:Wf L) {t:Int} (ht:inP L t=true):jX (jJ L t)=0∧((shapeOf (jJ L t).kind).kids<1→(jJ L t).a=0)∧((shapeOf (jJ L t).kind).kids<2→(jJ L t).b=0)∧jV (shapeOf (jJ L t).kind) (jJ L t)=0 ∧
  (∀k∈jS (jJ L t),inP L k=true∧k<t)∧sizeOf L t=1+((jS (jJ L t)).map (sizeOf L)).sum∧depthOf L t=(jS (jJ L t)).foldl (fun d k=>max d (depthOf L k)) 0+1:=by
 obtain ⟨i,hi,rfl⟩:=jEQ ht
 have he:=h.each i hi
 have hz:=tM (L:=L.take i) (n:=L[i].node) (by rw [he])
 rw [yC hi]
 obtain ⟨h1,h2,h3,h4,h5,h6,h7,_,_⟩:=hz
 have hin:∀k∈jS L[i].node,inP (L.take i) k=true∧inP L k=true∧k<(i:Int)+1:=by
  intro k hk;have hk':=h5 k hk;have hk2:=zR.1 hk';have:L.take i++L.drop i=L:=List.take_append_drop i L;refine ⟨hk',by rw [← this];exact jDT hk',?_⟩;rw [List.length_take] at hk2;omega
 have hsz:∀k∈jS L[i].node,sizeOf (L.take i) k=sizeOf L k∧depthOf (L.take i) k=depthOf L k:=by
  intro k hk;have hk':=(hin k hk).1;have:L.take i++L.drop i=L:=List.take_append_drop i L;exact ⟨by rw [← gR (M:=L.drop i) hk',this],by rw [← uV (M:=L.drop i) hk',this]⟩
 refine ⟨h1,h2,h3,h4,fun k hk=>⟨(hin k hk).2.1,(hin k hk).2.2⟩,?_,?_⟩
 ·have:sizeOf L ((i:Int)+1)=L[i].size:=by simp [sizeOf,tH hi]
  rw [this]
  rw [he] at h6
  simp only at h6
  rw [h6]
  congr 2
  exact List.map_congr_left (fun k hk=>(hsz k hk).1)
 ·have:depthOf L ((i:Int)+1)=L[i].depth:=by simp [depthOf,tH hi]
  rw [this]
  rw [he] at h7
  simp only at h7
  rw [h7]
  congr 1
  have:∀(l:List Int) (d:Int),(∀k∈l,depthOf (L.take i) k=depthOf L k)→l.foldl (fun d t=>max d (depthOf (L.take i) t)) d=l.foldl (fun d k=>max d (depthOf L k)) d:=by
   intro l;induction l with
   | nil=>intro d _;rfl
   | cons a l ih=>intro d hh;simp only [List.foldl_cons];rw [hh a (by simp)];exact ih _ (fun k hk=>hh k (by simp [hk]))
  exact this _ _ (fun k hk=>(hsz k hk).2)
def oC:Tree:=.mk 0 0 0 0 ⟨#[]⟩ []
def tZ (L:Pool):Nat→Int→Tree
 | 0,_=>oC
 | fuel+1,t=>if inP L t=true then .mk (jJ L t).kind (jJ L t).frm (jJ L t).to (jJ L t).num (jJ L t).text ((jS (jJ L t)).map (tZ L fuel)) else oC
def zT (L:Pool) (t:Int):Tree:=tZ L t.toNat t
theorem qW {L:Pool} {t:Int} (h:inP L t=false) (f:Nat):tZ L f t=oC:=by
 cases f <;> simp [tZ,h]
theorem jFE {L:Pool} (h:Wf L):∀(f:Nat) (t:Int),t.toNat≤f→tZ L f t=zT L t:=by
 have key:∀(f g:Nat) (t:Int),t.toNat≤f→t.toNat≤g→tZ L f t=tZ L g t:=by
  intro f;induction f with
  | zero =>
   intro g t hf hg
   have:inP L t=false:=by
    apply Bool.eq_false_iff.2;intro hi;have:=zR.1 hi;omega
   rw [qW this,qW this]
  | succ f ih =>
   intro g t hf hg
   cases hi:inP L t with
   | false=>rw [qW hi,qW hi]
   | true =>
    have hpos:=zR.1 hi
    cases g with
    | zero=>omega
    | succ g =>
     simp only [tZ,hi,if_true]
     congr 1
     refine List.map_congr_left (fun k hk=>ih g k ?_ ?_)
     ·have:=((h.node hi).2.2.2.2.1 k hk).2;omega
     ·have:=((h.node hi).2.2.2.2.1 k hk).2;omega
 intro f t hf;exact key f t.toNat t hf (Nat.le_refl _)
theorem lM {L:Pool} {t:Int} (h:inP L t=false):zT L t=oC:=qW h _
theorem vL {L:Pool} (h:Wf L) {t:Int} (ht:inP L t=true):zT L t=.mk (jJ L t).kind (jJ L t).frm (jJ L t).to (jJ L t).num (jJ L t).text ((jS (jJ L t)).map (zT L)):=by
 have hpos:=zR.1 ht;have e:t.toNat=(t.toNat - 1)+1:=by omega
 unfold zT;rw [e];simp only [tZ,ht,if_true];congr 1;refine List.map_congr_left (fun k hk=>?_);have:=((h.node ht).2.2.2.2.1 k hk).2;exact jFE h _ k (by omega)
theorem Wf.first {L M:Pool} (h:Wf (L++M)):Wf L:=by
 refine ⟨⟨by have:=h.ok.few;rw [List.length_append] at this;omega,?_,fun e he=>h.ok.size e (by simp [he]),fun e he=>h.ok.depth e (by simp [he])⟩,fun i hi=>?_⟩
 ·have:=h.ok.nodup;rw [List.map_append] at this;exact (List.nodup_append.1 this).1
 ·have:=h.each i (by rw [List.length_append];omega);rw [List.getElem_append_left hi,List.take_append_of_le_length (by omega)] at this;exact this
theorem oX {L M:Pool} (h:Wf (L++M)):∀(n:Nat) (t:Int),t.toNat=n→inP L t=true→zT (L++M) t=zT L t:=by
 have hL:=h.first;intro n;induction n using Nat.strongRecOn with
 | _ n ih =>
  intro t hn ht
  rw [vL h (jDT ht),vL hL ht,jFM ht]
  congr 1
  refine List.map_congr_left (fun k hk=>?_)
  have hk':=(hL.node ht).2.2.2.2.1 k hk
  have:=zR.1 hk'.1
  exact ih k.toNat (by omega) k rfl hk'.1
theorem jCA {L:Pool} {n:Node} {i:Nat} (h:find L n=some i):∃hi:i<L.length,L[i].node=n:=by
 unfold find at h;rw [List.findIdx?_eq_some_iff_getElem] at h;obtain ⟨hi,h1,_⟩:=h;exact ⟨hi,by simpa using h1⟩
theorem jBQ {L:Pool} {n:Node} (h:(make L n).2.1=0):inP (make L n).2.2 (make L n).1=true∧jJ (make L n).2.2 (make L n).1=n∧(check L n).2.2=0:=by
 unfold make at h ⊢;simp only at h ⊢;by_cases hc:(check L n).2.2≠0
 ·rw [if_pos hc] at h;exact absurd h hc
 ·rw [if_neg hc] at h ⊢;have hc:(check L n).2.2=0:=by simpa using hc
  cases hf:find L n with
  | some i =>
   obtain ⟨hi,hn⟩:=jCA hf
   simp only
   exact ⟨zR.2 ⟨by omega,by omega⟩,by rw [yC hi,hn],hc⟩
  | none =>
   rw [hf] at h
   simp only at h ⊢
   split at h
   ·simp at h
   ·rename_i hl
    rw [if_neg hl]
    simp only
    have hi:L.length<(L++[(⟨n,(check L n).1,(check L n).2.1⟩:Ent)]).length:=by simp
    refine ⟨zR.2 ⟨by omega,by simp⟩,?_,hc⟩
    rw [yC hi]
    simp
theorem jEO (L:Pool) (n:Node):∃M,(make L n).2.2=L++M:=tD L n
theorem jFU (n:Node):(jS n).length=(shapeOf n.kind).kids.toNat:=by
 unfold jS;rcases yM n.kind with h | h | h <;> simp [h]
inductive Good:Tree→Prop
 | mk (k f t u:Int) (x:ByteArray) (ks:List Tree) (own:zW ⟨k,f,t,u,x,0,0⟩ ks.length=0) (kids:∀i (hi:i<ks.length),Good ks[i]):Good (.mk k f t u x ks)
theorem yF (t:Tree):∀i n:Int,(looks i n t).1=0→Good t:=by
 induction t using Tree.ind with
 | h k f t u x ks ih =>
  have hA:∀(ks:List Tree),(∀i (hi:i<ks.length),∀j n:Int,(looks j n ks[i]).1=0→Good ks[i])→∀i e n:Int,(zE i e n ks).1=0→e=0∧∀i (hi:i<ks.length),Good ks[i]:=by
   intro ks;induction ks with
   | nil=>intro _ i e n h;exact ⟨by simpa [zE] using h,fun i hi=>by simp at hi⟩
   | cons t ts iht =>
    intro hh i e n h
    unfold zE at h
    split at h
    ·rename_i he
     have:=iht (fun i hi=>hh (i+1) (by simpa using hi)) _ _ _ h
     refine ⟨he,fun j hj=>?_⟩
     cases j with
     | zero=>exact hh 0 (by simp) i n this.1
     | succ j=>exact this.2 j (by simpa using hj)
    ·rename_i he;exact absurd h he
  intro i n h
  unfold looks at h
  split at h
  ·cases h
  ·split at h
   ·cases h
   ·have:=hA ks ih _ _ _ h
    exact .mk _ _ _ _ _ _ this.1 this.2
theorem Good.inv {k f t u:Int} {x:ByteArray} {ks:List Tree} (h:Good (.mk k f t u x ks)):jX ⟨k,f,t,u,x,0,0⟩=0∧(ks.length:Int)=(shapeOf k).kids∧jV (shapeOf k) ⟨k,f,t,u,x,0,0⟩=0∧∀i (hi:i<ks.length),Good ks[i]:=by
 cases h with
 | mk _ _ _ _ _ _ own kids =>
  unfold zW at own
  simp only at own
  by_cases hp:jX ⟨k,f,t,u,x,0,0⟩=0
  ·rw [if_pos hp] at own
   by_cases hl:(ks.length:Int)≠(shapeOf k).kids
   ·rw [if_pos hl] at own;simp at own
   ·rw [if_neg hl] at own
    simp at own
    exact ⟨hp,by simpa using hl,own,kids⟩
  ·rw [if_neg hp,if_neg hp] at own;exact absurd own hp
theorem jID (x:Tree):∀L,Wf L→Good x→(grow L x).2.1=0→inP (grow L x).2.2 (grow L x).1=true∧zT (grow L x).2.2 (grow L x).1=x:=by
 induction x using Tree.ind with
 | h k f t u x ks ih =>
  intro L hW hG h0
  obtain ⟨_,hlen,_,hk⟩:=hG.inv
  have fin:∀(n:Node) (L':Pool),Wf L'→n.kind=k→n.frm=f→n.to=t→n.num=u→n.text=x→(make L' n).2.1=0→(jS n).map (zT L')=ks→inP (make L' n).2.2 (make L' n).1=true∧zT (make L' n).2.2 (make L' n).1=.mk k f t u x ks:=by
   intro n L' hW' e1 e2 e3 e4 e5 hm hks;obtain ⟨hin,hnode,hc⟩:=jBQ hm;refine ⟨hin,?_⟩;rw [vL (jAG hW' n) hin,hnode,e1,e2,e3,e4,e5,← hks];congr 1;refine List.map_congr_left (fun q hq=>?_);obtain ⟨M,hM⟩:=jEO L' n;have hq':=(tM hc).2.2.2.2.1 q hq;rw [hM];have hwf:=jAG hW' n;rw [hM] at hwf;exact oX hwf _ q rfl hq'
  rw [grow] at h0 ⊢
  match ks,ih,hlen,hk,fin,h0 with
  | [],_,hlen,_,fin,h0 =>
   rw [jZ] at h0 ⊢
   have hz:(shapeOf k).kids=0:=by simpa using hlen.symm
   exact fin _ L hW rfl rfl rfl rfl rfl h0 (by simp [jS,hz])
  | [a],ih,hlen,hk,fin,h0 =>
   have hz:(shapeOf k).kids=1:=by simpa using hlen.symm
   rw [jZ] at h0 ⊢
   by_cases ha:(grow L a).2.1≠0
   ·rw [if_pos ha] at h0;exact absurd h0 ha
   ·rw [if_neg ha] at h0 ⊢
    have ha:(grow L a).2.1=0:=by simpa using ha
    obtain ⟨i1,t1⟩:=ih 0 (by simp) L hW (hk 0 (by simp)) ha
    simp only [List.getElem_cons_zero] at i1 t1
    rw [jZ] at h0 ⊢
    exact fin _ _ (jAI a L hW) rfl rfl rfl rfl rfl h0 (by simp [jS,hz,t1])
  | [a,b],ih,hlen,hk,fin,h0 =>
   have hz:(shapeOf k).kids=2:=by simpa using hlen.symm
   rw [jZ] at h0 ⊢
   by_cases ha:(grow L a).2.1≠0
   ·rw [if_pos ha] at h0;exact absurd h0 ha
   ·rw [if_neg ha] at h0 ⊢
    have ha:(grow L a).2.1=0:=by simpa using ha
    have hW1:=jAI a L hW
    obtain ⟨i1,t1⟩:=ih 0 (by simp) L hW (hk 0 (by simp)) ha
    simp only [List.getElem_cons_zero] at i1 t1
    rw [jZ] at h0 ⊢
    by_cases hb:(grow (grow L a).2.2 b).2.1≠0
    ·rw [if_pos hb] at h0;exact absurd h0 hb
    ·rw [if_neg hb] at h0 ⊢
     have hb:(grow (grow L a).2.2 b).2.1=0:=by simpa using hb
     have hW2:=jAI b _ hW1
     obtain ⟨i2,t2⟩:=ih 1 (by simp) (grow L a).2.2 hW1 (hk 1 (by simp)) hb
     simp only [List.getElem_cons_succ,List.getElem_cons_zero] at i2 t2
     obtain ⟨M,hM⟩:=(yG b (grow L a).2.2 hW1.ok).2
     have t1':zT (grow (grow L a).2.2 b).2.2 (grow L a).1=a:=by
      rw [hM] at hW2 ⊢;exact (oX hW2 _ _ rfl i1).trans t1
     rw [jZ] at h0 ⊢
     exact fin _ _ hW2 rfl rfl rfl rfl rfl h0 (by simp [jS,hz,t1',t2])
  | a :: b :: c :: ks,_,hlen,_,_,_ =>
   have:=yM k
   simp only [List.length_cons] at hlen
   omega
theorem jLV {L:Pool} (hW:Wf L) {x:Tree} (h:(of L x).2.1=0):inP (of L x).2.2 (of L x).1=true∧zT (of L x).2.2 (of L x).1=x∧Good x:=by
 unfold of at h ⊢;by_cases h1:(looks 0 0 x).1≠0
 ·rw [if_pos h1] at h;exact absurd h h1
 ·rw [if_neg h1] at h ⊢;have hg:=yF x 0 0 (by simpa using h1);by_cases h2:(grow L x).2.1≠0
  ·rw [if_pos h2] at h;exact absurd h h2
  ·rw [if_neg h2] at h ⊢;have:=jID x L hW hg (by simpa using h2);exact ⟨this.1,this.2,hg⟩
end Go.Sp
end
section
namespace Go.Sp
mutual
def cnt:Tree→Nat
 | .mk _ _ _ _ _ ks=>1+cntAll ks
def cntAll:List Tree→Nat
 | []=>0
 | t :: ts=>cnt t+cntAll ts
end
theorem jDZ (t:Tree):1≤cnt t:=by cases t;simp [cnt]
theorem tK:∀ks:List Tree,ks.length≤cntAll ks
 | []=>by simp
 | t :: ts=>by have:=jDZ t;have:=tK ts;simp only [cntAll,List.length_cons];omega
theorem tL:∀{ks:List Tree} {i:Nat} (hi:i<ks.length),cnt ks[i]≤cntAll ks
 | t :: ts,0,_=>by simp [cntAll]
 | t :: ts,i+1,hi=>by
  have:=tL (ks:=ts) (i:=i) (by simpa using hi);simp only [cntAll,List.getElem_cons_succ];omega
mutual
def uI (most:Int):Tree→Int
 | .mk _ _ _ _ _ ks=>vB most 1 ks
def vB (most n:Int):List Tree→Int
 | []=>n
 | t :: ts=>if n≤most then vB most (n+uI (most - n) t) ts else n
end
theorem lZ (t:Tree):∀most:Int,0≤most→1≤uI most t∧uI most t≤most+1∧(uI most t≤most→(cnt t:Int)=uI most t):=by
 induction t using Tree.ind with
 | h k f tt u x ks ih =>
  have hA : ∀ (ks : List Tree), (∀ i (hi : i < ks.length), ∀ most : Int, 0 ≤ most → 1 ≤ uI most ks[i] ∧ uI most ks[i] ≤ most + 1 ∧ (uI most ks[i] ≤ most → (cnt ks[i] : Int) = uI most ks[i])) →
    ∀most n:Int,1≤n→n≤most+1→n≤vB most n ks∧vB most n ks≤most+1∧(vB most n ks≤most→n+(cntAll ks:Int)=vB most n ks):=by
   intro ks
   induction ks with
   | nil=>intro _ most n h1 h2;simp [vB,cntAll,h2]
   | cons t ts iht =>
    intro hh most n h1 h2
    unfold vB
    by_cases hn:n≤most
    ·rw [if_pos hn]
     have h0:=hh 0 (by simp) (most - n) (by omega)
     simp only [List.getElem_cons_zero] at h0
     have h3:=iht (fun i hi=>hh (i+1) (by simpa using hi)) most (n+uI (most - n) t) (by omega) (by omega)
     refine ⟨by omega,h3.2.1,fun h=>?_⟩
     have h4:=h3.2.2 h
     have h5:=h0.2.2 (by omega)
     simp only [cntAll];omega
    ·rw [if_neg hn];exact ⟨Int.le_refl _,h2,fun h=>absurd h hn⟩
  intro most hm
  have:=hA ks ih most 1 (by omega) (by omega)
  simp only [uI,cnt]
  refine ⟨this.1,this.2.1,fun h=>?_⟩
  have:=this.2.2 h
  omega
mutual
def oZ:Tree→Tree→Bool
 | .mk k f t u x ks,.mk k' f' t' u' x' ks'=>decide (k=k') && decide (f=f') && decide (t=t') && decide (u=u') && decide (x=x') && vQ ks ks'
def vQ:List Tree→List Tree→Bool
 | [],[]=>true
 | t :: ts,t' :: ts'=>oZ t t' && vQ ts ts'
 | _,_=>false
end
end Go.Sp
end
section
open Go Go.SE
open Go.IntKind renaming i64 → q6
namespace Go.Proofs
open Tryz
set_option maxRecDepth 100000
set_option maxHeartbeats 4000000
attribute [local irreducible] wpL wpX opE wpE Calls
def m_B2  (w:World) (K:(Option Addr)→WP):Prop :=∀p1 w1,New w (.map #[] 0) p1 w1→∀p2 w2,New w1 (.cells #[Sl.nil.v,(.map (some p1.block))] 96) p2 w2→K (some p2) w2
theorem w_B2  (w:World) (K:(Option Addr)→WP) (h:m_B2  w K) :
  Calls prog 11 #[] w (fun e w'=>∃r1,e=.returned (vp r1)∧K r1 w'):=by
 refine cw (args:=[]) func11 ntmps11 (eg (q0 (vp none) (ln (eg (kP (O:=(.map #[] 0)) (fun p=>.map (some p.block)) (jG rfl) (by kernel_rfl) ?_)))))
 intro p1 w1 hn2
 have h:=h p1 w1 hn2
 refine q (nw1 h xb fun p2 w2 h=>q (ln (er (rs1 results11 ⟨(some p2),rfl,h⟩))))
def m_R1 (p1:Option Addr) (aT aU:Int) (aV aW:Int) (aX:ByteArray) (aY:Sl) (w:World) (K:Int→Int→WP):Prop :=∀p2 w1,New w (.cells #[(vi aT),(vi aU),(vi aV),(vu aW),(vs aX),aY.v] 28) p2 w1→Br (Option.isNone p1) (K 0 0 w1) (∀p3 w2,New w1 (.cells #[(vi 0)] 3) p3 w2→kG w2 p3∧∀w3,w3=w2.setCell p3 (vi 0)→∃aA aB aC aD aE bG,Row w3 p2 (Aa aA aB aC aD aE bG)∧Calls prog 54 #[(.agg #[(vi aA),(vi aB),(vi aC),(vu aD),(vs aE),bG.v]),(vi 0),(vp (some p3))] w3 (fun e w4=>∃r1,e=.returned (vi r1)∧Br (r1 != 0) (K 0 r1 w4) (∃a1,p1=some a1∧∃v1:Sl,w4.cell? a1=some v1.v∧∃aH aI aJ aK aL bR,Row w4 p2 (Aa aH aI aJ aK aL bR)∧Calls prog 55 #[(vp p1),(.agg #[(vi aH),(vi aI),(vi aJ),(vu aK),(vs aL),bR.v])] w4 (fun e w5=>∃r2 r3,e=.returned (.tuple #[(vi r2),(vi r3)])∧Br (r3 != 0) (Calls prog 56 #[(vp p1),(vi (v1.len:Int))] w5 (fun e w6=>e=.returned (.tuple #[])∧K 0 r3 w6)) (K r2 0 w5)))))
theorem w_R1 (p1 aT aU aV aW aX aY w K) (h:m_R1 p1 aT aU aV aW aX aY w K):
  Calls prog 13 #[(vp p1),(.agg #[(vi aT),(vi aU),(vi aV),(vu aW),(vs aX),aY.v])] w (fun e w'=>∃r4 r5,e=.returned (.tuple #[(vi r4),(vi r5)])∧K r4 r5 w'):=by
 refine cw (args:=[(vp p1),(Ab aT aU aV aW aX aY)]) func13 ntmps13 (eg (sn (O:=(.cells #[(vi aT),(vi aU),(vi aV),(vu aW),(vs aX),aY.v] 28)) xb ?_))
 intro p2 w1 hn3
 have h:=h p2 w1 hn3
 refine qb (ln (jB (eg (q (q2 (vb (Option.isNone p1)) (tV (by kernel_rfl) rfl underlying29) (ln (cbr h ?_ ?_)))))))<;>intro h
 refine eg (qb (ln (er (zM (uE (.inl rfl) results13 (v:=(vi 0)) (by kernel_rfl) (v':=(vi 0)) (by kernel_rfl) ⟨0,0,rfl,h⟩)))))
 refine jF (jL (eg (nw1 h (jW (zeroValue3 _) rfl) fun p3 w2 h=>st1 (sizeOf3 _) h fun w3 h=>ln (jB (eg ?_)))))
 obtain ⟨aA,aB,aC,aD,aE,bG,hv3,h⟩:=h
 refine qa (isAgg28 _) (sizeOf28 _) hv3 (sc call54 (h.mono fun e w4 ⟨r1,k,h⟩=>⟨_,k,?_⟩))
 refine q (ln (eg (qb (ln (cbr h ?_ ?_)))))<;>intro h
 refine eg (qc (ln (er (zM (uE (.inl rfl) results13 (v:=(vi 0)) (by kernel_rfl) (v':=(vi r1)) (by kernel_rfl) ⟨0,r1,rfl,h⟩)))))
 refine jF (jL (eg (q (qm h fun a1 h=>q (ql (isAgg94 _) h fun v1 h=>qb (ln (eg (q ?_))))))))
 obtain ⟨aH,aI,aJ,aK,aL,bR,hv1,h⟩:=h
 refine qa (isAgg28 _) (sizeOf28 _) hv1 (sc call55 (h.mono fun e w5 ⟨r2,r3,k,h⟩=>⟨_,k,?_⟩))
 refine q (qd (ln (jB (eg (qb (ln (cbr h ?_ ?_)))))))<;>intro h
 refine eg (qb (sc call56 (h.mono fun e w6 ⟨k,h⟩=>⟨_,k,?_⟩)))
 refine ln (eg (qc (ln (er (zM (uE (.inl rfl) results13 (v:=(vi 0)) (by kernel_rfl) (v':=(vi r3)) (by kernel_rfl) ⟨0,r3,rfl,h⟩))))))
 refine jF (jL (eg (qc (ln (er (uE (.inl rfl) results13 (v:=(vi r2)) (by kernel_rfl) (v':=(vi 0)) (by kernel_rfl) ⟨r2,0,rfl,h⟩))))))
def m_C2 (p1:Option Addr) (w:World) (K:Int→WP):Prop :=Br (Option.isNone p1) (K 0 w) (∃a1,p1=some a1∧∃v1:Sl,w.cell? a1=some v1.v∧K (v1.len:Int) w)
theorem w_C2 (p1 w K) (h:m_C2 p1 w K):
  Calls prog 22 #[(vp p1)] w (fun e w'=>∃r1,e=.returned (vi r1)∧K r1 w'):=by
 refine cw (args:=[(vp p1)]) func22 ntmps22 (eg (q0 (vi 0) (ln (jB (eg (q0 (vp p1) (q2 (vb (Option.isNone p1)) (tV (by kernel_rfl) rfl underlying29) (jC ?_))))))))
 refine jL (cbr h ?_ ?_)<;>intro h
 refine eg (q (ln (er (zM (rs1 results22 ⟨0,rfl,h⟩)))))
 refine jF (jL (eg (q (qm h fun a1 h=>q (ql (isAgg94 _) h fun v1 h=>qb (ln (er (rs1 results22 ⟨(v1.len:Int),rfl,h⟩))))))))
def m_D1_l1 (p1:Option Addr) (p2 p4:Addr) (r2:Sl) (x1:Int) (wl1:World) (Kc1:Int→WP) (K:Int→Int→Int→Int→ByteArray→Sl→WP):Prop :=Br (decide (x1<(r2.len:Int))) (∃a1:Addr,At r2 x1 1 a1∧∃v6,wl1.cell? a1=some (vi v6)∧∃C1:WP,C1 wl1.drew∧∀w9,w9=wl1.drew→∃v7:Sl,(∀w',C1 w'→w'.cell? (p4.add 5)=some v7.v)∧Calls prog 38 #[(vp p1),(vi v6)] w9 (fun e w10=>∃cM cN cO cP cQ cR,e=.returned (Ab cM cN cO cP cQ cR)∧C1 w10∧∀p5 w11,New w10 (.cells #[(vi cM),(vi cN),(vi cO),(vu cP),(vs cQ),cR.v] 28) p5 w11→C1 w11∧∃s1:Sl,∃w12:World,(Builtin.append_ #[22,22] 22 #[v7.v,(Sl.mk (some p5) 1 1).v]).run prog w11=.ok s1.v w12∧C1 w12∧kG w12 (p4.add 5)∧∀w13,w13=w12.setCell (p4.add 5) s1.v→Kc1 (q6.wrap (x1+1)) w13)) (∃aA aB aC aD aE bG,Row wl1 p4 (Aa aA aB aC aD aE bG)∧(∀j,j<6→kG wl1 (p2.add j))∧∀w14,w14=storeRow wl1 p2 (Aa aA aB aC aD aE bG)→∃bZ cA cB cC cD cI,Row w14 p2 (Aa bZ cA cB cC cD cI)∧K bZ cA cB cC cD cI w14)
def m_D1 (p1:Option Addr) (t1:Int) (w:World) (K:Int→Int→Int→Int→ByteArray→Sl→WP):Prop :=∀p2 w1,New w (.cells #[(vi 0),(vi 0),(vi 0),(vu 0),ve,Sl.nil.v] 28) p2 w1→Calls prog 61 #[(vp p1),(vi t1)] w1 (fun e w2=>∃aM aN aO aP aQ aR aS r1,e=.returned (.tuple #[(Ad aM aN aO aP aQ aR aS),(vb r1)])∧∀p3 w3,New w2 (.cells #[(vi 0),(vi 0),(vi 0),(vu 0),ve,(vi 0),(vi 0)] 103) p3 w3→(∀j,j<7→kG w3 (p3.add j))∧∀w4,w4=storeRow w3 p3 (Ac aM aN aO aP aQ aR aS)→Br (!r1) ((∀j,j<6→kG w4 (p2.add j))∧∀w5,w5=storeRow w4 p2 [(vi 0),(vi 0),(vi 0),(vu 0),ve,Sl.nil.v]→∃bH bI bJ bK bL cJ,Row w5 p2 (Aa bH bI bJ bK bL cJ)∧K bH bI bJ bK bL cJ w5) (∃v1,w4.cell? p3=some (vi v1)∧∃v2,w4.cell? (p3.add 1)=some (vi v2)∧∃v3,w4.cell? (p3.add 2)=some (vi v3)∧∃v4,w4.cell? (p3.add 3)=some (vu v4)∧∃v5,w4.cell? (p3.add 4)=some (vs v5)∧∀p4 w6,New w4 (.cells #[(vi 0),(vi 0),(vi 0),(vu 0),ve,Sl.nil.v] 28) p4 w6→(∀j,j<6→kG w6 (p4.add j))∧∀w7,w7=storeRow w6 p4 [(vi v1),(vi v2),(vi v3),(vu v4),(vs v5),Sl.nil.v]→Calls prog 84 #[(vp p1),(vi t1)] w7 (fun e w8=>∃r2:Sl,e=.returned r2.v∧∃(I1:Int→WP) (mu1:Int→World→Nat),I1 0 w8∧∀(x1:Int) (wl1:World),I1 x1 wl1→m_D1_l1 p1 p2 p4 r2 x1 wl1 (fun y'0 w'=>I1 y'0 w'∧mu1 y'0 w'<mu1 x1 wl1) K)))
theorem w_D1 (p1 t1 w K) (h:m_D1 p1 t1 w K):
  Calls prog 38 #[(vp p1),(vi t1)] w (fun e w'=>∃cV cW cX cY cZ dA,e=.returned (Ab cV cW cX cY cZ dA)∧K cV cW cX cY cZ dA w'):=by
 refine cw (args:=[(vp p1),(vi t1)]) func38 ntmps38 (eg (sn (O:=(.cells #[(vi 0),(vi 0),(vi 0),(vu 0),ve,Sl.nil.v] 28)) (jW (zeroValue28 _) rfl) ?_))
 intro p2 w1 hn9
 have h:=h p2 w1 hn9
 refine ln (eg (qb (sc call61 (h.mono fun e w2 ⟨aM,aN,aO,aP,aQ,aR,aS,r1,k,h⟩=>⟨_,k,?_⟩))))
 refine qc (nw1 h (jW (zeroValue103 _) rfl) fun p3 w3 h=>sro (sizeOf103 _) h fun w4 h=>q (ln (jB (eg (qb (ln (cbr h ?_ ?_)))))))<;>intro h
 refine eg (q (sro (sizeOf28 _) h fun w5 h=>ln (er (zM ?_))))
 obtain ⟨bH,bI,bJ,bK,bL,cJ,hv1,h⟩:=h
 refine gg1 results38 (rva (isAgg28 _) (sizeOf28 _) hv1) ⟨bH,bI,bJ,bK,bL,cJ,rfl,h⟩
 refine jF (jL (eg (q (ql (isAgg3 _) h fun v1 h=>q (ql (isAgg3 _) h fun v2 h=>q (ql (isAgg3 _) h fun v3 h=>q (ql (isAgg26 _) h fun v4 h=>q (ql (isAgg9 _) h fun v5 h=>q (sn (O:=(.cells #[(vi 0),(vi 0),(vi 0),(vu 0),ve,Sl.nil.v] 28)) (jW (zeroValue28 _) rfl) ?_)))))))))
 intro p4 w6 hn7
 have h:=h p4 w6 hn7
 refine sro (sizeOf28 _) h fun w7 h=>ln (jB (eg (qb (sc call84 (h.mono fun e w8 ⟨r2,k,h⟩=>⟨_,k,?_⟩)))))
 refine qb (ln (jO ?_))
 obtain ⟨I1,mu1,h0,hr⟩:=h
 refine zU (σ:=Int×World) (fun s ρ w=>w=s.2∧Has ρ [(0,(vp p1)),(4,(vp (some p2))),(7,(vp (some p4))),(32,r2.v),(33,(vi (r2.len:Int))),(34,(vi s.1))]∧I1 s.1 s.2) (fun s=>mu1 s.1 s.2) (0,w8) ⟨rfl,hm,h0⟩ ?_
 rintro ⟨x1,wl1⟩ ρ w ⟨hw,hH,hI⟩
 dsimp only at hw hH;subst w
 have h:=hr x1 wl1 hI
 refine jY hH (eg (q (ln (jB (cbr h ?_ ?_)))))<;>intro h
 refine jF (jL (jB (jO (eg (qi (runUnderlying137 _) (sizeOf23 _) h fun a1 h=>ql (isAgg23 _) h fun v6 h=>q (ln ?_))))))
 obtain ⟨C1,hC,h⟩:=h
 refine dr1 C1 [4,5,6,8] [8] hC h fun w9 h=>qx 0 (vp (some (p4.add 5))) Kp0 (qg 1 ?_)
 obtain ⟨v7,hv3,h⟩:=h
 refine sy Kp1 (fun _ k=>xl (isAgg22 _) (hv3 _ k)) (qx 2 (vp p1) Kp2 (qx 3 (vi v6) Kp3 (lg 4 (slc Kp4 call38 (h.mono ?_)))))
 rintro e w10 ⟨cM,cN,cO,cP,cQ,cR,rfl,hC,h⟩
 refine ⟨_,rfl,.inr hC,?_⟩
 refine lg 5 (kC (O:=(.cells #[(vi cM),(vi cN),(vi cO),(vu cP),(vs cQ),cR.v] 28)) (fun p=>(Sl.mk (some p) 1 1).v) Kp5 (jG rfl) (by kernel_rfl) (jK (vs:=#[(0,(Ab cM cN cO cP cQ cR))]) (by kernel_rfl) (by kernel_rfl)) ?_)
 intro p5 w11 hn5
 have h:=h p5 w11 hn5
 refine ⟨.inr h.1,?_⟩
 have h:=h.2
 refine lg 6 ?_
 obtain ⟨s1,w12,hv2,hC,h⟩:=h
 refine sl (v:=s1.v) Kp6 (jG rfl) (by kernel_rfl) (jI (args:=#[v7.v,(Sl.mk (some p5) 1 1).v]) (by kernel_rfl) (fun _=>rfl) hv2) (.inr hC) (qx 7 (vp (some (p4.add 5))) Kp7 (lg 8 ?_))
 obtain ⟨hp4,h⟩:=h
 refine sl_t Kp8 (xs (v:=s1.v) (sizeOf22 _) hp4) ?_
 intro w13 hn4
 have h:=h w13 hn4
 refine ⟨.inl (by kernel_rfl),?_⟩
 refine wn (kW (jL (rg (qb (ln ⟨((q6.wrap (x1+1)),w13),⟨rfl,hm,h.1⟩,h.2⟩)))))
 refine zI (vM (vM (vI (jL (eg ?_)))))
 obtain ⟨aA,aB,aC,aD,aE,bG,hv7,h⟩:=h
 refine qa (isAgg28 _) (sizeOf28 _) hv7 (sro (sizeOf28 _) h fun w14 h=>ln (er ?_))
 obtain ⟨bZ,cA,cB,cC,cD,cI,hv6,h⟩:=h
 refine gg1 results38 (rva (isAgg28 _) (sizeOf28 _) hv6) ⟨bZ,cA,cB,cC,cD,cI,rfl,h⟩
def m_H_l4 (inside1:Int) (seen1:Option Addr) (p1:Addr) (e3 i1:Int) (wl1:World) (Kc4:Int→Int→WP) (K:Int→WP):Prop :=∃v2:Sl,wl1.cell? (p1.add 5)=some v2.v∧Br (decide (i1<(v2.len:Int))) (Br (e3 == 0) (∃v3:Sl,wl1.cell? (p1.add 5)=some v3.v∧∃a3:Addr,At v3 i1 6 a3∧∃bM bN bO bP bQ bR,Row wl1 a3 (Aa bM bN bO bP bQ bR)∧Calls prog 54 #[(.agg #[(vi bM),(vi bN),(vi bO),(vu bP),(vs bQ),bR.v]),(vi (q6.wrap (inside1+1))),(vp seen1)] wl1 (fun e w9=>∃r2,e=.returned (vi r2)∧Kc4 r2 (q6.wrap (i1+1)) w9)) (K e3 wl1)) (K e3 wl1)
def m_H_j3 (inside1:Int) (seen1:Option Addr) (p1:Addr) (e2:Int) (w:World) (K:Int→WP):Prop :=∃(I1:Int→Int→WP) (mu1:Int→Int→World→Nat),I1 e2 0 w∧∀(e3 i1:Int) (wl1:World),I1 e3 i1 wl1→m_H_l4 inside1 seen1 p1 e3 i1 wl1 (fun y'0 y'1 w'=>I1 y'0 y'1 w'∧mu1 y'0 y'1 w'<mu1 e3 i1 wl1) K
def m_H_j2 (inside1:Int) (seen1:Option Addr) (p1 p2 p3:Addr) (e1:Int) (w:World) (K:Int→WP):Prop :=Br (e1 == 0) (∃vfrom1 vto1 vnum1 vtext1 vkids1,Row w p3 (Ae vfrom1 vto1 vnum1 vtext1 vkids1)∧∃bS bT bU bV bW bX bY,Row w p2 (Ac bS bT bU bV bW bX bY)∧Calls prog 109 #[(.agg #[(vb vfrom1),(vb vto1),(vb vnum1),(vb vtext1),(vi vkids1)]),(.agg #[(vi bS),(vi bT),(vi bU),(vu bV),(vs bW),(vi bX),(vi bY)])] w (fun e w10=>∃r3,e=.returned (vi r3)∧m_H_j3 inside1 seen1 p1 r3 w10 K)) (m_H_j3 inside1 seen1 p1 e1 w K)
def m_H_j1 (inside1:Int) (seen1:Option Addr) (p1:Addr) (w:World) (K:Int→WP):Prop :=∃a1,seen1=some a1∧∃v1,w.cell? a1=some (vi v1)∧∃a2,seen1=some a2∧kG w a2∧∀w2,w2=w.setCell a2 (vi (q6.wrap (v1+1)))→∃aA aB aC aD aE bG,Row w2 p1 (Aa aA aB aC aD aE bG)∧Calls prog 107 #[(.agg #[(vi aA),(vi aB),(vi aC),(vu aD),(vs aE),bG.v])] w2 (fun e w3=>∃aM aN aO aP aQ aR aS,e=.returned (Ad aM aN aO aP aQ aR aS)∧∀p2 w4,New w3 (.cells #[(vi 0),(vi 0),(vi 0),(vu 0),ve,(vi 0),(vi 0)] 103) p2 w4→(∀j,j<7→kG w4 (p2.add j))∧∀w5,w5=storeRow w4 p2 (Ac aM aN aO aP aQ aR aS)→∃aH aI aJ aK aL aF aG,Row w5 p2 (Ac aH aI aJ aK aL aF aG)∧Calls prog 108 #[(.agg #[(vi aH),(vi aI),(vi aJ),(vu aK),(vs aL),(vi aF),(vi aG)])] w5 (fun e w6=>∃rfrom1 rto1 rnum1 rtext1 rkids1 r1,e=.returned (.tuple #[(Ag rfrom1 rto1 rnum1 rtext1 rkids1),(vi r1)])∧∀p3 w7,New w6 (.cells #[(vb false),(vb false),(vb false),(vb false),(vi 0)] 170) p3 w7→(∀j,j<5→kG w7 (p3.add j))∧∀w8,w8=storeRow w7 p3 (Ae rfrom1 rto1 rnum1 rtext1 rkids1)→Br (r1 == 0) (∃v4:Sl,w8.cell? (p1.add 5)=some v4.v∧∃v5,w8.cell? (p3.add 4)=some (vi v5)∧Br (((v4.len:Int):Int) != v5) (m_H_j2 inside1 seen1 p1 p2 p3 53 w8 K) (m_H_j2 inside1 seen1 p1 p2 p3 r1 w8 K)) (m_H_j2 inside1 seen1 p1 p2 p3 r1 w8 K)))
def m_H (aT aU:Int) (aV aW:Int) (aX:ByteArray) (aY:Sl) (inside1:Int) (seen1:Option Addr) (w:World) (K:Int→WP):Prop :=∀p1 w1,New w (.cells #[(vi aT),(vi aU),(vi aV),(vu aW),(vs aX),aY.v] 28) p1 w1→∃a4,seen1=some a4∧∃v6,w1.cell? a4=some (vi v6)∧Br (decide (v6≥4096)) (K 52 w1) (Br (decide (inside1≥64)) (K 52 w1) (m_H_j1 inside1 seen1 p1 w1 K))
theorem w_H (aT aU aV aW aX aY inside1 seen1 w K) (h:m_H aT aU aV aW aX aY inside1 seen1 w K):
  Calls prog 54 #[(.agg #[(vi aT),(vi aU),(vi aV),(vu aW),(vs aX),aY.v]),(vi inside1),(vp seen1)] w (fun e w'=>∃r4,e=.returned (vi r4)∧K r4 w'):=by
 refine cw (args:=[(Ab aT aU aV aW aX aY),(vi inside1),(vp seen1)]) func54 ntmps54 (eg (sn (O:=(.cells #[(vi aT),(vi aU),(vi aV),(vu aW),(vs aX),aY.v] 28)) xb ?_))
 intro p1 w1 hn6
 have h:=h p1 w1 hn6
 refine q (ln (yZ (fun ρ w=>Has ρ [(1,(vi inside1)),(2,(vp seen1)),(3,(vp (some p1)))]∧m_H_j1 inside1 seen1 p1 w K) ?_ ?_))
 rintro ρ w ⟨hH,h⟩
 refine jY hH (eg (q (qm h fun a1 h=>ql (isAgg3 _) h fun v1 h=>q (qm h fun a2 h=>st1 (sizeOf3 _) h fun w2 h=>ln (eg ?_)))))
 obtain ⟨aA,aB,aC,aD,aE,bG,hv10,h⟩:=h
 refine qa (isAgg28 _) (sizeOf28 _) hv10 (sc call107 (h.mono fun e w3 ⟨aM,aN,aO,aP,aQ,aR,aS,k,h⟩=>⟨_,k,?_⟩))
 refine nw1 h (jW (zeroValue103 _) rfl) fun p2 w4 h=>sro (sizeOf103 _) h fun w5 h=>ln (eg ?_)
 obtain ⟨aH,aI,aJ,aK,aL,aF,aG,hv9,h⟩:=h
 refine qa (isAgg103 _) (sizeOf103 _) hv9 (sc call108 (h.mono fun e w6 ⟨rfrom1,rto1,rnum1,rtext1,rkids1,r1,k,h⟩=>⟨_,k,?_⟩))
 refine qc (nw1 h (jW (zeroValue170 _) rfl) fun p3 w7 h=>sro (sizeOf170 _) h fun w8 h=>q (ln (yZ (fun ρ w=>∃e1,Has ρ [(1,(vi inside1)),(2,(vp seen1)),(3,(vp (some p1))),(7,(vp (some p2))),(8,(vp (some p3))),(9,(vi e1))]∧m_H_j2 inside1 seen1 p1 p2 p3 e1 w K) ?_ ?_)))
 rintro ρ w ⟨e1,hH,h⟩
 refine jY hH (yZ (fun ρ w=>∃e2,Has ρ [(1,(vi inside1)),(2,(vp seen1)),(3,(vp (some p1))),(9,(vi e2))]∧m_H_j3 inside1 seen1 p1 e2 w K) ?_ ?_)
 rintro ρ w ⟨e2,hH,h⟩
 refine jY hH (jB (eg (q (ln (jO ?_)))))
 obtain ⟨I1,mu1,h0,hr⟩:=h
 refine zU (σ:=Int×Int×World) (fun s ρ w=>w=s.2.2∧Has ρ [(1,(vi inside1)),(2,(vp seen1)),(3,(vp (some p1))),(9,(vi s.1)),(10,(vi s.2.1))]∧I1 s.1 s.2.1 s.2.2) (fun s=>mu1 s.1 s.2.1 s.2.2) (e2,0,w) ⟨rfl,hm,h0⟩ ?_
 rintro ⟨e3,i1,wl1⟩ ρ w ⟨hw,hH,hI⟩
 dsimp only at hw hH;subst w
 have h:=hr e3 i1 wl1 hI
 refine jY hH (jB (eg (qb (ql (isAgg22 _) h fun v2 h=>qc ?_))))
 obtain ⟨hg1,h⟩|⟨hg1,h⟩:=h.br
 refine qk 51 hg1 (qk 51 hg1 (q2 (vb (e3 == 0)) (xT hg1) (ln (cbr h ?_ ?_))))<;>intro h
 refine jF (jL (jB (jO (rg (q (ql (isAgg22 _) h fun v3 h=>q (qi (runUnderlying22 _) (sizeOf28 _) h fun a3 h=>?_)))))))
 obtain ⟨bM,bN,bO,bP,bQ,bR,hv1,h⟩:=h
 refine qa (isAgg28 _) (sizeOf28 _) hv1 (qc (sc call54 (h.mono fun e w9 ⟨r2,k,h⟩=>⟨_,k,?_⟩)))
 refine q (jC (kW (jL (rg (qc (ln ⟨(r2,(q6.wrap (i1+1)),w9),⟨rfl,hm,h.1⟩,h.2⟩))))))
 refine zI (vM (vM (vI (jL (eg (q0 (vi e3) (q0 (vi e3) (ln (er (rs1 results54 ⟨e3,rfl,h⟩))))))))))
 refine sj2 51 hg1 (q2 (vb false) (xF hg1) (ln (kF (by kernel_rfl) (zI (vM (vM (vI (jL (jB (rg (qb (ln (er (rs1 results54 ⟨e3,rfl,h⟩))))))))))))))
 refine eg (qb (ln (cbr h ?_ ?_)))<;>intro h
 refine rg ?_
 obtain ⟨vfrom1,vto1,vnum1,vtext1,vkids1,hv6,h⟩:=h
 refine qa (isAgg170 _) (sizeOf170 _) hv6 ?_
 obtain ⟨bS,bT,bU,bV,bW,bX,bY,hv5,h⟩:=h
 refine qa (isAgg103 _) (sizeOf103 _) hv5 (sc call109 (h.mono fun e w10 ⟨r3,k,h⟩=>⟨_,k,?_⟩))
 refine q (ln ⟨r3,hm,h⟩)
 refine jF (jL ⟨e1,hm,h⟩)
 refine eg (qc ?_)
 obtain ⟨hg2,h⟩|⟨hg2,h⟩:=h.br
 refine qk 33 hg2 ?_
 obtain ⟨v4,hv8,h⟩:=h
 refine q4 33 hg2 (xl (isAgg22 _) hv8) (qk 33 hg2 (qk 33 hg2 ?_))
 obtain ⟨v5,hv7,h⟩:=h
 refine q4 33 hg2 (xl (isAgg3 _) hv7) (qk 33 hg2 (q2 (vb (((v4.len:Int):Int) != v5)) (xT hg2) (ln (cbr h ?_ ?_))))<;>intro h
 refine rg (q (ln ⟨53,hm,h⟩))
 refine jF (jL ⟨r1,hm,h⟩)
 refine sj 33 hg2 (sj5 33 hg2 (q2 (vb false) (xF hg2) (ln (kF (by kernel_rfl) (jF (jL ⟨r1,hm,h⟩))))))
 refine eg (q (qm h fun a4 h=>ql (isAgg3 _) h fun v6 h=>qb ?_))
 obtain ⟨hg3,h⟩|⟨hg3,h⟩:=h.br
 refine sj2 15 hg3 (q2 (vb true) (xT hg3) (ln (kO (by kernel_rfl) (eg (q0 (vi 52) (ln (er (zM (rs1 results54 ⟨52,rfl,h⟩)))))))))
 refine qk 15 hg3 (qk 15 hg3 (q2 (vb (decide (inside1≥64))) (xF hg3) (ln (cbr h ?_ ?_))))<;>intro h
 refine eg (q (ln (er (zM (rs1 results54 ⟨52,rfl,h⟩)))))
 refine jF (jL ⟨hm,h⟩)
def m_E1_l1 (p1:Option Addr) (p3 p4:Addr) (v1:Sl) (x1:Int) (wl1:World) (Kc1:Int→WP) (K:Int→Int→WP):Prop :=Br (decide (x1<(v1.len:Int))) (∃a1:Addr,At v1 x1 6 a1∧∃aH aI aJ aK aL bR,Row wl1 a1 (Aa aH aI aJ aK aL bR)∧∀p5 w6,New wl1 (.cells #[(vi 0),(vi 0),(vi 0),(vu 0),ve,Sl.nil.v] 28) p5 w6→(∀j,j<6→kG w6 (p5.add j))∧∀w7,w7=storeRow w6 p5 (Aa aH aI aJ aK aL bR)→∃bM bN bO bP bQ cS,Row w7 p5 (Aa bM bN bO bP bQ cS)∧Calls prog 55 #[(vp p1),(.agg #[(vi bM),(vi bN),(vi bO),(vu bP),(vs bQ),cS.v])] w7 (fun e w8=>∃r1 r2,e=.returned (.tuple #[(vi r1),(vi r2)])∧Br (r2 != 0) (K 0 r2 w8) (∃a2:Addr,At (Sl.mk (some p4) 2 2) x1 1 a2∧∃v2,w8.cell? a2=some (vp v2)∧∃a3,v2=some a3∧kG w8 a3∧∀w9,w9=w8.setCell a3 (vi r1)→Kc1 (q6.wrap (x1+1)) w9))) (∃bS bT bU bV bW aF aG,Row wl1 p3 (Ac bS bT bU bV bW aF aG)∧Calls prog 97 #[(vp p1),(.agg #[(vi bS),(vi bT),(vi bU),(vu bV),(vs bW),(vi aF),(vi aG)])] wl1 (fun e w10=>∃r3 r4,e=.returned (.tuple #[(vi r3),(vi r4)])∧K r3 r4 w10))
def m_E1 (p1:Option Addr) (aT aU:Int) (aV aW:Int) (aX:ByteArray) (aY:Sl) (w:World) (K:Int→Int→WP):Prop :=∀p2 w1,New w (.cells #[(vi aT),(vi aU),(vi aV),(vu aW),(vs aX),aY.v] 28) p2 w1→∃aA aB aC aD aE bG,Row w1 p2 (Aa aA aB aC aD aE bG)∧Calls prog 107 #[(.agg #[(vi aA),(vi aB),(vi aC),(vu aD),(vs aE),bG.v])] w1 (fun e w2=>∃aM aN aO aP aQ aR aS,e=.returned (Ad aM aN aO aP aQ aR aS)∧∀p3 w3,New w2 (.cells #[(vi 0),(vi 0),(vi 0),(vu 0),ve,(vi 0),(vi 0)] 103) p3 w3→(∀j,j<7→kG w3 (p3.add j))∧∀w4,w4=storeRow w3 p3 (Ac aM aN aO aP aQ aR aS)→∀p4 w5,New w4 (.cells #[(vp (some (p3.add 5))),(vp (some (p3.add 6)))] 174) p4 w5→∃v1:Sl,w5.cell? (p2.add 5)=some v1.v∧∃(I1:Int→WP) (mu1:Int→World→Nat),I1 0 w5∧∀(x1:Int) (wl1:World),I1 x1 wl1→m_E1_l1 p1 p3 p4 v1 x1 wl1 (fun y'0 w'=>I1 y'0 w'∧mu1 y'0 w'<mu1 x1 wl1) K)
theorem w_E1 (p1 aT aU aV aW aX aY w K) (h:m_E1 p1 aT aU aV aW aX aY w K):
  Calls prog 55 #[(vp p1),(.agg #[(vi aT),(vi aU),(vi aV),(vu aW),(vs aX),aY.v])] w (fun e w'=>∃r5 r6,e=.returned (.tuple #[(vi r5),(vi r6)])∧K r5 r6 w'):=by
 refine cw (args:=[(vp p1),(Ab aT aU aV aW aX aY)]) func55 ntmps55 (eg (sn (O:=(.cells #[(vi aT),(vi aU),(vi aV),(vu aW),(vs aX),aY.v] 28)) xb ?_))
 intro p2 w1 hn7
 have h:=h p2 w1 hn7
 refine qb (ln (eg ?_))
 obtain ⟨aA,aB,aC,aD,aE,bG,hv8,h⟩:=h
 refine qa (isAgg28 _) (sizeOf28 _) hv8 (sc call107 (h.mono fun e w2 ⟨aM,aN,aO,aP,aQ,aR,aS,k,h⟩=>⟨_,k,?_⟩))
 refine nw1 h (jW (zeroValue103 _) rfl) fun p3 w3 h=>sro (sizeOf103 _) h fun w4 h=>ln (eg (qb (nw4 (fun p=>(Sl.mk (some p) 2 2).v) h fun p4 w5 h=>q (ln (jB (eg (q (ql (isAgg22 _) h fun v1 h=>qb (ln (jO ?_))))))))))
 obtain ⟨I1,mu1,h0,hr⟩:=h
 refine zU (σ:=Int×World) (fun s ρ w=>w=s.2∧Has ρ [(0,(vp p1)),(6,(vp (some p3))),(7,(Sl.mk (some p4) 2 2).v),(18,v1.v),(19,(vi (v1.len:Int))),(20,(vi s.1))]∧I1 s.1 s.2) (fun s=>mu1 s.1 s.2) (0,w5) ⟨rfl,hm,h0⟩ ?_
 rintro ⟨x1,wl1⟩ ρ w ⟨hw,hH,hI⟩
 dsimp only at hw hH;subst w
 have h:=hr x1 wl1 hI
 refine jY hH (eg (q (ln (jB (cbr h ?_ ?_)))))<;>intro h
 refine jF (jL (jB (jO (eg (q (qi (runUnderlying22 _) (sizeOf28 _) h fun a1 h=>?_))))))
 obtain ⟨aH,aI,aJ,aK,aL,bR,hv4,h⟩:=h
 refine qa (isAgg28 _) (sizeOf28 _) hv4 (nw1 h (jW (zeroValue28 _) rfl) fun p5 w6 h=>q (sro (sizeOf28 _) h fun w7 h=>ln (eg (q ?_))))
 obtain ⟨bM,bN,bO,bP,bQ,cS,hv3,h⟩:=h
 refine qa (isAgg28 _) (sizeOf28 _) hv3 (sc call55 (h.mono fun e w8 ⟨r1,r2,k,h⟩=>⟨_,k,?_⟩))
 refine q (qd (ln (jB (eg (qb (ln (cbr h ?_ ?_)))))))<;>intro h
 refine eg (qc (ln (er (zM (vR (zM (zM (vR (zM (uE (.inl rfl) results55 (v:=(vi 0)) (by kernel_rfl) (v':=(vi r2)) (by kernel_rfl) ⟨0,r2,rfl,h⟩))))))))))
 refine jF (jL (rg (qb (qi (runUnderlying175 _) (sizeOf174 _) h fun a2 h=>ql (isAgg174 _) h fun v2 h=>q (qm h fun a3 h=>st1 (sizeOf23 _) h fun w9 h=>jC (kW (jL (rg (qb (ln ⟨((q6.wrap (x1+1)),w9),⟨rfl,hm,h.1⟩,h.2⟩))))))))))
 refine zI (vM (vM (vI (jL (eg (q0 (vp p1) ?_))))))
 obtain ⟨bS,bT,bU,bV,bW,aF,aG,hv6,h⟩:=h
 refine qa (isAgg103 _) (sizeOf103 _) hv6 (sc call97 (h.mono fun e w10 ⟨r3,r4,k,h⟩=>⟨_,k,?_⟩))
 refine qd (ln (er (uE (.inl rfl) results55 (v:=(vi r3)) (by kernel_rfl) (v':=(vi r4)) (by kernel_rfl) ⟨r3,r4,rfl,h⟩)))
def m_F1_l1 (p1:Option Addr) (n1:Int) (s1:Sl) (x1:Int) (wl1:World) (Kc1:Int→WP) (K:WP):Prop :=Br (decide (x1<(s1.len:Int))) (∃a2:Addr,At s1 x1 9 a2∧∃vnodeKind1 vnodeFrom1 vnodeTo1 vnodeNum1 vnodeText1 vnodeA1 vnodeB1 vsize1 vdepth1,Row wl1 a2 [(vi vnodeKind1),(vi vnodeFrom1),(vi vnodeTo1),(vu vnodeNum1),(vs vnodeText1),(vi vnodeA1),(vi vnodeB1),(vi vsize1),(vi vdepth1)]∧∀p2 w1,New wl1 (.cells #[(vi 0),(vi 0),(vi 0),(vu 0),ve,(vi 0),(vi 0),(vi 0),(vi 0)] 177) p2 w1→(∀j,j<9→kG w1 (p2.add j))∧∀w2,w2=storeRow w1 p2 [(vi vnodeKind1),(vi vnodeFrom1),(vi vnodeTo1),(vu vnodeNum1),(vs vnodeText1),(vi vnodeA1),(vi vnodeB1),(vi vsize1),(vi vdepth1)]→∃C1:WP,C1 w2.drew∧∀w3,w3=w2.drew→∃a3,p1=some a3∧∃v2:Option Nat,(∀w',C1 w'→w'.cell? (a3.add 1)=some (.map v2))∧∃aA aB aC aD aE aF aG,(∀w',C1 w'→Row w' p2 (Ac aA aB aC aD aE aF aG))∧∃w4:World,(Builtin.delete_ #[93,103] 0 #[(.map v2),(Ad aA aB aC aD aE aF aG)]).run prog w3=.ok (.tuple #[]) w4∧Kc1 (q6.wrap (x1+1)) w4) (∃a4,p1=some a4∧∃v3:Sl,wl1.cell? a4=some v3.v∧∃s2:Sl,(Instr.sliceAt 94 v3.v none (some (vi n1)) none).run prog wl1=.ok s2.v wl1∧∃a5,p1=some a5∧kG wl1 a5∧∀w5,w5=wl1.setCell a5 s2.v→K w5)
def m_F1 (p1:Option Addr) (n1:Int) (w:World) (K:WP):Prop :=∃a1,p1=some a1∧∃v1:Sl,w.cell? a1=some v1.v∧∃s1:Sl,(Instr.sliceAt 94 v1.v (some (vi n1)) none none).run prog w=.ok s1.v w∧∃(I1:Int→WP) (mu1:Int→World→Nat),I1 0 w∧∀(x1:Int) (wl1:World),I1 x1 wl1→m_F1_l1 p1 n1 s1 x1 wl1 (fun y'0 w'=>I1 y'0 w'∧mu1 y'0 w'<mu1 x1 wl1) K
theorem w_F1 (p1 n1 w K) (h:m_F1 p1 n1 w K):
  Calls prog 56 #[(vp p1),(vi n1)] w (fun e w'=>e=.returned (.tuple #[])∧K  w'):=by
 refine cw (args:=[(vp p1),(vi n1)]) func56 ntmps56 (jB (eg (q0 (vp p1) ?_)))
 refine qm h fun a1 h=>q (ql (isAgg94 _) h fun v1 h=>q ?_)
 obtain ⟨s1,hv8,h⟩:=h
 refine q2 s1.v (qB (by kernel_rfl) (by kernel_rfl) (by kernel_rfl) (by kernel_rfl) hv8) (qb (ln (jO ?_)))
 obtain ⟨I1,mu1,h0,hr⟩:=h
 refine zU (σ:=Int×World) (fun s ρ w=>w=s.2∧Has ρ [(0,(vp p1)),(1,(vi n1)),(11,s1.v),(12,(vi (s1.len:Int))),(13,(vi s.1))]∧I1 s.1 s.2) (fun s=>mu1 s.1 s.2) (0,w) ⟨rfl,hm,h0⟩ ?_
 rintro ⟨x1,wl1⟩ ρ w ⟨hw,hH,hI⟩
 dsimp only at hw hH;subst w
 have h:=hr x1 wl1 hI
 refine jY hH (eg (q (ln (jB (cbr h ?_ ?_)))))<;>intro h
 refine jF (jL (jB (jO (eg (qi (runUnderlying94 _) (sizeOf177 _) h fun a2 h=>?_)))))
 obtain ⟨vnodeKind1,vnodeFrom1,vnodeTo1,vnodeNum1,vnodeText1,vnodeA1,vnodeB1,vsize1,vdepth1,hv4,h⟩:=h
 refine qa (isAgg177 _) (sizeOf177 _) hv4 (nw1 h (jW (zeroValue177 _) rfl) fun p2 w1 h=>sro (sizeOf177 _) h fun w2 h=>ln ?_)
 obtain ⟨C1,hC,h⟩:=h
 refine dr1 C1 [6] [6] hC h fun w3 h=>qx 0 (vp p1) Kp0 (qg 1 ?_)
 obtain ⟨a3,hp3,h⟩:=h
 refine sy Kp1 (fun _ _=>xn hp3) (qx 2 (vp (some (a3.add 1))) Kp2 (qg 3 ?_))
 obtain ⟨v2,hv3,h⟩:=h
 refine sy Kp3 (fun _ k=>xl (isAgg93 _) (hv3 _ k)) (qx 4 (vp (some p2)) Kp4 (qg 5 ?_))
 obtain ⟨aA,aB,aC,aD,aE,aF,aG,hv2,h⟩:=h
 refine sy (v:=(Ad aA aB aC aD aE aF aG)) Kp5 (fun w' hw'=>(xa p2 (Ac aA aB aC aD aE aF aG) (isAgg103 _) (sizeOf103 _) (hv2 w' hw'))) (lg 6 ?_)
 obtain ⟨w4,hv1,h⟩:=h
 refine sl (v:=(.tuple #[])) Kp6 (jG rfl) (by kernel_rfl) (jI (args:=#[(.map v2),(Ad aA aB aC aD aE aF aG)]) (by kernel_rfl) (fun _=>rfl) hv1) (.inl (by kernel_rfl)) (wn (kW (jL (rg (q0 (vi (q6.wrap (x1+1))) (q0 (vi (q6.wrap (x1+1))) (ln ⟨((q6.wrap (x1+1)),w4),⟨rfl,hm,h.1⟩,h.2⟩)))))))
 refine zI (vM (vM (vI (jL (rg (q0 (vp p1) (q0 (vp p1) (qm h fun a4 h=>q (ql (isAgg94 _) h fun v3 h=>q ?_)))))))))
 obtain ⟨s2,hv6,h⟩:=h
 refine q2 s2.v (qB (by kernel_rfl) (by kernel_rfl) (by kernel_rfl) (by kernel_rfl) hv6) (qm h fun a5 h=>q (st1 (sizeOf94 _) h fun w5 h=>jC (jDK (.inr rfl) results56 ⟨rfl,h⟩)))
def m_D2 (p1:Option Addr) (t1:Int) (w:World) (K:Int→Int→Int→Int→ByteArray→Int→Int→Bool→WP):Prop :=∀p2 w1,New w (.cells #[(vi 0),(vi 0),(vi 0),(vu 0),ve,(vi 0),(vi 0)] 103) p2 w1→Calls prog 115 #[(vp p1),(vi t1)] w1 (fun e w2=>∃r1,e=.returned (vb r1)∧Br (!r1) ((∀j,j<7→kG w2 (p2.add j))∧∀w3,w3=storeRow w2 p2 (Aj 0 0 0 0 0 0)→∃bH bI bJ bK bL cE cF,Row w3 p2 (Ac bH bI bJ bK bL cE cF)∧K bH bI bJ bK bL cE cF false w3) (∃a1,p1=some a1∧∃v1:Sl,w2.cell? a1=some v1.v∧∃a2:Addr,At v1 (q6.wrap (t1 - 1)) 9 a2∧∃aA aB aC aD aE aF aG,Row w2 a2 (Ac aA aB aC aD aE aF aG)∧(∀j,j<7→kG w2 (p2.add j))∧∀w4,w4=storeRow w2 p2 (Ac aA aB aC aD aE aF aG)→∃bZ cA cB cC cD cK cL,Row w4 p2 (Ac bZ cA cB cC cD cK cL)∧K bZ cA cB cC cD cK cL true w4))
theorem w_D2 (p1 t1 w K) (h:m_D2 p1 t1 w K):
  Calls prog 61 #[(vp p1),(vi t1)] w (fun e w'=>∃aM aN aO aP aQ aR aS r2,e=.returned (.tuple #[(Ad aM aN aO aP aQ aR aS),(vb r2)])∧K aM aN aO aP aQ aR aS r2 w'):=by
 refine cw (args:=[(vp p1),(vi t1)]) func61 ntmps61 (eg (sn (O:=(.cells #[(vi 0),(vi 0),(vi 0),(vu 0),ve,(vi 0),(vi 0)] 103)) (jW (zeroValue103 _) rfl) ?_))
 intro p2 w1 hn3
 have h:=h p2 w1 hn3
 refine q (ln (jB (eg (qb (sc call115 (h.mono fun e w2 ⟨r1,k,h⟩=>⟨_,k,?_⟩))))))
 refine q (ln (cbr h ?_ ?_))<;>intro h
 refine eg (q (sro (sizeOf103 _) h fun w3 h=>q (ln (er (zM ?_)))))
 obtain ⟨bH,bI,bJ,bK,bL,cE,cF,hv1,h⟩:=h
 refine gg2 results61 (rva (isAgg103 _) (sizeOf103 _) hv1) (rvU (vb false)) ⟨bH,bI,bJ,bK,bL,cE,cF,false,rfl,h⟩
 refine jF (jL (eg (q (qm h fun a1 h=>q (ql (isAgg94 _) h fun v1 h=>qb (qi (runUnderlying94 _) (sizeOf177 _) h fun a2 h=>q ?_))))))
 obtain ⟨aA,aB,aC,aD,aE,aF,aG,hv3,h⟩:=h
 refine qa (isAgg103 _) (sizeOf103 _) hv3 (sro (sizeOf103 _) h fun w4 h=>q (ln (er ?_)))
 obtain ⟨bZ,cA,cB,cC,cD,cK,cL,hv2,h⟩:=h
 refine gg2 results61 (rva (isAgg103 _) (sizeOf103 _) hv2) (rvU (vb true)) ⟨bZ,cA,cB,cC,cD,cK,cL,true,rfl,h⟩
def m_E2 (p1:Option Addr) (t1:Int) (w:World) (K:Int→WP):Prop :=Calls prog 115 #[(vp p1),(vi t1)] w (fun e w1=>∃r1,e=.returned (vb r1)∧Br (!r1) (K 0 w1) (∃a1,p1=some a1∧∃v1:Sl,w1.cell? a1=some v1.v∧∃a2:Addr,At v1 (q6.wrap (t1 - 1)) 9 a2∧∃v2,w1.cell? (a2.add 7)=some (vi v2)∧K v2 w1))
theorem w_E2 (p1 t1 w K) (h:m_E2 p1 t1 w K):
  Calls prog 67 #[(vp p1),(vi t1)] w (fun e w'=>∃r2,e=.returned (vi r2)∧K r2 w'):=by
 refine cw (args:=[(vp p1),(vi t1)]) func67 ntmps67 (eg (q0 (vi 0) (ln (jB (eg (q0 (vp p1) (q0 (vi t1) ?_)))))))
 refine sc call115 (h.mono fun e w1 ⟨r1,k,h⟩=>⟨_,k,?_⟩)
 refine q (ln (cbr h ?_ ?_))<;>intro h
 refine eg (q (ln (er (zM (rs1 results67 ⟨0,rfl,h⟩)))))
 refine jF (jL (eg (q (qm h fun a1 h=>q (ql (isAgg94 _) h fun v1 h=>qb (qi (runUnderlying94 _) (sizeOf177 _) h fun a2 h=>q (ql (isAgg3 _) h fun v2 h=>q (ln (er (rs1 results67 ⟨v2,rfl,h⟩))))))))))
def m_F2 (p1:Option Addr) (t1:Int) (w:World) (K:Sl→WP):Prop :=Calls prog 61 #[(vp p1),(vi t1)] w (fun e w1=>∃aM aN aO aP aQ aR aS r1,e=.returned (.tuple #[(Ad aM aN aO aP aQ aR aS),(vb r1)])∧∀p2 w2,New w1 (.cells #[(vi 0),(vi 0),(vi 0),(vu 0),ve,(vi 0),(vi 0)] 103) p2 w2→(∀j,j<7→kG w2 (p2.add j))∧∀w3,w3=storeRow w2 p2 (Ac aM aN aO aP aQ aR aS)→∃v1,w3.cell? p2=some (vi v1)∧Calls prog 136 #[(vi v1)] w3 (fun e w4=>∃rfrom1 rto1 rnum1 rtext1 rkids1 r2,e=.returned (.tuple #[(Ag rfrom1 rto1 rnum1 rtext1 rkids1),(vb r2)])∧∀p3 w5,New w4 (.cells #[(vb false),(vb false),(vb false),(vb false),(vi 0)] 170) p3 w5→(∀j,j<5→kG w5 (p3.add j))∧∀w6,w6=storeRow w5 p3 (Ae rfrom1 rto1 rnum1 rtext1 rkids1)→∃v2,w6.cell? (p2.add 5)=some (vi v2)∧∃v3,w6.cell? (p2.add 6)=some (vi v3)∧∀p4 w7,New w6 (.cells #[(vi v2),(vi v3)] 23) p4 w7→∃v4,w7.cell? (p3.add 4)=some (vi v4)∧∃s1:Sl,(Instr.sliceAt 137 (Sl.mk (some p4) 2 2).v none (some (vi v4)) none).run prog w7=.ok s1.v w7∧K s1 w7))
theorem w_F2 (p1 t1 w K) (h:m_F2 p1 t1 w K):
  Calls prog 84 #[(vp p1),(vi t1)] w (fun e w'=>∃r3:Sl,e=.returned r3.v∧K r3 w'):=by
 refine cw (args:=[(vp p1),(vi t1)]) func84 ntmps84 (eg (q0 Sl.nil.v (ln (eg (q0 (vp p1) (q0 (vi t1) ?_))))))
 refine sc call61 (h.mono fun e w1 ⟨aM,aN,aO,aP,aQ,aR,aS,r1,k,h⟩=>⟨_,k,?_⟩)
 refine qc (nw1 h (jW (zeroValue103 _) rfl) fun p2 w2 h=>sro (sizeOf103 _) h fun w3 h=>q (ln (eg (q (ql (isAgg3 _) h fun v1 h=>sc call136 (h.mono fun e w4 ⟨rfrom1,rto1,rnum1,rtext1,rkids1,r2,k,h⟩=>⟨_,k,?_⟩))))))
 refine qc (nw1 h (jW (zeroValue170 _) rfl) fun p3 w5 h=>sro (sizeOf170 _) h fun w6 h=>q (ln (eg (q (ql (isAgg23 _) h fun v2 h=>q (ql (isAgg23 _) h fun v3 h=>kP (O:=(.cells #[(vi v2),(vi v3)] 23)) (fun p=>(Sl.mk (some p) 2 2).v) (jG rfl) (jK (vs:=#[(0,(vi v2)),(1,(vi v3))]) (by kernel_rfl) (by kernel_rfl)) ?_))))))
 intro p4 w7 hn3
 have h:=h p4 w7 hn3
 refine q (ql (isAgg3 _) h fun v4 h=>?_)
 obtain ⟨s1,hv1,h⟩:=h
 refine q2 s1.v (qB (by kernel_rfl) (by kernel_rfl) (by kernel_rfl) (by kernel_rfl) hv1) (q (ln (er (rs1 results84 ⟨s1,rfl,h⟩))))
def m_S1 (p1:Option Addr) (aZ bA:Int) (bB bC:Int) (bD:ByteArray) (bE bF:Int) (w:World) (K:Int→Int→WP):Prop :=∀p2 w1,New w (.cells #[(vi aZ),(vi bA),(vi bB),(vu bC),(vs bD),(vi bE),(vi bF)] 103) p2 w1→Br (Option.isNone p1) (K 0 0 w1) (∃aA aB aC aD aE aF aG,Row w1 p2 (Ac aA aB aC aD aE aF aG)∧Calls prog 137 #[(vp p1),(.agg #[(vi aA),(vi aB),(vi aC),(vu aD),(vs aE),(vi aF),(vi aG)])] w1 (fun e w2=>∃r1 r2 r3,e=.returned (.tuple #[(vi r1),(vi r2),(vi r3)])∧Br (r3 != 0) (K 0 r3 w2) (∀w3,w3=w2.drew→∃a1,p1=some a1∧∃v1:Option Nat,w3.cell? (a1.add 1)=some (.map v1)∧∃aH aI aJ aK aL bX bY,Row w3 p2 (Ac aH aI aJ aK aL bX bY)∧∃v2 ok1,(Instr.lookup 93 (.map v1) (.agg #[(vi aH),(vi aI),(vi aJ),(vu aK),(vs aL),(vi bX),(vi bY)]) true).run prog w3=.ok (.tuple #[(vi v2),(vb ok1)]) w3∧Br ok1 (K v2 0 w3) (∃a2,p1=some a2∧∃v3:Sl,w3.cell? a2=some v3.v∧Br (decide ((v3.len:Int)≥65536)) (K 0 6 w3) (∃C1:WP,C1 w3.drew∧∀w4,w4=w3.drew→∃a3,p1=some a3∧∃v4:Sl,(∀w',C1 w'→w'.cell? a3=some v4.v)∧∃bM bN bO bP bQ cG cH,(∀w',C1 w'→Row w' p2 (Ac bM bN bO bP bQ cG cH))∧∀p3 w5,New w4 (.cells #[(vi bM),(vi bN),(vi bO),(vu bP),(vs bQ),(vi cG),(vi cH),(vi r1),(vi r2)] 177) p3 w5→C1 w5∧∃s1:Sl,∃w6:World,(Builtin.append_ #[94,94] 94 #[v4.v,(Sl.mk (some p3) 1 1).v]).run prog w5=.ok s1.v w6∧C1 w6∧∃a4,p1=some a4∧kG w6 a4∧∀w7,w7=w6.setCell a4 s1.v→∃a5,p1=some a5∧∃v5:Sl,w7.cell? a5=some v5.v∧∃C2:WP,C2 w7.drew∧∀w8,w8=w7.drew→∃a6,p1=some a6∧∃v6:Option Nat,(∀w',C2 w'→w'.cell? (a6.add 1)=some (.map v6))∧∃bS bT bU bV bW cT cU,(∀w',C2 w'→Row w' p2 (Ac bS bT bU bV bW cT cU))∧∃w9:World,(Instr.mapUpdate 93 (.map v6) (.agg #[(vi bS),(vi bT),(vi bU),(vu bV),(vs bW),(vi cT),(vi cU)]) (vi (v5.len:Int))).run prog w8=.ok () w9∧K (v5.len:Int) 0 w9)))))
theorem w_S1 (p1 aZ bA bB bC bD bE bF w K) (h:m_S1 p1 aZ bA bB bC bD bE bF w K):
  Calls prog 97 #[(vp p1),(.agg #[(vi aZ),(vi bA),(vi bB),(vu bC),(vs bD),(vi bE),(vi bF)])] w (fun e w'=>∃r4 r5,e=.returned (.tuple #[(vi r4),(vi r5)])∧K r4 r5 w'):=by
 refine cw (args:=[(vp p1),(Ad aZ bA bB bC bD bE bF)]) func97 ntmps97 (eg (sn (O:=(.cells #[(vi aZ),(vi bA),(vi bB),(vu bC),(vs bD),(vi bE),(vi bF)] 103)) xb ?_))
 intro p2 w1 hn3
 have h:=h p2 w1 hn3
 refine qb (ln (jB (eg (q (q2 (vb (Option.isNone p1)) (tV (by kernel_rfl) rfl underlying29) (ln (cbr h ?_ ?_)))))))<;>intro h
 refine eg (qb (ln (er (zM (uE (.inl rfl) results97 (v:=(vi 0)) (by kernel_rfl) (v':=(vi 0)) (by kernel_rfl) ⟨0,0,rfl,h⟩)))))
 refine jF (jL (eg (q ?_)))
 obtain ⟨aA,aB,aC,aD,aE,aF,aG,hv12,h⟩:=h
 refine qa (isAgg103 _) (sizeOf103 _) hv12 (sc call137 (h.mono fun e w2 ⟨r1,r2,r3,k,h⟩=>⟨_,k,?_⟩))
 refine qc (qd (ln (jB (eg (qb (ln (cbr h ?_ ?_)))))))<;>intro h
 refine eg (qc (ln (er (zM (uE (.inl rfl) results97 (v:=(vi 0)) (by kernel_rfl) (v':=(vi r3)) (by kernel_rfl) ⟨0,r3,rfl,h⟩)))))
 refine jF (jL (jB (jB (zJ (by kernel_rfl) (by kernel_rfl) (by kernel_rfl) (by kernel_rfl) ?_))))
 intro w3 hw3
 have h:=h w3 hw3
 refine qq 0 (vp p1) Kp0 (qg 1 ?_)
 obtain ⟨a1,hp1,h⟩:=h
 refine sxQ Kp1 (jG rfl) rfl (xn hp1) (qq 2 (vp (some (a1.add 1))) Kp2 (qg 3 ?_))
 obtain ⟨v1,hv11,h⟩:=h
 refine sxQ Kp3 (jG rfl) rfl (xl (isAgg93 _) hv11) (qg 4 ?_)
 obtain ⟨aH,aI,aJ,aK,aL,bX,bY,hv10,h⟩:=h
 refine sxQ (v:=(Ad aH aI aJ aK aL bX bY)) Kp4 (jG rfl) rfl (xa p2 (Ac aH aI aJ aK aL bX bY) (isAgg103 _) (sizeOf103 _) hv10) (qg 5 ?_)
 obtain ⟨v2,ok1,hv9,h⟩:=h
 refine sxQ (v:=(.tuple #[(vi v2),(vb ok1)])) Kp5 (jG rfl) rfl (jEF (by kernel_rfl) (by kernel_rfl) hv9) (qq 6 (.tuple #[(vi v2),(vb ok1)]) Kp6 (qq 7 (vi v2) Kp7 (qq 8 (vb ok1) Kp8 (qq 9 (vi v2) Kp9 (qq 10 (vb ok1) (jE (S8 (jA (jA jD)))) (wn (jL (eg (q (jC (jL (cbr h ?_ ?_))))))))))))<;>intro h
 refine eg (qc (ln (er (zM (uE (.inl rfl) results97 (v:=(vi v2)) (by kernel_rfl) (v':=(vi 0)) (by kernel_rfl) ⟨v2,0,rfl,h⟩)))))
 refine jF (jL (jB (eg (q (qm h fun a2 h=>q (ql (isAgg94 _) h fun v3 h=>qb (ln (cbr h ?_ ?_))))))))<;>intro h
 refine eg (qb (ln (er (zM (uE (.inl rfl) results97 (v:=(vi 0)) (by kernel_rfl) (v':=(vi 6)) (by kernel_rfl) ⟨0,6,rfl,h⟩)))))
 refine jF (jL (jB ?_))
 obtain ⟨C1,hC,h⟩:=h
 refine dr1 C1 [9,10,13] [13] hC h fun w4 h=>qx 0 (vp p1) Kp0 (qx 1 (vp p1) Kp1 (qg 2 ?_))
 obtain ⟨a3,hp3,h⟩:=h
 refine sy Kp2 (fun _ _=>xn hp3) (qx 3 (vp (some a3)) Kp3 (qg 4 ?_))
 obtain ⟨v4,hv7,h⟩:=h
 refine sy Kp4 (fun _ k=>xl (isAgg94 _) (hv7 _ k)) (qg 5 ?_)
 obtain ⟨bM,bN,bO,bP,bQ,cG,cH,hv6,h⟩:=h
 refine sy (v:=(Ad bM bN bO bP bQ cG cH)) Kp5 (fun w' hw'=>(xa p2 (Ac bM bN bO bP bQ cG cH) (isAgg103 _) (sizeOf103 _) (hv6 w' hw'))) (qx 6 (vi r1) Kp6 (qx 7 (vi r2) Kp7 (qx 8 (.agg #[(vi bM),(vi bN),(vi bO),(vu bP),(vs bQ),(vi cG),(vi cH),(vi r1),(vi r2)]) Kp8 (lg 9 (kC (O:=(.cells #[(vi bM),(vi bN),(vi bO),(vu bP),(vs bQ),(vi cG),(vi cH),(vi r1),(vi r2)] 177)) (fun p=>(Sl.mk (some p) 1 1).v) Kp9 (jG rfl) (by kernel_rfl) (jK (vs:=#[(0,(.agg #[(vi bM),(vi bN),(vi bO),(vu bP),(vs bQ),(vi cG),(vi cH),(vi r1),(vi r2)]))]) (by kernel_rfl) (by kernel_rfl)) ?_)))))
 intro p3 w5 hn2
 have h:=h p3 w5 hn2
 refine ⟨.inr h.1,?_⟩
 have h:=h.2
 refine lg 10 ?_
 obtain ⟨s1,w6,hv5,hC,h⟩:=h
 refine sl (v:=s1.v) (jE (S8 (jA (jA jD)))) (jG rfl) (by kernel_rfl) (jI (args:=#[v4.v,(Sl.mk (some p3) 1 1).v]) (by kernel_rfl) (fun _=>rfl) hv5) (.inr hC) (qg 11 ?_)
 obtain ⟨a4,hp4,h⟩:=h
 refine sy (jE (S8 (jA (jA (jA jD))))) (fun _ _=>xn hp4) (qx 12 (vp (some a4)) (jE (S8 (S4 jD))) (lg 13 ?_))
 obtain ⟨hp5,h⟩:=h
 refine sl_t (jE (S8 (S4 (jA jD)))) (xs (v:=s1.v) (sizeOf94 _) hp5) ?_
 intro w7 hn1
 have h:=h w7 hn1
 refine ⟨.inl (by kernel_rfl),?_⟩
 refine wn (jL (eg (q (qm h fun a5 h=>q (ql (isAgg94 _) h fun v5 h=>qb (ln (jB ?_)))))))
 obtain ⟨C2,hC,h⟩:=h
 refine dr1 C2 [6] [6] hC h fun w8 h=>qx 0 (vp p1) Kp0 (qg 1 ?_)
 obtain ⟨a6,hp7,h⟩:=h
 refine sy Kp1 (fun _ _=>xn hp7) (qx 2 (vp (some (a6.add 1))) Kp2 (qg 3 ?_))
 obtain ⟨v6,hv3,h⟩:=h
 refine sy Kp3 (fun _ k=>xl (isAgg93 _) (hv3 _ k)) (qg 4 ?_)
 obtain ⟨bS,bT,bU,bV,bW,cT,cU,hv2,h⟩:=h
 refine sy (v:=(Ad bS bT bU bV bW cT cU)) Kp4 (fun w' hw'=>(xa p2 (Ac bS bT bU bV bW cT cU) (isAgg103 _) (sizeOf103 _) (hv2 w' hw'))) (qx 5 (vi (v5.len:Int)) Kp5 (lg 6 ?_))
 obtain ⟨w9,hv1,h⟩:=h
 refine jHA Kp6 (jG rfl) (by kernel_rfl) (jDC (by kernel_rfl) (by kernel_rfl) (by kernel_rfl) hv1) (.inl (by kernel_rfl)) (wn (jL (eg (q0 (vi (v5.len:Int)) (q0 (vi (v5.len:Int)) (q0 (vi 0) (ln (er (uE (.inl rfl) results97 (v:=(vi (v5.len:Int))) (by kernel_rfl) (v':=(vi 0)) (by kernel_rfl) ⟨(v5.len:Int),0,rfl,h⟩)))))))))
def m_G2 (aT aU:Int) (aV aW:Int) (aX:ByteArray) (aY:Sl) (w:World) (K:Int→Int→Int→Int→ByteArray→Int→Int→WP):Prop :=∀p1 w1,New w (.cells #[(vi aT),(vi aU),(vi aV),(vu aW),(vs aX),aY.v] 28) p1 w1→∀p2 w2,New w1 (.cells #[(vi 0),(vi 0),(vi 0),(vu 0),ve,(vi 0),(vi 0)] 103) p2 w2→∃v1,w2.cell? p1=some (vi v1)∧∃v2,w2.cell? (p1.add 1)=some (vi v2)∧∃v3,w2.cell? (p1.add 2)=some (vi v3)∧∃v4,w2.cell? (p1.add 3)=some (vu v4)∧∃v5,w2.cell? (p1.add 4)=some (vs v5)∧(∀j,j<7→kG w2 (p2.add j))∧∀w3,w3=storeRow w2 p2 (Ac v1 v2 v3 v4 v5 0 0)→∃bH bI bJ bK bL cE cF,Row w3 p2 (Ac bH bI bJ bK bL cE cF)∧K bH bI bJ bK bL cE cF w3
theorem w_G2 (aT aU aV aW aX aY w K) (h:m_G2 aT aU aV aW aX aY w K):
  Calls prog 107 #[(.agg #[(vi aT),(vi aU),(vi aV),(vu aW),(vs aX),aY.v])] w (fun e w'=>∃aM aN aO aP aQ aR aS,e=.returned (Ad aM aN aO aP aQ aR aS)∧K aM aN aO aP aQ aR aS w'):=by
 refine cw (args:=[(Ab aT aU aV aW aX aY)]) func107 ntmps107 (eg (sn (O:=(.cells #[(vi aT),(vi aU),(vi aV),(vu aW),(vs aX),aY.v] 28)) xb ?_))
 intro p1 w1 hn3
 have h:=h p1 w1 hn3
 refine nw1 h (jW (zeroValue103 _) rfl) fun p2 w2 h=>ln (eg (q (ql (isAgg3 _) h fun v1 h=>q (ql (isAgg3 _) h fun v2 h=>q (ql (isAgg3 _) h fun v3 h=>q (ql (isAgg26 _) h fun v4 h=>q (ql (isAgg9 _) h fun v5 h=>q (sro (sizeOf103 _) h fun w3 h=>ln (er ?_)))))))))
 obtain ⟨bH,bI,bJ,bK,bL,cE,cF,hv1,h⟩:=h
 refine gg1 results107 (rva (isAgg103 _) (sizeOf103 _) hv1) ⟨bH,bI,bJ,bK,bL,cE,cF,rfl,h⟩
def m_C_j3 (p1 p2 p3:Addr) (x3:Bool) (w:World) (K:Bool→Bool→Bool→Bool→Int→Int→WP):Prop :=Br x3 (∃vfrom1 vto1 vnum1 vtext1 vkids1,Row w p3 (Ae vfrom1 vto1 vnum1 vtext1 vkids1)∧(∀j,j<5→kG w (p2.add j))∧∀w6,w6=storeRow w p2 (Ae vfrom1 vto1 vnum1 vtext1 vkids1)→∃qfrom1 qto1 qnum1 qtext1 qkids1,Row w6 p2 (Ae qfrom1 qto1 qnum1 qtext1 qkids1)∧K qfrom1 qto1 qnum1 qtext1 qkids1 53 w6) (∃v2,w.cell? (p3.add 3)=some (vb v2)∧Br (!v2) (∃v3,w.cell? (p1.add 4)=some (vs v3)∧Br (!(decide (v3=⟨#[]⟩))) (∃vfrom2 vto2 vnum2 vtext2 vkids2,Row w p3 (Ae vfrom2 vto2 vnum2 vtext2 vkids2)∧(∀j,j<5→kG w (p2.add j))∧∀w7,w7=storeRow w p2 (Ae vfrom2 vto2 vnum2 vtext2 vkids2)→∃qfrom2 qto2 qnum2 qtext2 qkids2,Row w7 p2 (Ae qfrom2 qto2 qnum2 qtext2 qkids2)∧K qfrom2 qto2 qnum2 qtext2 qkids2 53 w7) (∃vfrom3 vto3 vnum3 vtext3 vkids3,Row w p3 (Ae vfrom3 vto3 vnum3 vtext3 vkids3)∧(∀j,j<5→kG w (p2.add j))∧∀w8,w8=storeRow w p2 (Ae vfrom3 vto3 vnum3 vtext3 vkids3)→∃qfrom3 qto3 qnum3 qtext3 qkids3,Row w8 p2 (Ae qfrom3 qto3 qnum3 qtext3 qkids3)∧K qfrom3 qto3 qnum3 qtext3 qkids3 0 w8)) (∃vfrom4 vto4 vnum4 vtext4 vkids4,Row w p3 (Ae vfrom4 vto4 vnum4 vtext4 vkids4)∧(∀j,j<5→kG w (p2.add j))∧∀w9,w9=storeRow w p2 (Ae vfrom4 vto4 vnum4 vtext4 vkids4)→∃qfrom4 qto4 qnum4 qtext4 qkids4,Row w9 p2 (Ae qfrom4 qto4 qnum4 qtext4 qkids4)∧K qfrom4 qto4 qnum4 qtext4 qkids4 0 w9))
def m_C_j4 (p1 p2 p3:Addr) (x2 x4:Bool) (w:World) (K:Bool→Bool→Bool→Bool→Int→Int→WP):Prop :=Br x2 (m_C_j3 p1 p2 p3 true w K) (m_C_j3 p1 p2 p3 x4 w K)
def m_C_j2 (p1 p2 p3:Addr) (x2:Bool) (w:World) (K:Bool→Bool→Bool→Bool→Int→Int→WP):Prop :=Br x2 (m_C_j3 p1 p2 p3 true w K) (∃v4,w.cell? (p3.add 2)=some (vb v4)∧Br (!v4) (∃v5,w.cell? (p1.add 3)=some (vu v5)∧m_C_j4 p1 p2 p3 x2 (v5 != 0) w K) (m_C_j4 p1 p2 p3 x2 false w K))
def m_C_j5 (p1 p2 p3:Addr) (x1 x5:Bool) (w:World) (K:Bool→Bool→Bool→Bool→Int→Int→WP):Prop :=Br x1 (m_C_j2 p1 p2 p3 true w K) (m_C_j2 p1 p2 p3 x5 w K)
def m_C_j1 (p1 p2 p3:Addr) (x1:Bool) (w:World) (K:Bool→Bool→Bool→Bool→Int→Int→WP):Prop :=Br x1 (m_C_j2 p1 p2 p3 true w K) (∃v6,w.cell? (p3.add 1)=some (vb v6)∧Br (!v6) (∃v7,w.cell? (p1.add 2)=some (vi v7)∧m_C_j5 p1 p2 p3 x1 (v7 != 0) w K) (m_C_j5 p1 p2 p3 x1 false w K))
def m_C_j6 (p1 p2:Addr) (r1:Bool) (p3:Addr) (x6:Bool) (w:World) (K:Bool→Bool→Bool→Bool→Int→Int→WP):Prop :=Br (!r1) (m_C_j1 p1 p2 p3 true w K) (m_C_j1 p1 p2 p3 x6 w K)
def m_C (aZ bA:Int) (bB bC:Int) (bD:ByteArray) (bE bF:Int) (w:World) (K:Bool→Bool→Bool→Bool→Int→Int→WP):Prop :=∀p1 w1,New w (.cells #[(vi aZ),(vi bA),(vi bB),(vu bC),(vs bD),(vi bE),(vi bF)] 103) p1 w1→∀p2 w2,New w1 (.cells #[(vb false),(vb false),(vb false),(vb false),(vi 0)] 170) p2 w2→∃v1,w2.cell? p1=some (vi v1)∧Calls prog 136 #[(vi v1)] w2 (fun e w3=>∃rfrom1 rto1 rnum1 rtext1 rkids1 r1,e=.returned (.tuple #[(Ag rfrom1 rto1 rnum1 rtext1 rkids1),(vb r1)])∧∀p3 w4,New w3 (.cells #[(vb false),(vb false),(vb false),(vb false),(vi 0)] 170) p3 w4→(∀j,j<5→kG w4 (p3.add j))∧∀w5,w5=storeRow w4 p3 (Ae rfrom1 rto1 rnum1 rtext1 rkids1)→Br (!r1) (m_C_j1 p1 p2 p3 true w5 K) (∃v8,w5.cell? p3=some (vb v8)∧Br (!v8) (∃v9,w5.cell? (p1.add 1)=some (vi v9)∧m_C_j6 p1 p2 r1 p3 (v9 != 0) w5 K) (m_C_j6 p1 p2 r1 p3 false w5 K)))
theorem w_C (aZ bA bB bC bD bE bF w K) (h:m_C aZ bA bB bC bD bE bF w K):
  Calls prog 108 #[(.agg #[(vi aZ),(vi bA),(vi bB),(vu bC),(vs bD),(vi bE),(vi bF)])] w (fun e w'=>∃rfrom2 rto2 rnum2 rtext2 rkids2 r2,e=.returned (.tuple #[(Ag rfrom2 rto2 rnum2 rtext2 rkids2),(vi r2)])∧K rfrom2 rto2 rnum2 rtext2 rkids2 r2 w'):=by
 refine cw (args:=[(Ad aZ bA bB bC bD bE bF)]) func108 ntmps108 (eg (sn (O:=(.cells #[(vi aZ),(vi bA),(vi bB),(vu bC),(vs bD),(vi bE),(vi bF)] 103)) xb ?_))
 intro p1 w1 hn8
 have h:=h p1 w1 hn8
 refine nw1 h (jW (zeroValue170 _) rfl) fun p2 w2 h=>q (ln (eg (q (ql (isAgg3 _) h fun v1 h=>sc call136 (h.mono fun e w3 ⟨rfrom1,rto1,rnum1,rtext1,rkids1,r1,k,h⟩=>⟨_,k,?_⟩)))))
 refine qc (nw1 h (jW (zeroValue170 _) rfl) fun p3 w4 h=>sro (sizeOf170 _) h fun w5 h=>q (ln (jB (eg (qc (jM 9 (fun ρ w=>∃x1,Has ρ [(1,(vp (some p1))),(2,(vp (some p2))),(4,(vp (some p3))),(23,(vb x1))]∧m_C_j1 p1 p2 p3 x1 w K) ?_ ?_))))))
 rintro ρ w ⟨x1,hH,h⟩
 refine jR hH (q (jM 9 (fun ρ w=>∃x2,Has ρ [(1,(vp (some p1))),(2,(vp (some p2))),(4,(vp (some p3))),(33,(vb x2))]∧m_C_j2 p1 p2 p3 x2 w K) ?_ ?_))
 rintro ρ w ⟨x2,hH,h⟩
 refine jR hH (q (jM 9 (fun ρ w=>∃x3,Has ρ [(1,(vp (some p1))),(2,(vp (some p2))),(4,(vp (some p3))),(43,(vb x3))]∧m_C_j3 p1 p2 p3 x3 w K) ?_ ?_))
 rintro ρ w ⟨x3,hH,h⟩
 refine jR hH (q ?_)
 obtain ⟨hg1,h⟩|⟨hg1,h⟩:=h.br
 refine sj4 44 hg1 (sm (sm (sm (sj 44 hg1 (q2 (vb true) (xT hg1) (ln (kO (by kernel_rfl) (eg ?_))))))))
 obtain ⟨vfrom1,vto1,vnum1,vtext1,vkids1,hv2,h⟩:=h
 refine qa (isAgg170 _) (sizeOf170 _) hv2 (sro (sizeOf170 _) h fun w6 h=>q (ln (er (zM ?_))))
 obtain ⟨qfrom1,qto1,qnum1,qtext1,qkids1,hv1,h⟩:=h
 refine gg2 results108 (rva (isAgg170 _) (sizeOf170 _) hv1) (rvU (vi 53)) ⟨qfrom1,qto1,qnum1,qtext1,qkids1,53,rfl,h⟩
 refine qk 44 hg1 ?_
 obtain ⟨v2,hv10,h⟩:=h
 refine q4 44 hg1 (xl (isAgg4 _) hv10) (qk 44 hg1 (qk 44 hg1 ?_))
 obtain ⟨hg2,h⟩|⟨hg2,h⟩:=h.br
 refine qk 48 hg2 ?_
 obtain ⟨v3,hv7,h⟩:=h
 refine q4 48 hg2 (xl (isAgg9 _) hv7) (stq (v:=(vb (!(decide (v3=⟨#[]⟩))))) (wy 48 hg2) (xN (by kernel_rfl) (by kernel_rfl)) (stq (v:=(vb (!(decide (v3=⟨#[]⟩))))) (wy 44 hg1) (xT hg2) (q2 (vb (!(decide (v3=⟨#[]⟩)))) (xF hg1) (ln (cbr h ?_ ?_)))))<;>intro h
 refine eg ?_
 obtain ⟨vfrom2,vto2,vnum2,vtext2,vkids2,hv4,h⟩:=h
 refine qa (isAgg170 _) (sizeOf170 _) hv4 (sro (sizeOf170 _) h fun w7 h=>q (ln (er (zM ?_))))
 obtain ⟨qfrom2,qto2,qnum2,qtext2,qkids2,hv3,h⟩:=h
 refine gg2 results108 (rva (isAgg170 _) (sizeOf170 _) hv3) (rvU (vi 53)) ⟨qfrom2,qto2,qnum2,qtext2,qkids2,53,rfl,h⟩
 refine jF (jL (eg ?_))
 obtain ⟨vfrom3,vto3,vnum3,vtext3,vkids3,hv6,h⟩:=h
 refine qa (isAgg170 _) (sizeOf170 _) hv6 (sro (sizeOf170 _) h fun w8 h=>q (ln (er ?_)))
 obtain ⟨qfrom3,qto3,qnum3,qtext3,qkids3,hv5,h⟩:=h
 refine gg2 results108 (rva (isAgg170 _) (sizeOf170 _) hv5) (rvU (vi 0)) ⟨qfrom3,qto3,qnum3,qtext3,qkids3,0,rfl,h⟩
 refine sj3 48 hg2 (stq (v:=(vb false)) (wy 44 hg1) (xF hg2) (q2 (vb false) (xF hg1) (ln (kF (by kernel_rfl) (jF (jL (eg ?_)))))))
 obtain ⟨vfrom4,vto4,vnum4,vtext4,vkids4,hv9,h⟩:=h
 refine qa (isAgg170 _) (sizeOf170 _) hv9 (sro (sizeOf170 _) h fun w9 h=>q (ln (er ?_)))
 obtain ⟨qfrom4,qto4,qnum4,qtext4,qkids4,hv8,h⟩:=h
 refine gg2 results108 (rva (isAgg170 _) (sizeOf170 _) hv8) (rvU (vi 0)) ⟨qfrom4,qto4,qnum4,qtext4,qkids4,0,rfl,h⟩
 obtain ⟨hg3,h⟩|⟨hg3,h⟩:=h.br
 refine sj4 34 hg3 (sm (sm (sm (sj 34 hg3 (q2 (vb true) (xT hg3) (jC ⟨true,hm,h⟩))))))
 refine qk 34 hg3 ?_
 obtain ⟨v4,hv12,h⟩:=h
 refine q4 34 hg3 (xl (isAgg4 _) hv12) (qk 34 hg3 (qk 34 hg3 (jM 4 (fun ρ w=>∃x4,Has ρ [(1,(vp (some p1))),(2,(vp (some p2))),(4,(vp (some p3))),(34,(vb x2)),(42,(vb x4))]∧m_C_j4 p1 p2 p3 x2 x4 w K) ?_ ?_)))
 rintro ρ w ⟨x4,hH,h⟩
 refine jR hH ?_
 obtain ⟨hg4,h⟩|⟨hg4,h⟩:=h.br
 refine q2 (vb true) (xT hg4) (jC ⟨true,hm,h⟩)
 refine q2 (vb x4) (xF hg4) (jC ⟨x4,hm,h⟩)
 obtain ⟨hg5,h⟩|⟨hg5,h⟩:=h.br
 refine qk 38 hg5 ?_
 obtain ⟨v5,hv11,h⟩:=h
 refine q4 38 hg5 (xl (isAgg26 _) hv11) (qk 38 hg5 (stq (v:=(vb (v5 != 0))) (wy 34 hg3) (xT hg5) (jC ⟨(v5 != 0),hm,h⟩)))
 refine sj3 38 hg5 (stq (v:=(vb false)) (wy 34 hg3) (xF hg5) (jC ⟨false,hm,h⟩))
 obtain ⟨hg6,h⟩|⟨hg6,h⟩:=h.br
 refine sj4 24 hg6 (sm (sm (sm (sj 24 hg6 (q2 (vb true) (xT hg6) (jC ⟨true,hm,h⟩))))))
 refine qk 24 hg6 ?_
 obtain ⟨v6,hv14,h⟩:=h
 refine q4 24 hg6 (xl (isAgg4 _) hv14) (qk 24 hg6 (qk 24 hg6 (jM 4 (fun ρ w=>∃x5,Has ρ [(1,(vp (some p1))),(2,(vp (some p2))),(4,(vp (some p3))),(24,(vb x1)),(32,(vb x5))]∧m_C_j5 p1 p2 p3 x1 x5 w K) ?_ ?_)))
 rintro ρ w ⟨x5,hH,h⟩
 refine jR hH ?_
 obtain ⟨hg7,h⟩|⟨hg7,h⟩:=h.br
 refine q2 (vb true) (xT hg7) (jC ⟨true,hm,h⟩)
 refine q2 (vb x5) (xF hg7) (jC ⟨x5,hm,h⟩)
 obtain ⟨hg8,h⟩|⟨hg8,h⟩:=h.br
 refine qk 28 hg8 ?_
 obtain ⟨v7,hv13,h⟩:=h
 refine q4 28 hg8 (xl (isAgg3 _) hv13) (qk 28 hg8 (stq (v:=(vb (v7 != 0))) (wy 24 hg6) (xT hg8) (jC ⟨(v7 != 0),hm,h⟩)))
 refine sj3 28 hg8 (stq (v:=(vb false)) (wy 24 hg6) (xF hg8) (jC ⟨false,hm,h⟩))
 obtain ⟨hg9,h⟩|⟨hg9,h⟩:=h.br
 refine sj4 14 hg9 (sm (sm (sm (sj 14 hg9 (q2 (vb true) (xT hg9) (jC ⟨true,hm,h⟩))))))
 refine qk 14 hg9 ?_
 obtain ⟨v8,hv16,h⟩:=h
 refine q4 14 hg9 (xl (isAgg4 _) hv16) (qk 14 hg9 (qk 14 hg9 (jM 4 (fun ρ w=>∃x6,Has ρ [(1,(vp (some p1))),(2,(vp (some p2))),(4,(vp (some p3))),(14,(vb (!r1))),(22,(vb x6))]∧m_C_j6 p1 p2 r1 p3 x6 w K) ?_ ?_)))
 rintro ρ w ⟨x6,hH,h⟩
 refine jR hH ?_
 obtain ⟨hg10,h⟩|⟨hg10,h⟩:=h.br
 refine q2 (vb true) (xT hg10) (jC ⟨true,hm,h⟩)
 refine q2 (vb x6) (xF hg10) (jC ⟨x6,hm,h⟩)
 obtain ⟨hg11,h⟩|⟨hg11,h⟩:=h.br
 refine qk 18 hg11 ?_
 obtain ⟨v9,hv15,h⟩:=h
 refine q4 18 hg11 (xl (isAgg3 _) hv15) (qk 18 hg11 (stq (v:=(vb (v9 != 0))) (wy 14 hg9) (xT hg11) (jC ⟨(v9 != 0),hm,h⟩)))
 refine sj3 18 hg11 (stq (v:=(vb false)) (wy 14 hg9) (xF hg11) (jC ⟨false,hm,h⟩))
def m_W_j1 (p1 p2:Addr) (x1:Bool) (w:World) (K:Int→WP):Prop :=Br x1 (K 50 w) (∃v1,w.cell? (p1.add 1)=some (vb v1)∧Br v1 (∃v2,w.cell? (p2.add 2)=some (vi v2)∧Calls prog 152 #[(vi v2)] w (fun e w3=>∃r1,e=.returned (vb r1)∧Br (!r1) (K 50 w3) (∃v3,w3.cell? (p2.add 2)=some (vi v3)∧∃v4,w3.cell? (p2.add 1)=some (vi v4)∧Br (v3 == v4) (K 50 w3) (∃v5,w3.cell? (p2.add 4)=some (vs v5)∧Br (decide ((v5.size:Int)>64)) (K 1 w3) (K 0 w3))))) (∃v6,w.cell? (p2.add 4)=some (vs v6)∧Br (decide ((v6.size:Int)>64)) (K 1 w) (K 0 w)))
def m_W (sfrom1 sto1:Bool) (snum1 stext1:Bool) (skids1 aZ:Int) (bA bB bC:Int) (bD:ByteArray) (bE bF:Int) (w:World) (K:Int→WP):Prop :=∀p1 w1,New w (.cells #[(vb sfrom1),(vb sto1),(vb snum1),(vb stext1),(vi skids1)] 170) p1 w1→∀p2 w2,New w1 (.cells #[(vi aZ),(vi bA),(vi bB),(vu bC),(vs bD),(vi bE),(vi bF)] 103) p2 w2→∃v7,w2.cell? p1=some (vb v7)∧Br v7 (∃v8,w2.cell? (p2.add 1)=some (vi v8)∧Calls prog 152 #[(vi v8)] w2 (fun e w4=>∃r2,e=.returned (vb r2)∧m_W_j1 p1 p2 (!r2) w4 K)) (m_W_j1 p1 p2 false w2 K)
theorem w_W (sfrom1 sto1 snum1 stext1 skids1 aZ bA bB bC bD bE bF w K) (h:m_W sfrom1 sto1 snum1 stext1 skids1 aZ bA bB bC bD bE bF w K):
  Calls prog 109 #[(.agg #[(vb sfrom1),(vb sto1),(vb snum1),(vb stext1),(vi skids1)]),(.agg #[(vi aZ),(vi bA),(vi bB),(vu bC),(vs bD),(vi bE),(vi bF)])] w (fun e w'=>∃r3,e=.returned (vi r3)∧K r3 w'):=by
 refine cw (args:=[(Ag sfrom1 sto1 snum1 stext1 skids1),(Ad aZ bA bB bC bD bE bF)]) func109 ntmps109 (eg (sn (O:=(.cells #[(vb sfrom1),(vb sto1),(vb snum1),(vb stext1),(vi skids1)] 170)) xb ?_))
 intro p1 w1 hn2
 have h:=h p1 w1 hn2
 refine nw1 h xb fun p2 w2 h=>q (ln (jB (jO (jB (yZ (fun ρ w=>∃x1,Has ρ [(2,(vp (some p1))),(3,(vp (some p2))),(5,(vb x1))]∧m_W_j1 p1 p2 x1 w K) ?_ ?_)))))
 rintro ρ w ⟨x1,hH,h⟩
 refine jY hH (cbr' h (fun hc1 h=>?_) (fun hc1 h=>?_))
 refine jF (jL (jFA (t:=x1) (by kernel_rfl) hc1 (eg (q0 (vi 50) (ln (er (vR (zM (rs1 results109 ⟨50,rfl,h⟩)))))))))
 refine rg (q (ql (isAgg4 _) h fun v1 h=>q ?_))
 obtain ⟨hg1,h⟩|⟨hg1,h⟩:=h.br
 refine qk 16 hg1 ?_
 obtain ⟨v2,hv4,h⟩:=h
 refine q4 16 hg1 (xl (isAgg3 _) hv4) (kQ (wy 16 hg1) (xc call152) (h.mono ?_))
 rintro e w3 ⟨r1,rfl,h⟩
 refine ⟨_,rfl,?_⟩
 refine qk 16 hg1 (qk 16 hg1 ?_)
 obtain ⟨hg2,h⟩|⟨hg2,h⟩:=h.br
 refine sj5 21 hg2 (stq (v:=(vb true)) (wy 16 hg1) (xT hg2) (q2 (vb true) (xT hg1) (q (ln (kO (by kernel_rfl) (jB (rg (q (ln (er (vR (zM (rs1 results109 ⟨50,rfl,h⟩)))))))))))))
 refine qk 21 hg2 ?_
 obtain ⟨v3,hv3,h⟩:=h
 refine q4 21 hg2 (xl (isAgg3 _) hv3) (qk 21 hg2 ?_)
 obtain ⟨v4,hv2,h⟩:=h
 refine q4 21 hg2 (xl (isAgg3 _) hv2) (qk 21 hg2 (stq (v:=(vb (v3 == v4))) (wy 16 hg1) (xF hg2) (q2 (vb (v3 == v4)) (xT hg1) (q (ln (cbr h ?_ ?_))))))<;>intro h
 refine eg (q (ln (er (vR (zM (rs1 results109 ⟨50,rfl,h⟩))))))
 refine eg (q (ql (isAgg9 _) h fun v5 h=>qc (ln (cbr h ?_ ?_))))<;>intro h
 refine eg (q (ln (er (vR (zM (rs1 results109 ⟨1,rfl,h⟩))))))
 refine jF (kW (jL (eg (q (ln (er (rs1 results109 ⟨0,rfl,h⟩)))))))
 refine sj5 16 hg1 (sm (sm (sm (sm (sm (sj 16 hg1 (q2 (vb false) (xF hg1) (q (ln (kF (by kernel_rfl) (eg (q0 (vp (some (p2.add 4))) (ql (isAgg9 _) h fun v6 h=>qc (ln (cbr h ?_ ?_)))))))))))))))<;>intro h
 refine eg (q (ln (er (vR (zM (rs1 results109 ⟨1,rfl,h⟩))))))
 refine jF (kW (jL (eg (q (ln (er (rs1 results109 ⟨0,rfl,h⟩)))))))
 refine rg (q (ql (isAgg4 _) h fun v7 h=>q ?_))
 obtain ⟨hg3,h⟩|⟨hg3,h⟩:=h.br
 refine qk 8 hg3 ?_
 obtain ⟨v8,hv7,h⟩:=h
 refine q4 8 hg3 (xl (isAgg3 _) hv7) (kQ (wy 8 hg3) (xc call152) (h.mono ?_))
 rintro e w4 ⟨r2,rfl,h⟩
 refine ⟨_,rfl,?_⟩
 refine qk 8 hg3 (q2 (vb (!r2)) (xT hg3) (q (ln ⟨(!r2),hm,h⟩)))
 refine sj4 8 hg3 (q2 (vb false) (xF hg3) (q (ln ⟨false,hm,h⟩)))
def m_G1_j1 (p1:Option Addr) (t1:Int) (x1:Bool) (w:World) (K:Bool→WP):Prop :=Br x1 (∃a1,p1=some a1∧∃v1:Sl,w.cell? a1=some v1.v∧K (decide (t1≤(v1.len:Int))) w) (K false w)
def m_G1 (p1:Option Addr) (t1:Int) (w:World) (K:Bool→WP):Prop :=Br (!(Option.isNone p1)) (m_G1_j1 p1 t1 (decide (t1≥1)) w K) (m_G1_j1 p1 t1 false w K)
theorem w_G1 (p1 t1 w K) (h:m_G1 p1 t1 w K):
  Calls prog 115 #[(vp p1),(vi t1)] w (fun e w'=>∃r1,e=.returned (vb r1)∧K r1 w'):=by
 refine cw (args:=[(vp p1),(vi t1)]) func115 ntmps115 (eg (q0 (vb false) (ln (eg (q0 (vp p1) (q2 (vb (!(Option.isNone p1))) (jIW (by kernel_rfl) rfl underlying29) (q0 (vb (!(Option.isNone p1))) ?_)))))))
 refine jM 3 (fun ρ w=>∃x1,Has ρ [(0,(vp p1)),(1,(vi t1)),(10,(vb x1))]∧m_G1_j1 p1 t1 x1 w K) ?_ ?_
 rintro ρ w ⟨x1,hH,h⟩
 refine jR hH (q ?_)
 obtain ⟨hg1,h⟩|⟨hg1,h⟩:=h.br
 refine qk 11 hg1 (qk 11 hg1 ?_)
 obtain ⟨a1,hp1,h⟩:=h
 refine q4 11 hg1 (xn hp1) (qk 11 hg1 ?_)
 obtain ⟨v1,hv1,h⟩:=h
 refine q4 11 hg1 (xl (isAgg94 _) hv1) (qk 11 hg1 (qk 11 hg1 (q2 (vb (decide (t1≤(v1.len:Int)))) (xT hg1) (q (ln (er (rs1 results115 ⟨(decide (t1≤(v1.len:Int))),rfl,h⟩)))))))
 refine sj2 11 hg1 (sj5 11 hg1 (q2 (vb false) (xF hg1) (q (ln (er (rs1 results115 ⟨false,rfl,h⟩))))))
 obtain ⟨hg2,h⟩|⟨hg2,h⟩:=h.br
 refine qk 7 hg2 (qk 7 hg2 (q2 (vb (decide (t1≥1))) (xT hg2) (jC ⟨(decide (t1≥1)),hm,h⟩)))
 refine sj2 7 hg2 (q2 (vb false) (xF hg2) (jC ⟨false,hm,h⟩))
def m_H2 (kind1:Int) (w:World) (K:Bool→Bool→Bool→Bool→Int→Bool→WP):Prop :=∀p1 w1,New w (.cells #[(vb false),(vb false),(vb false),(vb false),(vi 0)] 170) p1 w1→Br (decide (kind1<1)) ((∀j,j<5→kG w1 (p1.add j))∧∀w2,w2=storeRow w1 p1 (Ae false false false false 0)→∃qfrom1 qto1 qnum1 qtext1 qkids1,Row w2 p1 (Ae qfrom1 qto1 qnum1 qtext1 qkids1)∧K qfrom1 qto1 qnum1 qtext1 qkids1 false w2) (Br (decide (kind1>9)) ((∀j,j<5→kG w1 (p1.add j))∧∀w3,w3=storeRow w1 p1 (Ae false false false false 0)→∃qfrom2 qto2 qnum2 qtext2 qkids2,Row w3 p1 (Ae qfrom2 qto2 qnum2 qtext2 qkids2)∧K qfrom2 qto2 qnum2 qtext2 qkids2 false w3) (Calls prog 180 #[] w1 (fun e w4=>∃r1:Array Value,e=.returned (.agg r1)∧∃efrom1 eto1 enum1 etext1 ekids1,(Instr.index 249 (.agg r1) (vi kind1)).run prog w4=.ok (.agg #[(vb efrom1),(vb eto1),(vb enum1),(vb etext1),(vi ekids1)]) w4∧(∀j,j<5→kG w4 (p1.add j))∧∀w5,w5=storeRow w4 p1 (Ae efrom1 eto1 enum1 etext1 ekids1)→∃qfrom3 qto3 qnum3 qtext3 qkids3,Row w5 p1 (Ae qfrom3 qto3 qnum3 qtext3 qkids3)∧K qfrom3 qto3 qnum3 qtext3 qkids3 true w5)))
theorem w_H2 (kind1 w K) (h:m_H2 kind1 w K):
  Calls prog 136 #[(vi kind1)] w (fun e w'=>∃rfrom1 rto1 rnum1 rtext1 rkids1 r2,e=.returned (.tuple #[(Ag rfrom1 rto1 rnum1 rtext1 rkids1),(vb r2)])∧K rfrom1 rto1 rnum1 rtext1 rkids1 r2 w'):=by
 refine cw (args:=[(vi kind1)]) func136 ntmps136 (eg (sn (O:=(.cells #[(vb false),(vb false),(vb false),(vb false),(vi 0)] 170)) (jW (zeroValue170 _) rfl) ?_))
 intro p1 w1 hn4
 have h:=h p1 w1 hn4
 refine q (ln (jB (eg (qc ?_))))
 obtain ⟨hg1,h⟩|⟨hg1,h⟩:=h.br
 refine sj2 6 hg1 (q2 (vb true) (xT hg1) (ln (kO (by kernel_rfl) (eg (q0 (Ag false false false false 0) (sro (sizeOf170 _) h fun w2 h=>q (ln (er (zM ?_)))))))))
 obtain ⟨qfrom1,qto1,qnum1,qtext1,qkids1,hv1,h⟩:=h
 refine gg2 results136 (rva (isAgg170 _) (sizeOf170 _) hv1) (rvU (vb false)) ⟨qfrom1,qto1,qnum1,qtext1,qkids1,false,rfl,h⟩
 refine qk 6 hg1 (qk 6 hg1 (q2 (vb (decide (kind1>9))) (xF hg1) (ln (cbr h ?_ ?_))))<;>intro h
 refine eg (q (sro (sizeOf170 _) h fun w3 h=>q (ln (er (zM ?_)))))
 obtain ⟨qfrom2,qto2,qnum2,qtext2,qkids2,hv2,h⟩:=h
 refine gg2 results136 (rva (isAgg170 _) (sizeOf170 _) hv2) (rvU (vb false)) ⟨qfrom2,qto2,qnum2,qtext2,qkids2,false,rfl,h⟩
 refine jF (jL (eg (sc call180 (h.mono fun e w4 ⟨r1,k,h⟩=>⟨_,k,?_⟩))))
 refine q ?_
 obtain ⟨efrom1,eto1,enum1,etext1,ekids1,hv4,h⟩:=h
 refine q2 (Ag efrom1 eto1 enum1 etext1 ekids1) (zZ (by kernel_rfl) (by kernel_rfl) hv4) (sro (sizeOf170 _) h fun w5 h=>q (ln (er ?_)))
 obtain ⟨qfrom3,qto3,qnum3,qtext3,qkids3,hv3,h⟩:=h
 refine gg2 results136 (rva (isAgg170 _) (sizeOf170 _) hv3) (rvU (vb true)) ⟨qfrom3,qto3,qnum3,qtext3,qkids3,true,rfl,h⟩
def m_D_l3 (p1:Option Addr) (s1:Sl) (size1 depth1 x1:Int) (wl1:World) (Kc3:Int→Int→Int→WP) (K:Int→Int→Int→WP):Prop :=Br (decide (x1<(s1.len:Int))) (∃a1:Addr,At s1 x1 1 a1∧∃v4,wl1.cell? a1=some (vi v4)∧Calls prog 115 #[(vp p1),(vi v4)] wl1 (fun e w6=>∃r2,e=.returned (vb r2)∧Br (!r2) (K 0 0 51 w6) (Calls prog 67 #[(vp p1),(vi v4)] w6 (fun e w7=>∃r3,e=.returned (vi r3)∧Calls prog 181 #[(vp p1),(vi v4)] w7 (fun e w8=>∃r4,e=.returned (vi r4)∧∃z1,(Builtin.max_ #[3,3] 3 #[(vi depth1),(vi r4)]).run prog w8=.ok (vi z1) w8∧Kc3 (q6.wrap (size1+r3)) z1 (q6.wrap (x1+1)) w8))))) (Br (decide (size1>4096)) (K 0 0 52 wl1) (Br (decide ((q6.wrap (depth1+1))>64)) (K 0 0 52 wl1) (K size1 (q6.wrap (depth1+1)) 0 wl1)))
def m_D_j2 (p1:Option Addr) (p2 p3:Addr) (e2:Int) (w:World) (K:Int→Int→Int→WP):Prop :=Br (e2 != 0) (K 0 0 e2 w) (∃v1,w.cell? (p2.add 5)=some (vi v1)∧∃v2,w.cell? (p2.add 6)=some (vi v2)∧∀p4 w5,New w (.cells #[(vi v1),(vi v2)] 23) p4 w5→∃v3,w5.cell? (p3.add 4)=some (vi v3)∧∃s1:Sl,(Instr.sliceAt 137 (Sl.mk (some p4) 2 2).v none (some (vi v3)) none).run prog w5=.ok s1.v w5∧∃(I1:Int→Int→Int→WP) (mu1:Int→Int→Int→World→Nat),I1 1 0 0 w5∧∀(size1 depth1 x1:Int) (wl1:World),I1 size1 depth1 x1 wl1→m_D_l3 p1 s1 size1 depth1 x1 wl1 (fun y'0 y'1 y'2 w'=>I1 y'0 y'1 y'2 w'∧mu1 y'0 y'1 y'2 w'<mu1 size1 depth1 x1 wl1) K)
def m_D_j1 (p1:Option Addr) (p2 p3:Addr) (e1:Int) (w:World) (K:Int→Int→Int→WP):Prop :=Br (e1 == 0) (∃vfrom1 vto1 vnum1 vtext1 vkids1,Row w p3 (Ae vfrom1 vto1 vnum1 vtext1 vkids1)∧∃aH aI aJ aK aL bX bY,Row w p2 (Ac aH aI aJ aK aL bX bY)∧Calls prog 109 #[(.agg #[(vb vfrom1),(vb vto1),(vb vnum1),(vb vtext1),(vi vkids1)]),(.agg #[(vi aH),(vi aI),(vi aJ),(vu aK),(vs aL),(vi bX),(vi bY)])] w (fun e w9=>∃r5,e=.returned (vi r5)∧m_D_j2 p1 p2 p3 r5 w9 K)) (m_D_j2 p1 p2 p3 e1 w K)
def m_D_j5 (p1:Option Addr) (p2:Addr) (r1:Int) (p3:Addr) (x2 x3:Bool) (w:World) (K:Int→Int→Int→WP):Prop :=Br (r1 == 0) (Br x2 (m_D_j1 p1 p2 p3 53 w K) (Br x3 (m_D_j1 p1 p2 p3 53 w K) (m_D_j1 p1 p2 p3 r1 w K))) (m_D_j1 p1 p2 p3 r1 w K)
def m_D_j4 (p1:Option Addr) (p2:Addr) (r1:Int) (p3:Addr) (x2:Bool) (w:World) (K:Int→Int→Int→WP):Prop :=Br (r1 == 0) (Br x2 (m_D_j1 p1 p2 p3 53 w K) (∃v6,w.cell? (p3.add 4)=some (vi v6)∧Br (decide (v6<2)) (∃v7,w.cell? (p2.add 6)=some (vi v7)∧m_D_j5 p1 p2 r1 p3 x2 (v7 != 0) w K) (m_D_j5 p1 p2 r1 p3 x2 false w K))) (m_D_j1 p1 p2 p3 r1 w K)
def m_D (p1:Option Addr) (aZ bA:Int) (bB bC:Int) (bD:ByteArray) (bE bF:Int) (w:World) (K:Int→Int→Int→WP):Prop :=∀p2 w1,New w (.cells #[(vi aZ),(vi bA),(vi bB),(vu bC),(vs bD),(vi bE),(vi bF)] 103) p2 w1→∃aA aB aC aD aE aF aG,Row w1 p2 (Ac aA aB aC aD aE aF aG)∧Calls prog 108 #[(.agg #[(vi aA),(vi aB),(vi aC),(vu aD),(vs aE),(vi aF),(vi aG)])] w1 (fun e w2=>∃rfrom1 rto1 rnum1 rtext1 rkids1 r1,e=.returned (.tuple #[(Ag rfrom1 rto1 rnum1 rtext1 rkids1),(vi r1)])∧∀p3 w3,New w2 (.cells #[(vb false),(vb false),(vb false),(vb false),(vi 0)] 170) p3 w3→(∀j,j<5→kG w3 (p3.add j))∧∀w4,w4=storeRow w3 p3 (Ae rfrom1 rto1 rnum1 rtext1 rkids1)→Br (r1 == 0) (∃v5,w4.cell? (p3.add 4)=some (vi v5)∧Br (decide (v5<1)) (∃v8,w4.cell? (p2.add 5)=some (vi v8)∧m_D_j4 p1 p2 r1 p3 (v8 != 0) w4 K) (m_D_j4 p1 p2 r1 p3 false w4 K)) (m_D_j1 p1 p2 p3 r1 w4 K))
theorem w_D (p1 aZ bA bB bC bD bE bF w K) (h:m_D p1 aZ bA bB bC bD bE bF w K):
  Calls prog 137 #[(vp p1),(.agg #[(vi aZ),(vi bA),(vi bB),(vu bC),(vs bD),(vi bE),(vi bF)])] w (fun e w'=>∃r6 r7 r8,e=.returned (.tuple #[(vi r6),(vi r7),(vi r8)])∧K r6 r7 r8 w'):=by
 refine cw (args:=[(vp p1),(Ad aZ bA bB bC bD bE bF)]) func137 ntmps137 (eg (sn (O:=(.cells #[(vi aZ),(vi bA),(vi bB),(vu bC),(vs bD),(vi bE),(vi bF)] 103)) xb ?_))
 intro p2 w1 hn4
 have h:=h p2 w1 hn4
 refine qc (ln (eg ?_))
 obtain ⟨aA,aB,aC,aD,aE,aF,aG,hv14,h⟩:=h
 refine qa (isAgg103 _) (sizeOf103 _) hv14 (sc call108 (h.mono fun e w2 ⟨rfrom1,rto1,rnum1,rtext1,rkids1,r1,k,h⟩=>⟨_,k,?_⟩))
 refine qc (nw1 h (jW (zeroValue170 _) rfl) fun p3 w3 h=>sro (sizeOf170 _) h fun w4 h=>q (ln (yZ (fun ρ w=>∃e1,Has ρ [(0,(vp p1)),(3,(vp (some p2))),(7,(vp (some p3))),(8,(vi e1))]∧m_D_j1 p1 p2 p3 e1 w K) ?_ ?_)))
 rintro ρ w ⟨e1,hH,h⟩
 refine jY hH (yZ (fun ρ w=>∃e2,Has ρ [(0,(vp p1)),(3,(vp (some p2))),(7,(vp (some p3))),(8,(vi e2))]∧m_D_j2 p1 p2 p3 e2 w K) ?_ ?_)
 rintro ρ w ⟨e2,hH,h⟩
 refine jY hH (jB (eg (qb (ln (cbr h ?_ ?_)))))<;>intro h
 refine eg (qd (ln (er (zM (jLR (.inl rfl) results137 (v:=(vi 0)) (by kernel_rfl) (v':=(vi 0)) (by kernel_rfl) (v'':=(vi e2)) (by kernel_rfl) ⟨0,0,e2,rfl,h⟩)))))
 refine jF (jL (eg (qb (ln (jB (eg (q (ql (isAgg23 _) h fun v1 h=>q (ql (isAgg23 _) h fun v2 h=>kP (O:=(.cells #[(vi v1),(vi v2)] 23)) (fun p=>(Sl.mk (some p) 2 2).v) (jG rfl) (jK (vs:=#[(0,(vi v1)),(1,(vi v2))]) (by kernel_rfl) (by kernel_rfl)) ?_)))))))))
 intro p4 w5 hn2
 have h:=h p4 w5 hn2
 refine q (ql (isAgg3 _) h fun v3 h=>?_)
 obtain ⟨s1,hv4,h⟩:=h
 refine q2 s1.v (qB (by kernel_rfl) (by kernel_rfl) (by kernel_rfl) (by kernel_rfl) hv4) (qb (ln (jO ?_)))
 obtain ⟨I1,mu1,h0,hr⟩:=h
 refine zU (σ:=Int×Int×Int×World) (fun s ρ w=>w=s.2.2.2∧Has ρ [(0,(vp p1)),(9,(vi s.1)),(10,(vi s.2.1)),(55,s1.v),(56,(vi (s1.len:Int))),(57,(vi s.2.2.1))]∧I1 s.1 s.2.1 s.2.2.1 s.2.2.2) (fun s=>mu1 s.1 s.2.1 s.2.2.1 s.2.2.2) (1,0,0,w5) ⟨rfl,hm,h0⟩ ?_
 rintro ⟨size1,depth1,x1,wl1⟩ ρ w ⟨hw,hH,hI⟩
 dsimp only at hw hH;subst w
 have h:=hr size1 depth1 x1 wl1 hI
 refine jY hH (eg (q (ln (jB (cbr h ?_ ?_)))))<;>intro h
 refine jF (jL (jB (jO (eg (qi (runUnderlying137 _) (sizeOf23 _) h fun a1 h=>ql (isAgg23 _) h fun v4 h=>q (ln (jB (eg (qb (sc call115 (h.mono fun e w6 ⟨r2,k,h⟩=>⟨_,k,?_⟩)))))))))))
 refine q (ln (cbr h ?_ ?_))<;>intro h
 refine eg (qc (ln (er (zM (vR (zM (zM (vR (zM (jLR (.inl rfl) results137 (v:=(vi 0)) (by kernel_rfl) (v':=(vi 0)) (by kernel_rfl) (v'':=(vi 51)) (by kernel_rfl) ⟨0,0,51,rfl,h⟩))))))))))
 refine jF (jL (eg (qc (sc call67 (h.mono fun e w7 ⟨r3,k,h⟩=>⟨_,k,?_⟩)))))
 refine qb (ln (rg (qc (sc call181 (h.mono fun e w8 ⟨r4,k,h⟩=>⟨_,k,?_⟩)))))
 obtain ⟨z1,hv1,h⟩:=h
 refine q2 (vi z1) (jI (args:=#[(vi depth1),(vi r4)]) (by kernel_rfl) (fun _=>rfl) hv1) (q (jC (kW (jL (rg (qb (ln ⟨((q6.wrap (size1+r3)),z1,(q6.wrap (x1+1)),w8),⟨rfl,hm,h.1⟩,h.2⟩)))))))
 refine zI (vM (vM (vI (jL (eg (q0 (vi depth1) (q0 (vi (q6.wrap (depth1+1))) (q0 (vi (q6.wrap (depth1+1))) (ln (jB (eg (qc ?_))))))))))))
 obtain ⟨hg1,h⟩|⟨hg1,h⟩:=h.br
 refine sj2 80 hg1 (q2 (vb true) (xT hg1) (ln (kO (by kernel_rfl) (eg (q0 (vi 0) (q0 (vi 0) (q0 (vi 52) (jC (jL (er (zM (jLR (.inl rfl) results137 (v:=(vi 0)) (by kernel_rfl) (v':=(vi 0)) (by kernel_rfl) (v'':=(vi 52)) (by kernel_rfl) ⟨0,0,52,rfl,h⟩))))))))))))
 refine qk 80 hg1 (qk 80 hg1 (q2 (vb (decide ((q6.wrap (depth1+1))>64))) (xF hg1) (ln (cbr h ?_ ?_))))<;>intro h
 refine eg (qc (ln (er (zM (jLR (.inl rfl) results137 (v:=(vi 0)) (by kernel_rfl) (v':=(vi 0)) (by kernel_rfl) (v'':=(vi 52)) (by kernel_rfl) ⟨0,0,52,rfl,h⟩)))))
 refine jF (jL (eg (q (qd (ln (er (jLR (.inl rfl) results137 (v:=(vi size1)) (by kernel_rfl) (v':=(vi (q6.wrap (depth1+1)))) (by kernel_rfl) (v'':=(vi 0)) (by kernel_rfl) ⟨size1,(q6.wrap (depth1+1)),0,rfl,h⟩)))))))
 refine eg (qb (ln (cbr h ?_ ?_)))<;>intro h
 refine rg ?_
 obtain ⟨vfrom1,vto1,vnum1,vtext1,vkids1,hv9,h⟩:=h
 refine qa (isAgg170 _) (sizeOf170 _) hv9 ?_
 obtain ⟨aH,aI,aJ,aK,aL,bX,bY,hv8,h⟩:=h
 refine qa (isAgg103 _) (sizeOf103 _) hv8 (sc call109 (h.mono fun e w9 ⟨r5,k,h⟩=>⟨_,k,?_⟩))
 refine q (ln ⟨r5,hm,h⟩)
 refine jF (jL ⟨e1,hm,h⟩)
 refine eg (qc ?_)
 obtain ⟨hg2,h⟩|⟨hg2,h⟩:=h.br
 refine qk 20 hg2 ?_
 obtain ⟨v5,hv13,h⟩:=h
 refine q4 20 hg2 (xl (isAgg3 _) hv13) (qk 20 hg2 (qk 20 hg2 (jM 4 (fun ρ w=>∃x2,Has ρ [(0,(vp p1)),(3,(vp (some p2))),(7,(vp (some p3))),(8,(vi r1)),(20,(vb (r1 == 0))),(28,(vb x2))]∧m_D_j4 p1 p2 r1 p3 x2 w K) ?_ ?_)))
 rintro ρ w ⟨x2,hH,h⟩
 refine jR hH ?_
 obtain ⟨hg3,h⟩|⟨hg3,h⟩:=h.br
 refine qk 20 hg3 ?_
 obtain ⟨hg4,h⟩|⟨hg4,h⟩:=h.br
 refine sj4 29 hg4 (sm (sm (sm (sj 29 hg4 (stq (v:=(vb true)) (wy 20 hg3) (xT hg4) (q2 (vb true) (xT hg3) (ln (kO (by kernel_rfl) (rg (q0 (vi 53) (ln ⟨53,hm,h⟩)))))))))))
 refine qk 29 hg4 ?_
 obtain ⟨v6,hv11,h⟩:=h
 refine q4 29 hg4 (xl (isAgg3 _) hv11) (qk 29 hg4 (qk 29 hg4 (jM 4 (fun ρ w=>∃x3,Has ρ [(0,(vp p1)),(3,(vp (some p2))),(7,(vp (some p3))),(8,(vi r1)),(20,(vb (r1 == 0))),(29,(vb x2)),(37,(vb x3))]∧m_D_j5 p1 p2 r1 p3 x2 x3 w K) ?_ ?_)))
 rintro ρ w ⟨x3,hH,h⟩
 refine jR hH ?_
 obtain ⟨hg5,h⟩|⟨hg5,h⟩:=h.br
 obtain ⟨hg6,h⟩|⟨hg6,h⟩:=h.br
 refine stq (v:=(vb true)) (wy 20 hg5) (xT hg6) (q2 (vb true) (xT hg5) (ln (kO (by kernel_rfl) (rg (q0 (vi 53) (ln ⟨53,hm,h⟩))))))
 refine stq (v:=(vb x3)) (wy 20 hg5) (xF hg6) (q2 (vb x3) (xT hg5) (ln (cbr h ?_ ?_)))<;>intro h
 refine rg (q (ln ⟨53,hm,h⟩))
 refine jF (jL ⟨r1,hm,h⟩)
 refine sj 20 hg5 (q2 (vb false) (xF hg5) (ln (kF (by kernel_rfl) (jF (jL ⟨r1,hm,h⟩)))))
 obtain ⟨hg7,h⟩|⟨hg7,h⟩:=h.br
 refine qk 33 hg7 ?_
 obtain ⟨v7,hv10,h⟩:=h
 refine q4 33 hg7 (xl (isAgg23 _) hv10) (qk 33 hg7 (stq (v:=(vb (v7 != 0))) (wy 29 hg4) (xT hg7) (jC ⟨(v7 != 0),hm,h⟩)))
 refine sj3 33 hg7 (stq (v:=(vb false)) (wy 29 hg4) (xF hg7) (jC ⟨false,hm,h⟩))
 refine sj 20 hg3 (sm (sm (sm (sm (sm (sm (sm (sm (sj 20 hg3 (q2 (vb false) (xF hg3) (jC (jL (kF (by kernel_rfl) (jF (jL ⟨r1,hm,h⟩)))))))))))))))
 obtain ⟨hg8,h⟩|⟨hg8,h⟩:=h.br
 refine qk 24 hg8 ?_
 obtain ⟨v8,hv12,h⟩:=h
 refine q4 24 hg8 (xl (isAgg23 _) hv12) (qk 24 hg8 (stq (v:=(vb (v8 != 0))) (wy 20 hg2) (xT hg8) (jC ⟨(v8 != 0),hm,h⟩)))
 refine sj3 24 hg8 (stq (v:=(vb false)) (wy 20 hg2) (xF hg8) (jC ⟨false,hm,h⟩))
 refine sj4 20 hg2 (sm (sm (sm (sj2 20 hg2 (sm (sm (sm (sm (sm (sm (sm (sm (sj 20 hg2 (q2 (vb false) (xF hg2) (ln (kF (by kernel_rfl) (jF (jL ⟨r1,hm,h⟩))))))))))))))))))
def m_I2 (n1:Int) (w:World) (K:Bool→WP):Prop :=Br (decide (n1≥0)) (K (decide (n1<16)) w) (K false w)
theorem w_I2 (n1 w K) (h:m_I2 n1 w K):
  Calls prog 152 #[(vi n1)] w (fun e w'=>∃r1,e=.returned (vb r1)∧K r1 w'):=by
 refine cw (args:=[(vi n1)]) func152 ntmps152 (eg (q0 (vb false) (ln (eg (q0 (vi n1) (q0 (vb (decide (n1≥0))) (q0 (vb (decide (n1≥0))) ?_)))))))
 obtain ⟨hg1,h⟩|⟨hg1,h⟩:=h.br
 refine qk 5 hg1 (qk 5 hg1 (q2 (vb (decide (n1<16))) (xT hg1) (q (ln (er (rs1 results152 ⟨(decide (n1<16)),rfl,h⟩))))))
 refine sj2 5 hg1 (q2 (vb false) (xF hg1) (q (ln (er (rs1 results152 ⟨false,rfl,h⟩)))))
def m_J2  (w:World) (K:(Array Value)→WP):Prop :=∀p1 w1,New w (.cells #[(vb false),(vb false),(vb false),(vb false),(vi 0),(vb false),(vb false),(vb false),(vb false),(vi 0),(vb false),(vb false),(vb false),(vb false),(vi 0),(vb false),(vb false),(vb false),(vb false),(vi 0),(vb false),(vb false),(vb false),(vb false),(vi 0),(vb false),(vb false),(vb false),(vb false),(vi 0),(vb false),(vb false),(vb false),(vb false),(vi 0),(vb false),(vb false),(vb false),(vb false),(vi 0),(vb false),(vb false),(vb false),(vb false),(vi 0),(vb false),(vb false),(vb false),(vb false),(vi 0)] 249) p1 w1→(∀j,j<50→kG w1 (p1.add j))∧∀w2,w2=storeRow w1 p1 (Ai false false false false 0 true false false false 0 false false true false 0 false false false true 0 false false false false 2 false false false false 1 true false false false 0 true false false false 1 true true false false 1 true true false false 1)→∃q1:Array Value,(q1.size=50∧Row w2 p1 q1.toList)∧K q1 w2
theorem w_J2  (w:World) (K:(Array Value)→WP) (h:m_J2  w K) :
  Calls prog 180 #[] w (fun e w'=>∃r1:Array Value,e=.returned (.agg r1)∧K r1 w'):=by
 refine cw (args:=[]) func180 ntmps180 (eg (sn (O:=(.cells #[(vb false),(vb false),(vb false),(vb false),(vi 0),(vb false),(vb false),(vb false),(vb false),(vi 0),(vb false),(vb false),(vb false),(vb false),(vi 0),(vb false),(vb false),(vb false),(vb false),(vi 0),(vb false),(vb false),(vb false),(vb false),(vi 0),(vb false),(vb false),(vb false),(vb false),(vi 0),(vb false),(vb false),(vb false),(vb false),(vi 0),(vb false),(vb false),(vb false),(vb false),(vi 0),(vb false),(vb false),(vb false),(vb false),(vi 0),(vb false),(vb false),(vb false),(vb false),(vi 0)] 249)) (jW (zeroValue249 _) rfl) ?_))
 intro p1 w1 hn2
 have h:=h p1 w1 hn2
 refine ln (eg (qd (qd (qb (sro (sizeOf249 _) h fun w2 h=>ln (er ?_))))))
 obtain ⟨q1,hv1,h⟩:=h
 refine gg1 results180 (RV.cellAr (A:=p1) (vs:=q1) (by kernel_rfl) (isAgg249 _) (sizeOf249 _) hv1) ⟨q1,rfl,h⟩
def m_K2 (p1:Option Addr) (t1:Int) (w:World) (K:Int→WP):Prop :=Calls prog 115 #[(vp p1),(vi t1)] w (fun e w1=>∃r1,e=.returned (vb r1)∧Br (!r1) (K 0 w1) (∃a1,p1=some a1∧∃v1:Sl,w1.cell? a1=some v1.v∧∃a2:Addr,At v1 (q6.wrap (t1 - 1)) 9 a2∧∃v2,w1.cell? (a2.add 8)=some (vi v2)∧K v2 w1))
theorem w_K2 (p1 t1 w K) (h:m_K2 p1 t1 w K):
  Calls prog 181 #[(vp p1),(vi t1)] w (fun e w'=>∃r2,e=.returned (vi r2)∧K r2 w'):=by
 refine cw (args:=[(vp p1),(vi t1)]) func181 ntmps181 (eg (q0 (vi 0) (ln (jB (eg (q0 (vp p1) (q0 (vi t1) ?_)))))))
 refine sc call115 (h.mono fun e w1 ⟨r1,k,h⟩=>⟨_,k,?_⟩)
 refine q (ln (cbr h ?_ ?_))<;>intro h
 refine eg (q (ln (er (zM (rs1 results181 ⟨0,rfl,h⟩)))))
 refine jF (jL (eg (q (qm h fun a1 h=>q (ql (isAgg94 _) h fun v1 h=>qb (qi (runUnderlying94 _) (sizeOf177 _) h fun a2 h=>q (ql (isAgg3 _) h fun v2 h=>q (ln (er (rs1 results181 ⟨v2,rfl,h⟩))))))))))
end Go.Proofs
end
section
open Go Go.SE
namespace Go.Proofs
open Tryz
attribute [local irreducible] Calls
theorem jEV (n:Int) (w:World):Calls prog 152 #[.int .i64 n] w (fun e w'=>∃r,e=.returned (.bool r)∧(r=Sp.qO n∧w'=w)):=by
 refine w_I2 n w (fun r w'=>r=Sp.qO n∧w'=w) ?_;unfold m_I2;refine ⟨fun h=>⟨?_,rfl⟩,fun h=>⟨?_,rfl⟩⟩
 ·have:0≤n:=by simpa using h
  simp [Sp.qO,this]
 ·have:¬ 0≤n:=by simpa using h
  simp [Sp.qO,this]
theorem jEW (s1 s2 s3 s4:Bool) (s5 k f t u:Int) (x:ByteArray) (a b:Int) (w:World) :
  Calls prog 109 #[.agg #[.bool s1,.bool s2,.bool s3,.bool s4,.int .i64 s5],.agg #[.int .i64 k,.int .i64 f,.int .i64 t,.int .u64 u,.string x,.int .i64 a,.int .i64 b]] w
   (fun e w'=>∃r,e=.returned (.int .i64 r)∧(r=Sp.jV ⟨s1,s2,s3,s4,s5⟩ ⟨k,f,t,u,x,a,b⟩∧Pure w w')):=by
 refine w_W _ _ _ _ _ _ _ _ _ _ _ _ w (fun r w'=>r=Sp.jV ⟨s1,s2,s3,s4,s5⟩ ⟨k,f,t,u,x,a,b⟩∧Pure w w') ?_
 unfold m_W
 intro p1 w1 h1 p2 w2 h2
 have b1:=(Box.of_new h1).pure (Ext.new h2)
 have b2:=Box.of_new h2
 have E:Pure w w2:=(Ext.new h1).trans (Ext.new h2)
 have J:∀c:Bool,c=(s1 && !Sp.qO f)→m_W_j1 p1 p2 c w2 (fun r w'=>r=Sp.jV ⟨s1,s2,s3,s4,s5⟩ ⟨k,f,t,u,x,a,b⟩∧Pure w w'):=by
  intro c hc;unfold m_W_j1;refine ⟨fun h=>⟨?_,E⟩,fun h=>⟨_,b1.cell rfl,fun h'=>⟨_,b2.cell rfl,?_⟩,fun h'=>⟨_,b2.cell rfl,fun h3=>⟨?_,E⟩,fun h3=>⟨?_,E⟩⟩⟩⟩
  ·rw [hc] at h;simp [Sp.jV,h]
  ·refine (jEV _ _).mono ?_;rintro _ _ ⟨r,rfl,rfl,rfl⟩;rw [hc] at h;refine ⟨_,rfl,fun h2=>⟨?_,E⟩,fun h2=>⟨_,b2.cell rfl,_,b2.cell rfl,fun h3=>⟨?_,E⟩,fun h3=>⟨_,b2.cell rfl,fun h4=>⟨?_,E⟩,fun h4=>⟨?_,E⟩⟩⟩⟩
   ·simp [Sp.jV,h',h2]
   ·simp [Sp.jV,h',h3]
   ·simp only [Sp.jV,h,h',h3];simp at h2 h4;simp [h2];omega
   ·simp only [Sp.jV,h,h',h3];simp at h2 h4;simp [h2];omega
  ·rw [hc] at h;simp only [Sp.jV,h,h'];simp at h3;simp;omega
  ·rw [hc] at h;simp only [Sp.jV,h,h'];simp at h3;simp;omega
 refine ⟨_,b1.cell0,fun h=>⟨_,b2.cell rfl,?_⟩,fun h=>J _ (by simp [h])⟩
 refine (jEV _ _).mono ?_
 rintro _ _ ⟨r,rfl,rfl,rfl⟩
 exact ⟨_,rfl,J _ (by simp [h])⟩
def jDI:Array Value:=#[.bool false,.bool false,.bool false,.bool false,.int .i64 0,.bool true,.bool false,.bool false,.bool false,.int .i64 0,.bool false,.bool false,.bool true,.bool false,.int .i64 0,.bool false,.bool false,.bool false,.bool true,.int .i64 0,.bool false,.bool false,.bool false,.bool false,.int .i64 2,.bool false,.bool false,.bool false,.bool false,.int .i64 1,.bool true,.bool false,.bool false,.bool false,.int .i64 0,.bool true,.bool false,.bool false,.bool false,.int .i64 1,.bool true,.bool true,.bool false,.bool false,.int .i64 1,.bool true,.bool true,.bool false,.bool false,.int .i64 1]
theorem jKN (w:World):Calls prog 180 #[] w (fun e w'=>∃r,e=.returned (.agg r)∧(r=jDI∧Pure w w')):=by
 refine w_J2 w (fun r w'=>r=jDI∧Pure w w') ?_;unfold m_J2;intro p1 w1 h1;have E1:Pure w w1:=Ext.new h1;have hp:=New.own (Ext.refl w) h1;have b1:=Box.of_newA h1;clear h1;refine bx 50 b1 (by kernel_rfl) (by kernel_rfl) (fun w' b E=>?_);refine ⟨jDI,⟨by kernel_rfl,b.row_eq (by kernel_rfl)⟩,rfl,E1.own hp E⟩
theorem jCM (k:Int) (w:World):Calls prog 136 #[.int .i64 k] w (fun e w'=>∃r1:Bool,∃r2:Bool,∃r3:Bool,∃r4:Bool,∃r5:Int,∃r:Bool,e=.returned (.tuple #[.agg #[.bool r1,.bool r2,.bool r3,.bool r4,.int .i64 r5],.bool r])∧(((⟨r1,r2,r3,r4,r5⟩:Sp.Shape)=Sp.shapeOf k∧r=Sp.isKind k)∧Pure w w')):=by
 refine w_H2 k w (fun r1 r2 r3 r4 r5 r w'=>((⟨r1,r2,r3,r4,r5⟩:Sp.Shape)=Sp.shapeOf k∧r=Sp.isKind k)∧Pure w w') ?_;unfold m_H2;intro p1 w1 h1;have E1:Pure w w1:=Ext.new h1;have b1:=Box.of_new h1;have hp:=New.own (Ext.refl w) h1;refine ⟨fun h=>bx 5 b1 rfl rfl (fun w' b E=>⟨_,_,_,_,_,b.row,⟨?_,?_⟩,E1.own hp E⟩),fun h=>⟨fun h2=>bx 5 b1 rfl rfl (fun w' b E=>⟨_,_,_,_,_,b.row,⟨?_,?_⟩,E1.own hp E⟩),fun h2=>?_⟩⟩
 ·have:k<1:=by simpa using h
  simp only [Sp.shapeOf,Sp.noShape];repeat rw [if_neg (by omega)]
 ·have:k<1:=by simpa using h
  simp [Sp.isKind];omega
 ·have:9<k:=by simpa using h2
  simp only [Sp.shapeOf,Sp.noShape];repeat rw [if_neg (by omega)]
 ·have:9<k:=by simpa using h2
  simp [Sp.isKind];omega
 ·have h3:¬ k<1:=by simpa using h
  have h4:¬ 9<k:=by simpa using h2
  refine (jKN _).mono ?_;rintro _ w4 ⟨_,rfl,rfl,E4⟩;refine ⟨_,rfl,?_⟩;have b4:=b1.pure E4;have E5:Pure w w4:=E1.trans E4;have hk:k=1∨k=2∨k=3∨k=4∨k=5∨k=6∨k=7∨k=8∨k=9:=by omega
  rcases hk with rfl | rfl | rfl | rfl | rfl | rfl | rfl | rfl | rfl
  ·exact ⟨true,false,false,false,0,by kernel_rfl,bx 5 b4 rfl rfl (fun w' b E=>⟨_,_,_,_,_,b.row,⟨by decide,by decide⟩,E5.own hp E⟩)⟩
  ·exact ⟨false,false,true,false,0,by kernel_rfl,bx 5 b4 rfl rfl (fun w' b E=>⟨_,_,_,_,_,b.row,⟨by decide,by decide⟩,E5.own hp E⟩)⟩
  ·exact ⟨false,false,false,true,0,by kernel_rfl,bx 5 b4 rfl rfl (fun w' b E=>⟨_,_,_,_,_,b.row,⟨by decide,by decide⟩,E5.own hp E⟩)⟩
  ·exact ⟨false,false,false,false,2,by kernel_rfl,bx 5 b4 rfl rfl (fun w' b E=>⟨_,_,_,_,_,b.row,⟨by decide,by decide⟩,E5.own hp E⟩)⟩
  ·exact ⟨false,false,false,false,1,by kernel_rfl,bx 5 b4 rfl rfl (fun w' b E=>⟨_,_,_,_,_,b.row,⟨by decide,by decide⟩,E5.own hp E⟩)⟩
  ·exact ⟨true,false,false,false,0,by kernel_rfl,bx 5 b4 rfl rfl (fun w' b E=>⟨_,_,_,_,_,b.row,⟨by decide,by decide⟩,E5.own hp E⟩)⟩
  ·exact ⟨true,false,false,false,1,by kernel_rfl,bx 5 b4 rfl rfl (fun w' b E=>⟨_,_,_,_,_,b.row,⟨by decide,by decide⟩,E5.own hp E⟩)⟩
  ·exact ⟨true,true,false,false,1,by kernel_rfl,bx 5 b4 rfl rfl (fun w' b E=>⟨_,_,_,_,_,b.row,⟨by decide,by decide⟩,E5.own hp E⟩)⟩
  ·exact ⟨true,true,false,false,1,by kernel_rfl,bx 5 b4 rfl rfl (fun w' b E=>⟨_,_,_,_,_,b.row,⟨by decide,by decide⟩,E5.own hp E⟩)⟩
theorem jIO (k f t u:Int) (x:ByteArray) (a b:Int) (w:World) :
  Calls prog 108 #[.agg #[.int .i64 k,.int .i64 f,.int .i64 t,.int .u64 u,.string x,.int .i64 a,.int .i64 b]] w
   (fun e w'=>∃r1:Bool,∃r2:Bool,∃r3:Bool,∃r4:Bool,∃r5:Int,∃r:Int,e=.returned (.tuple #[.agg #[.bool r1,.bool r2,.bool r3,.bool r4,.int .i64 r5],.int .i64 r])∧(((⟨r1,r2,r3,r4,r5⟩:Sp.Shape)=Sp.shapeOf k∧r=Sp.jX ⟨k,f,t,u,x,a,b⟩)∧Pure w w')):=by
 suffices key:∀K:Bool→Bool→Bool→Bool→Int→Int→WP,(∀r1 r2 r3 r4 r5 r w',((⟨r1,r2,r3,r4,r5⟩:Sp.Shape)=Sp.shapeOf k∧r=Sp.jX ⟨k,f,t,u,x,a,b⟩)∧Pure w w'→K r1 r2 r3 r4 r5 r w')→m_C k f t u x a b w K from
  w_C _ _ _ _ _ _ _ w _ (key _ (fun _ _ _ _ _ _ _ h=>h))
 intro K hK
 unfold m_C
 intro p1 w1 h1 p2 w2 h2
 have a1:=(Box.of_new h1).pure (Ext.new h2)
 have a2:=Box.of_new h2
 have E2:Pure w w2:=(Ext.new h1).trans (Ext.new h2)
 have o2:=New.own (Ext.new h1:Pure w w1) h2
 have n12:p1.block≠p2.block:=New.ne h2 (Box.of_new h1).blk
 refine ⟨_,a1.cell0,?_⟩
 refine (jCM _ _).mono ?_
 rintro _ w3 ⟨s1,s2,s3,s4,s5,ok,rfl,⟨hs,hok⟩,E3⟩
 refine ⟨_,_,_,_,_,_,rfl,?_⟩
 intro p3 w4 h3
 have E4:Pure w w4:=(E2.trans E3).trans (Ext.new h3)
 have o3:=New.own (E2.trans E3) h3
 have n13:p1.block≠p3.block:=New.ne h3 (a1.pure E3).blk
 have n23:p2.block≠p3.block:=New.ne h3 (a2.pure E3).blk
 refine bx 5 (Box.of_new h3) rfl rfl (fun w5 b3 E=>?_)
 have b1:=((a1.pure E3).pure (Ext.new h3)).ext E n13
 have b2:=((a2.pure E3).pure (Ext.new h3)).ext E n23
 have E5:=E4.own o3 E
 clear E E4 E3 E2 a1 a2 h1 h2 h3
 have fin : ∀ v : Int, v = Sp.jX ⟨k, f, t, u, x, a, b⟩ → (∀ j, j < 5 → kG w5 (p2.add j)) ∧ ∀ w', w' = storeRow w5 p2 [.bool s1, .bool s2, .bool s3, .bool s4, .int .i64 s5] →
   ∃q1:Bool,∃q2:Bool,∃q3:Bool,∃q4:Bool,∃q5:Int,Row w' p2 [.bool q1,.bool q2,.bool q3,.bool q4,.int .i64 q5]∧K q1 q2 q3 q4 q5 v w':=fun v hv =>
  bx 5 b2 rfl rfl (fun w' b E=>⟨_,_,_,_,_,b.row,hK _ _ _ _ _ _ _ ⟨⟨hs,hv⟩,E5.own o2 E⟩⟩)
 obtain ⟨e1,e2,e3,e4,e5⟩:s1=(Sp.shapeOf k).frm∧s2=(Sp.shapeOf k).to∧s3=(Sp.shapeOf k).num∧s4=(Sp.shapeOf k).text∧s5=(Sp.shapeOf k).kids:=by rw [← hs];simp
 have J3:∀c:Bool,c=(!ok || (!s1 && f != 0) || (!s2 && t != 0) || (!s3 && u != 0))→m_C_j3 p1 p2 p3 c w5 K:=by
  intro c hc;unfold m_C_j3;refine ⟨fun h=>⟨_,_,_,_,_,b3.row,fin _ ?_⟩,fun h=>⟨_,b3.cell rfl,fun h4=>⟨_,b1.cell rfl,fun h5=>⟨_,_,_,_,_,b3.row,fin _ ?_⟩,fun h5=>⟨_,_,_,_,_,b3.row,fin _ ?_⟩⟩,fun h4=>⟨_,_,_,_,_,b3.row,fin _ ?_⟩⟩⟩
  ·rw [h] at hc;simp only [Sp.jX,← e1,← e2,← e3,← e4,← hok,← hc];simp
  ·rw [h] at hc;simp only [Sp.jX,← e1,← e2,← e3,← e4,← hok,← hc];simp at h4 h5;simp [h4,h5]
  ·rw [h] at hc;simp only [Sp.jX,← e1,← e2,← e3,← e4,← hok,← hc];simp at h4 h5;simp [h4,h5]
  ·rw [h] at hc;simp only [Sp.jX,← e1,← e2,← e3,← e4,← hok,← hc];simp at h4;simp [h4]
 have J2:∀c:Bool,c=(!ok || (!s1 && f != 0) || (!s2 && t != 0))→m_C_j2 p1 p2 p3 c w5 K:=by
  intro c hc;have J4:∀d:Bool,d=(!s3 && u != 0)→m_C_j4 p1 p2 p3 c d w5 K:=fun d hd=>⟨fun h=>J3 _ (by rw [← hc,h];rfl),fun h=>J3 _ (by rw [← hc,h];simpa using hd)⟩;exact ⟨fun h=>J3 _ (by rw [← hc,h];rfl),fun h=>⟨_,b3.cell rfl,fun h4=>⟨_,b1.cell rfl,J4 _ (by rw [h4];rfl)⟩,fun h4=>J4 _ (by rw [h4];rfl)⟩⟩
 have J1:∀c:Bool,c=(!ok || (!s1 && f != 0))→m_C_j1 p1 p2 p3 c w5 K:=by
  intro c hc;have J5:∀d:Bool,d=(!s2 && t != 0)→m_C_j5 p1 p2 p3 c d w5 K:=fun d hd=>⟨fun h=>J2 _ (by rw [← hc,h];rfl),fun h=>J2 _ (by rw [← hc,h];simpa using hd)⟩;exact ⟨fun h=>J2 _ (by rw [← hc,h];rfl),fun h=>⟨_,b3.cell rfl,fun h4=>⟨_,b1.cell rfl,J5 _ (by rw [h4];rfl)⟩,fun h4=>J5 _ (by rw [h4];rfl)⟩⟩
 have J6:∀d:Bool,d=(!s1 && f != 0)→m_C_j6 p1 p2 ok p3 d w5 K:=fun d hd=>⟨fun h=>J1 _ (by rw [h];rfl),fun h=>J1 _ (by rw [h];simpa using hd)⟩
 exact ⟨fun h=>J1 _ (by rw [h];rfl),fun h=>⟨_,b3.cell0,fun h4=>⟨_,b1.cell rfl,J6 _ (by rw [h4];rfl)⟩,fun h4=>J6 _ (by rw [h4];rfl)⟩⟩
def oA (n:Sp.Node):List Value:=[.int .i64 n.kind,.int .i64 n.frm,.int .i64 n.to,.int .u64 n.num,.string n.text,.int .i64 n.a,.int .i64 n.b]
def jGH (e:Sp.Ent):List Value:=oA e.node++[.int .i64 e.size,.int .i64 e.depth]
def oD (n:Sp.Node):Value:=.agg (oA n).toArray
def yL (L:Sp.Pool):List (Value×Value):=L.zipIdx.map fun p=>(oD p.1.node,.int .i64 (p.2+1:Nat))
structure PoolS (w:World) (p:Addr) (L:Sp.Pool) (s:Sl) (m:Nat):Prop where
 box:Box w p [s.v,.map (some m)] 96
 rows:Rws w 177 9 s (L.map jGH)
 map:CMap w m (yL L)
 n1:m≠p.block
 n2:¬ s.blk p.block
 n3:¬ s.blk m
def zP (w:World) (p:Addr) (L:Sp.Pool) (F:NP):Prop:=∃s m,PoolS w p L s m∧∀b,F b↔(b=p.block∨s.blk b∨b=m)
theorem zP.ext {G:NP} {w w':World} {p:Addr} {L:Sp.Pool} {F:NP} (h:zP w p L F) (hE:Ext G w w') (hd:∀b,F b→¬ G b):zP w' p L F:=by
 obtain ⟨s,m,h,hF⟩:=h;exact ⟨s,m,⟨h.box.ext hE (hd _ ((hF _).2 (.inl rfl))),h.rows.ext hE (fun b hb=>hd _ ((hF _).2 (.inr (.inl hb)))),h.map.ext hE (hd _ ((hF _).2 (.inr (.inr rfl)))),h.n1,h.n2,h.n3⟩,hF⟩
theorem zP.pure {w w':World} {p:Addr} {L:Sp.Pool} {F:NP} (h:zP w p L F) (hE:Pure w w'):zP w' p L F:=h.ext hE (fun _ _ h=>h)
theorem zP.lt {w:World} {p:Addr} {L:Sp.Pool} {F:NP} (h:zP w p L F) {b:Nat} (hb:F b):b<w.heap.size:=by
 obtain ⟨s,m,h,hF⟩:=h;rcases (hF b).1 hb with rfl | hb | rfl
 ·exact h.box.lt
 ·exact h.rows.lt hb
 ·exact h.map.lt
theorem i64 {n:Int} (h:-9223372036854775808≤n) (h':n≤9223372036854775807):IntKind.i64.wrap n=n:=IntWalk.i64_in n ⟨h,h'⟩
theorem c_in (p:Addr) (t:Int) (w:World) {L:Sp.Pool} {F:NP} (hP:zP w p L F):Calls prog 115 #[.pointer (some p),.int .i64 t] w (fun e w'=>∃r,e=.returned (.bool r)∧(r=Sp.inP L t∧w=w')):=by
 obtain ⟨s,m,h,_⟩:=hP;refine w_G1 (some p) t w (fun r w'=>r=Sp.inP L t∧w=w') ?_;unfold m_G1;have hl:(s.len:Int)=L.length:=by rw [h.rows.len];simp
 refine Br.t rfl ⟨fun h1=>⟨p,rfl,s,h.box.cell0,?_,rfl⟩,fun h1=>⟨?_,rfl⟩⟩
 ·have:1≤t:=by simpa using h1
  simp [Sp.inP,hl,this]
 ·have:¬ 1≤t:=by simpa using h1
  simp [Sp.inP,this]
theorem PoolS.at {w:World} {p:Addr} {L:Sp.Pool} {s:Sl} {m:Nat} (h:PoolS w p L s m) {t:Int} (ht:Sp.inP L t=true) (hok:Sp.Ok L):∃a e,At s (IntKind.i64.wrap (t - 1)) 9 a∧Row w a (jGH e)∧s.blk a.block∧Sp.get L t=some e:=by
 obtain ⟨h1,h2⟩:=Sp.zR.1 ht;obtain ⟨e,hg,_,hi,he⟩:=Sp.uG ht;have:=hok.few;rw [i64 (by omega) (by omega)];obtain ⟨a,hat,hr,hb⟩:=h.rows.at (i:=t - 1) (by omega) (by simpa using hi);exact ⟨a,e,hat,(by rw [List.getElem_map,he] at hr;exact hr),hb,hg⟩
theorem c_Size (p:Addr) (t:Int) (w:World) {L:Sp.Pool} {F:NP} (hP:zP w p L F) (hok:Sp.Ok L):Calls prog 67 #[.pointer (some p),.int .i64 t] w (fun e w'=>∃r,e=.returned (.int .i64 r)∧(r=Sp.sizeOf L t∧w=w')):=by
 refine w_E2 (some p) t w (fun r w'=>r=Sp.sizeOf L t∧w=w') ?_;unfold m_E2;refine (c_in p t w hP).mono ?_;rintro _ _ ⟨_,rfl,rfl,rfl⟩;obtain ⟨s,m,h,_⟩:=hP;refine ⟨_,rfl,fun h1=>⟨?_,rfl⟩,fun h1=>?_⟩
 ·simp [Sp.sizeOf,Sp.vU (show Sp.inP L t=false by simpa using h1)]
 ·obtain ⟨a,e,hat,hr,_,hg⟩:=h.at (show Sp.inP L t=true by simpa using h1) hok;exact ⟨p,rfl,s,h.box.cell0,a,hat,e.size,hr 7 (by simp [jGH,oA]),by simp [Sp.sizeOf,hg],rfl⟩
theorem jMK (p:Addr) (t:Int) (w:World) {L:Sp.Pool} {F:NP} (hP:zP w p L F) (hok:Sp.Ok L):Calls prog 181 #[.pointer (some p),.int .i64 t] w (fun e w'=>∃r,e=.returned (.int .i64 r)∧(r=Sp.depthOf L t∧w=w')):=by
 refine w_K2 (some p) t w (fun r w'=>r=Sp.depthOf L t∧w=w') ?_;unfold m_K2;refine (c_in p t w hP).mono ?_;rintro _ _ ⟨_,rfl,rfl,rfl⟩;obtain ⟨s,m,h,_⟩:=hP;refine ⟨_,rfl,fun h1=>⟨?_,rfl⟩,fun h1=>?_⟩
 ·simp [Sp.depthOf,Sp.vU (show Sp.inP L t=false by simpa using h1)]
 ·obtain ⟨a,e,hat,hr,_,hg⟩:=h.at (show Sp.inP L t=true by simpa using h1) hok;exact ⟨p,rfl,s,h.box.cell0,a,hat,e.depth,hr 8 (by simp [jGH,oA]),by simp [Sp.depthOf,hg],rfl⟩
theorem jIR (p:Addr) (t:Int) (w:World) {L:Sp.Pool} {F:NP} (hP:zP w p L F) (hok:Sp.Ok L):Calls prog 61 #[.pointer (some p),.int .i64 t] w
  (fun e w'=>∃k:Int,∃f:Int,∃t':Int,∃u:Int,∃x:ByteArray,∃a:Int,∃b:Int,∃r:Bool,e=.returned (.tuple #[.agg #[.int .i64 k,.int .i64 f,.int .i64 t',.int .u64 u,.string x,.int .i64 a,.int .i64 b],.bool r])∧(((⟨k,f,t',u,x,a,b⟩:Sp.Node)=Sp.jJ L t∧r=Sp.inP L t)∧Pure w w')):=by
 refine w_D2 (some p) t w (fun k f t' u x a b r w'=>((⟨k,f,t',u,x,a,b⟩:Sp.Node)=Sp.jJ L t∧r=Sp.inP L t)∧Pure w w') ?_
 unfold m_D2
 intro p1 w1 h1
 have E1:Pure w w1:=Ext.new h1
 have b1:=Box.of_new h1
 have hp:=New.own (Ext.refl w) h1
 refine (c_in p t w1 (hP.pure E1)).mono ?_
 rintro _ _ ⟨_,rfl,rfl,rfl⟩
 obtain ⟨s,m,h,_⟩:=hP.pure E1
 refine ⟨_,rfl,fun h1=>bx 7 b1 rfl rfl (fun w' b E=>⟨_,_,_,_,_,_,_,b.row,⟨?_,?_⟩,E1.own hp E⟩),fun h1=>?_⟩
 ·simp [Sp.jJ,Sp.vU (show Sp.inP L t=false by simpa using h1),Sp.jHS]
 ·symm;simpa using h1
 ·have ht:Sp.inP L t=true:=by simpa using h1
  obtain ⟨a,e,hat,hr,_,hg⟩:=h.at ht hok
  have hn:Row w1 a (oA e.node):=fun i hi=>by
   have:=hr i (by simp [jGH];omega);rw [this];unfold jGH;rw [List.getElem?_append_left hi]
  exact ⟨p,rfl,s,h.box.cell0,a,hat,_,_,_,_,_,_,_,hn,bx 7 b1 rfl rfl (fun w' b E=>⟨_,_,_,_,_,_,_,b.row,⟨by simp [Sp.jJ,hg],ht.symm⟩,E1.own hp E⟩)⟩
theorem jEI (p:Addr) (k:Int) (w:World) (hk:k=0∨k=1∨k=2):(Instr.sliceAt 137 (Sl.mk (some p) 2 2).v .none (some (.int .i64 k)) .none).run prog w=.ok (Sl.mk (some p) k.toNat 2).v w:=by
 rcases hk with rfl | rfl | rfl <;> kernel_rfl
theorem jMJ (p:Addr) (k f t u:Int) (x:ByteArray) (a b:Int) (w:World) {L:Sp.Pool} {F:NP} (hP:zP w p L F) (hok:Sp.Ok L) :
  Calls prog 137 #[.pointer (some p),.agg #[.int .i64 k,.int .i64 f,.int .i64 t,.int .u64 u,.string x,.int .i64 a,.int .i64 b]] w
   (fun e w'=>∃r1:Int,∃r2:Int,∃r3:Int,e=.returned (.tuple #[.int .i64 r1,.int .i64 r2,.int .i64 r3])∧((r1,r2,r3)=Sp.check L ⟨k,f,t,u,x,a,b⟩∧Pure w w')):=by
 suffices key:∀K:Int→Int→Int→WP,(∀r1 r2 r3 w',(r1,r2,r3)=Sp.check L ⟨k,f,t,u,x,a,b⟩∧Pure w w'→K r1 r2 r3 w')→m_D (some p) k f t u x a b w K from
  w_D _ _ _ _ _ _ _ _ w _ (key _ (fun _ _ _ _ h=>h))
 intro K hK
 unfold m_D
 intro p2 w1 h1
 have b1:=Box.of_new h1
 have E1:Pure w w1:=Ext.new h1
 refine ⟨_,_,_,_,_,_,_,b1.row,?_⟩
 refine (jIO _ _ _ _ _ _ _ _).mono ?_
 rintro _ w2 ⟨s1,s2,s3,s4,s5,pe,rfl,⟨hs,hpe⟩,E2⟩
 refine ⟨_,_,_,_,_,_,rfl,?_⟩
 intro p3 w3 h3
 have b2:=(b1.pure E2).pure (Ext.new h3)
 have n23:p2.block≠p3.block:=New.ne h3 (b1.pure E2).blk
 have E3:Pure w w3:=(E1.trans E2).trans (Ext.new h3)
 have o3:=New.own (E1.trans E2) h3
 refine bx 5 (Box.of_new h3) rfl rfl (fun w4 b3 E=>?_)
 have b2:=b2.ext E n23
 have E4:Pure w w4:=E3.own o3 E
 clear E E3 E2 E1 b1 h1 h3
 have hsh:Sp.shapeOf k=⟨s1,s2,s3,s4,s5⟩:=hs.symm
 have hk5:s5=0∨s5=1∨s5=2:=by have:=Sp.yM k;rw [hsh] at this;exact this
 generalize hn:(⟨k,f,t,u,x,a,b⟩:Sp.Node)=n at *
 have hnk:n.kind=k:=by rw [← hn]
 have hna:n.a=a:=by rw [← hn]
 have hnb:n.b=b:=by rw [← hn]
 have J2:∀e2 w',Pure w4 w'→(e2≠0→Sp.check L n=(0,0,e2))→(e2=0→pe=0∧((decide (s5<1) && a != 0) || (decide (s5<2) && b != 0))=false∧Sp.jV ⟨s1,s2,s3,s4,s5⟩ n=0)→m_D_j2 (some p) p2 p3 e2 w' K:=by
  intro e2 w' E' hne heq;have b2:=b2.pure E';have b3:=b3.pure E';have E5:=E4.trans E';have hP':=hP.pure E5;unfold m_D_j2;refine ⟨fun h=>hK _ _ _ _ ⟨(hne (by simpa using h)).symm,E5⟩,fun h=>⟨_,b2.cell rfl,_,b2.cell rfl,?_⟩⟩;intro p4 w5 h5;obtain ⟨hp0,hc0,hf0⟩:=heq (by simpa using h);have b4:=Box.of_new h5;have E6:=E5.trans (Ext.new h5);have hP6:=hP.pure E6;refine ⟨_,(b3.pure (Ext.new h5)).cell rfl,_,jEI p4 s5 w5 hk5,?_⟩;have hks:Sp.jS n=[a,b].take s5.toNat:=by simp [Sp.jS,hnk,hsh,hna,hnb]
  have hlen:(Sp.jS n).length=s5.toNat:=by rw [hks];rcases hk5 with rfl | rfl | rfl <;> rfl
  have hget:∀j (hj:j<(Sp.jS n).length),w5.cell? (p4.add (j*1))=some (.int .i64 (Sp.jS n)[j]):=by
   intro j hj;have hj2:j<s5.toNat:=by omega
   have:(Sp.jS n)[j]=[a,b][j]'(by simp;omega):=by simp only [hks,List.getElem_take]
   rw [this,Nat.mul_one];refine b4.cell ?_;have h2:j=0∨j=1:=by omega
   rcases h2 with rfl | rfl <;> rfl
  have hrest:Sp.check L n=if (Sp.jS n).any (fun t=>!Sp.inP L t) then (0,0,51) else if 1+((Sp.jS n).map (Sp.sizeOf L)).sum>4096∨(Sp.jS n).foldl (fun d t=>max d (Sp.depthOf L t)) 0+1>64 then (0,0,52) else (1+((Sp.jS n).map (Sp.sizeOf L)).sum,(Sp.jS n).foldl (fun d t=>max d (Sp.depthOf L t)) 0+1,0):=by
   unfold Sp.check;simp only [hnk,hsh,hna,hnb,← hpe,hp0,hc0,hf0];simp
  generalize hkk:Sp.jS n=ks at *;have hl2:ks.length≤2:=by omega
  have hsum:∀j,0≤((ks.take j).map (Sp.sizeOf L)).sum∧((ks.take j).map (Sp.sizeOf L)).sum≤4096*(ks.take j).length:=by
   intro j;generalize ks.take j=l;induction l with
   | nil=>simp
   | cons y l ih=>have:=hok.sizeOf y;simp only [List.map_cons,List.sum_cons,List.length_cons];omega
  have hdep:∀(l:List Int) (d:Int),0≤d→d≤64→0≤l.foldl (fun d t=>max d (Sp.depthOf L t)) d∧l.foldl (fun d t=>max d (Sp.depthOf L t)) d≤64:=by
   intro l;induction l with
   | nil=>intro d h1 h2;exact ⟨h1,h2⟩
   | cons y l ih=>intro d h1 h2;have:=hok.depthOf y;exact ih (max d (Sp.depthOf L y)) (by omega) (by omega)
  refine ⟨fun sz d x w'=>∃j:Nat,x=j∧j≤ks.length∧sz=1+((ks.take j).map (Sp.sizeOf L)).sum∧d=(ks.take j).foldl (fun d t=>max d (Sp.depthOf L t)) 0∧(ks.take j).any (fun t=>!Sp.inP L t)=false∧w5=w',fun _ _ x _=>(2 - x).toNat,⟨0,rfl,Nat.zero_le _,by simp,by simp,by simp,rfl⟩,?_⟩;rintro sz d _ _ ⟨j,rfl,hj,rfl,rfl,hin,rfl⟩;unfold m_D_l3;have hs1:=hsum j;have hd1:=hdep (ks.take j) 0 (by omega) (by omega);have htl:(ks.take j).length≤2:=by rw [List.length_take];omega
  refine ⟨fun h=>?_,fun h=>?_⟩
  ·have hlt:j<ks.length:=by have h:=of_decide_eq_true h;simp only at h;omega
   refine ⟨p4.add (j*1),⟨by omega,of_decide_eq_true h,p4,rfl,by simp⟩,ks[j],hget j hlt,?_⟩;have htk:ks.take (j+1)=ks.take j++[ks[j]]:=List.take_succ_eq_append_getElem hlt;refine (c_in p _ w5 hP6).mono ?_;rintro _ _ ⟨_,rfl,rfl,rfl⟩;refine ⟨_,rfl,fun h=>?_,fun h=>?_⟩
   ·refine hK _ _ _ _ ⟨?_,E6⟩;rw [hrest,if_pos];exact List.any_eq_true.2 ⟨ks[j],List.getElem_mem hlt,h⟩
   ·refine (c_Size p _ w5 hP6 hok).mono ?_;rintro _ _ ⟨_,rfl,rfl,rfl⟩;refine ⟨_,rfl,?_⟩;refine (jMK p _ w5 hP6 hok).mono ?_;rintro _ _ ⟨_,rfl,rfl,rfl⟩;refine ⟨_,rfl,_,run_max_int2 _ _ _ _ _ _ _,⟨j+1,?_,hlt,?_,?_,?_,rfl⟩,?_⟩
    ·rw [i64 (by omega) (by omega)];omega
    ·have:=hok.sizeOf ks[j];rw [i64 (by omega) (by omega),htk,List.map_append,List.sum_append];simp only [List.map_cons,List.map_nil,List.sum_cons,List.sum_nil];omega
    ·rw [htk,List.foldl_append];simp only [List.foldl_cons,List.foldl_nil];split <;> omega
    ·rw [htk,List.any_append,hin];simpa using h
    ·show (2 - IntKind.i64.wrap ((j:Int)+1)).toNat<(2 - (j:Int)).toNat;rw [i64 (by omega) (by omega)];omega
  ·have hge:j=ks.length:=by have h:=of_decide_eq_false h;simp only at h;omega
   subst hge;rw [List.take_length] at hs1 hd1 hin ⊢;have hlt:(ks.length:Int)≤2:=by omega
   refine ⟨fun h=>hK _ _ _ _ ⟨?_,E6⟩,fun h=>?_⟩
   ·rw [hrest,hin,if_neg (by simp),if_pos (.inl (by simpa using h))]
   ·rw [i64 (by omega) (by omega)];refine ⟨fun h'=>hK _ _ _ _ ⟨?_,E6⟩,fun h'=>hK _ _ _ _ ⟨?_,E6⟩⟩
    ·rw [hrest,hin,if_neg (by simp),if_pos (.inr (by simpa using h'))]
    ·rw [hrest,hin,if_neg (by simp),if_neg (by simp at h h';omega)]
 have J1:∀e1,(e1≠0→Sp.check L n=(0,0,e1))→(e1=0→pe=0∧((decide (s5<1) && a != 0) || (decide (s5<2) && b != 0))=false)→m_D_j1 (some p) p2 p3 e1 w4 K:=by
  intro e1 hne heq;unfold m_D_j1;refine ⟨fun h=>⟨_,_,_,_,_,b3.row,_,_,_,_,_,_,_,b2.row,?_⟩,fun h=>J2 _ _ (Ext.refl _) hne (fun e=>by rw [e] at h;cases h)⟩;obtain ⟨hp0,hc0⟩:=heq (by simpa using h);refine (jEW _ _ _ _ _ _ _ _ _ _ _ _ _).mono ?_;rintro _ w9 ⟨_,rfl,rfl,E9⟩;rw [hn];refine ⟨_,rfl,J2 _ _ E9 (fun hf=>?_) (fun hf=>⟨hp0,hc0,hf⟩)⟩;unfold Sp.check;simp only [hnk,hsh,hna,hnb,← hpe,hp0,hc0];simp [hf]
 have J53:pe=0→((decide (s5<1) && a != 0) || (decide (s5<2) && b != 0))=true→m_D_j1 (some p) p2 p3 53 w4 K:=fun hp0 hc=>J1 53 (fun _=>by
  unfold Sp.check;simp only [hnk,hsh,hna,hnb,← hpe,hp0,hc];simp) (fun e=>by cases e)
 have Jpe:pe≠0→m_D_j1 (some p) p2 p3 pe w4 K:=fun hp=>J1 pe (fun _=>by
  unfold Sp.check;simp only [← hpe];rw [if_pos hp]) (fun e=>absurd e hp)
 have J5:∀x2 x3,x2=(decide (s5<1) && a != 0)→x3=(decide (s5<2) && b != 0)→m_D_j5 (some p) p2 pe p3 x2 x3 w4 K:=by
  intro x2 x3 h2 h3;unfold m_D_j5;refine ⟨fun h=>⟨fun hx=>J53 (by simpa using h) (by rw [← h2,hx];rfl),fun hx=>⟨fun hy=>J53 (by simpa using h) (by rw [← h2,← h3,hy];simp),fun hy=>J1 pe (fun e=>absurd (by simpa using h) e) (fun e=>⟨e,by rw [← h2,← h3,hx,hy];rfl⟩)⟩⟩,fun h=>Jpe (by simpa using h)⟩
 have J4:∀x2,x2=(decide (s5<1) && a != 0)→m_D_j4 (some p) p2 pe p3 x2 w4 K:=by
  intro x2 h2;unfold m_D_j4;refine ⟨fun h=>⟨fun hx=>J53 (by simpa using h) (by rw [← h2,hx];rfl),fun hx=>⟨_,b3.cell rfl,fun h5=>⟨_,b2.cell rfl,J5 _ _ h2 (by rw [h5];rfl)⟩,fun h5=>J5 _ _ h2 (by rw [h5];rfl)⟩⟩,fun h=>Jpe (by simpa using h)⟩
 exact ⟨fun h=>⟨_,b3.cell rfl,fun h5=>⟨_,b2.cell rfl,J4 _ (by rw [h5];rfl)⟩,fun h5=>J4 _ (by rw [h5];rfl)⟩,fun h=>Jpe (by simpa using h)⟩
def jCY (v:Value):Prop:=∃n,v=oD n
theorem jAF {n n':Sp.Node}:oD n=oD n'↔n=n':=by
 constructor
 ·intro h;cases n;cases n';simp [oD,oA] at h;simp [h]
 ·rintro rfl;rfl
theorem jAE (n:Sp.Node):Instr.sameBits 10000 (oD n) (oD n)=true:=by
 have h:∀d,Instr.sameBits (d+1) (oD n) (oD n)=true:=fun d=>by
  have e:(n.text == n.text)=true:=by rw [beq_toListBytes];simp
  cases d <;> simp [Instr.sameBits,oD,oA,e]
 exact h 9999
theorem gV:KeyOK prog 103 jCY:=by
 refine KeyOK.of_struct underlying103 ?_ ?_ ?_
 ·rintro _ ⟨n,rfl⟩ em w;kernel_rfl
 ·rintro _ _ w ⟨n,rfl⟩ ⟨n',rfl⟩;refine ⟨decide (n=n'),?_,by simp only [jAF,decide_eq_true_eq];exact eq_comm⟩;obtain ⟨k,f,t,u,x,a,b⟩:=n;obtain ⟨k',f',t',u',x',a',b'⟩:=n';simp [Op.equal,Op.maxDepth,go_sem,jIZ,oD,oA]
  repeat' split
  all_goals simp_all
 ·rintro _ ⟨n,rfl⟩;exact jAE n
theorem lR:SlType prog 94 177 9 (16*5):=by
 refine ⟨underlying94,⟨t177,_,by kernel_rfl,(by kernel_rfl:t177.zero=some (.agg #[.int .i64 0,.int .i64 0,.int .i64 0,.int .u64 0,.string ⟨#[]⟩,.int .i64 0,.int .i64 0,.int .i64 0,.int .i64 0])),by kernel_rfl,by kernel_rfl,rfl⟩,by omega⟩
theorem jJL {L:Sp.Pool} {i:Nat} {n:Sp.Node} {v:Value} (h:(yL L)[i]?=some (oD n,v)):∃e,L[i]?=some e∧e.node=n∧v=.int .i64 (i+1:Nat):=by
 simp only [yL,List.getElem?_map,List.getElem?_zipIdx,Option.map_map,Option.map_eq_some_iff] at h;obtain ⟨e,he,h⟩:=h;simp only [Function.comp,Prod.mk.injEq] at h;exact ⟨e,he,jAF.1 h.1,by rw [← h.2];simp⟩
theorem jJK {L:Sp.Pool} {n:Sp.Node} (h:∀q∈yL L,q.1≠oD n):∀e∈L,e.node≠n:=by
 intro e he hn;obtain ⟨i,hi,rfl⟩:=List.mem_iff_getElem.1 he;refine h (oD L[i].node,.int .i64 (i+1:Nat)) ?_ (by rw [hn]);exact List.mem_map.2 ⟨(L[i],i),by rw [List.mem_zipIdx_iff_getElem?];simp [hi],rfl⟩
theorem lY {L:Sp.Pool}:∀q∈yL L,jCY q.1:=by
 intro q hq;obtain ⟨x,_,rfl⟩:=List.mem_map.1 hq;exact ⟨_,rfl⟩
theorem jHO (L:Sp.Pool) (e:Sp.Ent):yL (L++[e])=yL L++[(oD e.node,.int .i64 (L.length+1:Nat))]:=by
 simp [yL,List.zipIdx_append]
theorem jIF {L:Sp.Pool} (hok:Sp.Ok L) {i:Nat} {e:Sp.Ent} (h:L[i]?=some e):Sp.find L e.node=some i:=by
 obtain ⟨hi,rfl⟩:=List.getElem?_eq_some_iff.1 h;unfold Sp.find;rw [List.findIdx?_eq_some_iff_getElem];refine ⟨hi,by simp,fun j hj=>?_⟩;have hnd:=hok.nodup;simp only [decide_eq_true_eq];intro e;exact List.pairwise_iff_getElem.1 hnd j i (by simp;omega) (by simpa using hi) hj (by simpa using e)
theorem jCB {L:Sp.Pool} {n:Sp.Node} (h:∀e∈L,e.node≠n):Sp.find L n=none:=by
 unfold Sp.find;rw [List.findIdx?_eq_none_iff];intro e he;simpa using h e he
theorem c_Make (p:Addr) (k f t u:Int) (x:ByteArray) (a b:Int) (w:World) {L:Sp.Pool} {F:NP} (hP:zP w p L F) (hok:Sp.Ok L) :
  Calls prog 97 #[.pointer (some p),.agg #[.int .i64 k,.int .i64 f,.int .i64 t,.int .u64 u,.string x,.int .i64 a,.int .i64 b]] w
   (fun e w'=>∃r1:Int,∃r2:Int,e=.returned (.tuple #[.int .i64 r1,.int .i64 r2])∧((r1,r2)=((Sp.make L ⟨k,f,t,u,x,a,b⟩).1,(Sp.make L ⟨k,f,t,u,x,a,b⟩).2.1)∧∃F',zP w' p (Sp.make L ⟨k,f,t,u,x,a,b⟩).2.2 F'∧Ext F w w'∧∀b,F' b→F b∨w.heap.size≤b)):=by
 suffices key:∀K:Int→Int→WP,(∀r1 r2 w',((r1,r2)=((Sp.make L ⟨k,f,t,u,x,a,b⟩).1,(Sp.make L ⟨k,f,t,u,x,a,b⟩).2.1)∧∃F',zP w' p (Sp.make L ⟨k,f,t,u,x,a,b⟩).2.2 F'∧Ext F w w'∧∀b,F' b→F b∨w.heap.size≤b)→K r1 r2 w')→m_S1 (some p) k f t u x a b w K from
  w_S1 _ _ _ _ _ _ _ _ w _ (key _ (fun _ _ _ h=>h))
 intro K hK
 unfold m_S1
 intro p2 w1 h1
 have b1:=Box.of_new h1
 have E1:Pure w w1:=Ext.new h1
 have o2:¬ F p2.block:=fun h=>by have:=hP.lt h;have:=h1.at_size;omega
 refine Br.f rfl ⟨_,_,_,_,_,_,_,b1.row,?_⟩
 refine (jMJ p k f t u x a b w1 (hP.pure E1) hok).mono ?_
 rintro _ w2 ⟨sz,dp,er,rfl,hck,E2⟩
 refine ⟨_,_,_,rfl,?_⟩
 generalize hn:(⟨k,f,t,u,x,a,b⟩:Sp.Node)=n at *
 have E3:Pure w w2:=E1.trans E2
 have oZ:∀w',Pure w w'→∃F',zP w' p L F'∧Ext F w w'∧∀b,F' b→F b∨w.heap.size≤b:=fun w' E=>⟨F,hP.pure E,E.pure,fun _ h=>.inl h⟩
 refine ⟨fun h=>hK _ _ _ ?_,fun h=>?_⟩
 ·have he:er≠0:=by simpa using h
  have:Sp.make L n=(0,er,L):=by unfold Sp.make;simp [← hck,he]
  rw [this];exact ⟨rfl,oZ _ E3⟩
 ·have he:er=0:=by simpa using h
  subst he
  intro w3 hw3
  have E4:Pure w w3:=by rw [hw3];exact E3.trans (Ext.drew w2)
  have b3:=(b1.pure E2).pure (show Pure w2 w3 by rw [hw3];exact Ext.drew w2)
  clear hw3
  obtain ⟨s,m,hS,hF⟩:=hP.pure E4
  refine ⟨p,rfl,_,hS.box.cell (i:=1) rfl,_,_,_,_,_,_,_,b3.row,?_⟩
  have hkey:(Value.agg #[.int .i64 k,.int .i64 f,.int .i64 t,.int .u64 u,.string x,.int .i64 a,.int .i64 b])=oD n:=by rw [← hn];rfl
  rw [hkey]
  rcases hS.map.lookup (P:=prog) (T:=93) (E:=23) underlying93 gV lY ⟨n,rfl⟩ (zeroValue23 _) true with ⟨hnot,hrun⟩ | ⟨i,v,hi,hrun⟩
  ·refine ⟨_,_,hrun,Br.f rfl ⟨p,rfl,s,hS.box.cell0,?_⟩⟩
   have hno:=jJK hnot
   have hfn:=jCB hno
   have hlen:(s.len:Int)=L.length:=by rw [hS.rows.len];simp
   refine ⟨fun h=>hK _ _ _ ?_,fun h=>?_⟩
   ·have h2:65536≤L.length:=by have h:=of_decide_eq_true h;omega
    have:Sp.make L n=(0,6,L):=by unfold Sp.make;simp [← hck,hfn,h2]
    rw [this];exact ⟨rfl,oZ _ E4⟩
   ·have h2:¬ 65536≤L.length:=by have h:=of_decide_eq_false h;omega
    have hmk:Sp.make L n=((L.length:Int)+1,0,L++[⟨n,sz,dp⟩]):=by unfold Sp.make;simp [← hck,hfn,h2]
    refine ⟨fun w'=>w'.cell? p=some s.v∧Row w' p2 (oA n),⟨?_,?_⟩,?_⟩
    ·exact Ext.cell (F:=None) (Ext.drew w3) hS.box.cell0 id
    ·rw [← hn];exact Ext.row (F:=None) (Ext.drew w3) b3.row id
    intro w4 hw4
    have E5:Pure w3 w4:=by rw [hw4];exact Ext.drew w3
    clear hw4
    have hS4:PoolS w4 p L s m:=by
     exact ⟨hS.box.pure E5,hS.rows.pure E5,hS.map.ext E5 id,hS.n1,hS.n2,hS.n3⟩
    have b4:=b3.pure E5
    refine ⟨p,rfl,s,fun w' h=>h.1,k,f,t,u,x,a,b,fun w' h=>by have:=h.2;rw [← hn] at this;exact this,?_⟩
    intro p3 w5 h5
    have E6:Pure w4 w5:=Ext.new h5
    have o3:w.heap.size≤p3.block:=New.own (E4.trans E5) h5
    have b5:=Box.of_new h5
    have hrows5:=hS4.rows.pure E6
    have hbox5:=hS4.box.pure E6
    have hmap5:CMap w5 m (yL L):=hS4.map.ext E6 id
    have b45:=b4.pure E6
    have hrow:Row w5 p3 (jGH ⟨n,sz,dp⟩):=by rw [← hn];exact b5.row
    refine ⟨⟨hbox5.cell0,by rw [← hn];exact b45.row⟩,?_⟩
    obtain ⟨s1,w6,hr6,hrows6,E7,hb6⟩:=hrows5.append (P:=prog) (ty:=94) lR (c:=1) hrow (by simp [jGH,oA]) (by simp [jGH,oA,kD]) (by simp;omega) (by simp [maxLen];omega)
    have nb:∀b,s.blk b→b≠p2.block:=fun b hb e=>o2 (by rw [← e];exact (hF b).2 (.inr (.inl hb)))
    have hbox6:=hbox5.ext E7 hS.n2
    have hmap6:=hmap5.ext E7 hS.n3
    have b6:=b45.ext E7 (fun h=>nb _ h rfl)
    refine ⟨s1,w6,hr6,⟨hbox6.cell0,by rw [← hn];exact b6.row⟩,p,rfl,hbox6.canW0 (by simp),?_⟩
    intro w7 hw7
    have hbox7:Box w7 p [s1.v,.map (some m)] 96:=by rw [hw7];exact hbox6.set0
    have E8:Ext (·=p.block) w6 w7:=by rw [hw7];exact Ext.setCell p _
    clear hw7
    have hs1p:¬ s1.blk p.block:=fun h=>(hb6 _ h).elim hS.n2 (fun h=>by have:=hbox5.lt;omega)
    have hs1m:¬ s1.blk m:=fun h=>(hb6 _ h).elim hS.n3 (fun h=>by have:=hmap5.lt;omega)
    have hrows7:=hrows6.ext E8 (fun b hb e=>hs1p (by rw [← e];exact hb))
    have hmap7:=hmap6.ext E8 hS.n1
    have b7:=b6.ext E8 (fun e=>o2 (by rw [e];exact (hF _).2 (.inl rfl)))
    have hl1:(s1.len:Int)=L.length+1:=by rw [hrows6.len];simp
    refine ⟨p,rfl,s1,hbox7.cell0,?_⟩
    refine ⟨fun w'=>w'.cell? (p.add 1)=some (.map (some m))∧Row w' p2 (oA n),⟨?_,?_⟩,?_⟩
    ·exact Ext.cell (F:=None) (Ext.drew w7) (hbox7.cell (i:=1) rfl) id
    ·rw [← hn];exact Ext.row (F:=None) (Ext.drew w7) b7.row id
    intro w8 hw8
    have E9:Pure w7 w8:=by rw [hw8];exact Ext.drew w7
    clear hw8
    refine ⟨p,rfl,some m,fun w' h=>h.1,k,f,t,u,x,a,b,fun w' h=>by have:=h.2;rw [← hn] at this;exact this,?_⟩
    rw [hkey,hl1]
    have hmap8:CMap w8 m (yL L):=hmap7.ext E9 id
    obtain ⟨w9,hr9,hmap9,E10⟩:=hmap8.insert (P:=prog) (v:=.int .i64 ((L.length:Int)+1)) underlying93 gV lY ⟨n,rfl⟩ hnot
    refine ⟨w9,hr9,hK _ _ _ ?_⟩
    rw [hmk]
    have hbox9:=(hbox7.pure E9).ext E10 (fun e=>hS.n1 e.symm)
    have hrows9:=(hrows7.pure E9).ext E10 (fun b hb e=>hs1m (by rw [← e];exact hb))
    refine ⟨rfl,fun b=>b=p.block∨s1.blk b∨b=m,⟨s1,m,⟨hbox9,?_,?_,hS.n1,hs1p,hs1m⟩,fun _=>Iff.rfl⟩,?_,?_⟩
    ·simpa using hrows9
    ·rw [jHO];simpa using hmap9
    ·have hF':∀b,F b↔(b=p.block∨s.blk b∨b=m):=hF
     have Ea:Ext F w w5:=((E4.trans E5).trans E6).pure
     have Eb:Ext F w w6:=Ea.trans' E7 (fun i _ h=>(hF' i).2 (.inr (.inl h)))
     have Ec:Ext F w w7:=Eb.trans' E8 (fun i _ h=>(hF' i).2 (.inl h))
     have Ed:Ext F w w8:=Ec.thenPure E9
     exact Ed.trans' E10 (fun i _ h=>(hF' i).2 (.inr (.inr h)))
    ·intro b hb
     rcases hb with rfl | hb | rfl
     ·exact .inl ((hF _).2 (.inl rfl))
     ·rcases hb6 b hb with h | h
      ·exact .inl ((hF _).2 (.inr (.inl h)))
      ·right;have:=((E4.trans E5).trans E6).size;omega
     ·exact .inl ((hF _).2 (.inr (.inr rfl)))
  ·obtain ⟨e,he,hen,rfl⟩:=jJL hi
   refine ⟨_,_,hrun,Br.t rfl (hK _ _ _ ?_)⟩
   have hfd:=jIF hok he
   rw [hen] at hfd
   have:Sp.make L n=((i:Int)+1,0,L):=by unfold Sp.make;simp [← hck,hfd]
   rw [this];exact ⟨by simp,oZ _ E4⟩
def kK (t:Sp.Tree) (s:Sl):List Value:=[.int .i64 t.node.kind,.int .i64 t.node.frm,.int .i64 t.node.to,.int .u64 t.node.num,.string t.node.text,s.v]
inductive TreeAt (S:NP) (w:World):Sl→Sp.Tree→Prop
 | mk (k f t u : Int) (x : ByteArray) (ks : List Sp.Tree) (s : Sl) (rs : Nat → Sl) (len : s.len = ks.length) (fit : ks.length ≤ 9223372036854775807)
   (row:∀i (h:i<ks.length),∃a,At s i 6 a∧S a.block∧Row w a (kK ks[i] (rs i))) (kid:∀i (h:i<ks.length),TreeAt S w (rs i) ks[i]):TreeAt S w s (.mk k f t u x ks)
theorem TreeAt.ext {S F:NP} {w w':World} {s:Sl} {t:Sp.Tree} (h:TreeAt S w s t) (hE:Ext F w w') (hd:∀b,S b→¬ F b):TreeAt S w' s t:=by
 induction h with
 | mk k f t u x ks s rs len fit row kid ih =>
  exact .mk k f t u x ks s rs len fit (fun i h=>let ⟨a,h1,h2,h3⟩:=row i h;⟨a,h1,h2,hE.row h3 (hd _ h2)⟩) ih
theorem TreeAt.pure {S:NP} {w w':World} {s:Sl} {t:Sp.Tree} (h:TreeAt S w s t) (hE:Pure w w'):TreeAt S w' s t:=h.ext hE (fun _ _ h=>h)
theorem TreeAt.mono {S S':NP} {w:World} {s:Sl} {t:Sp.Tree} (h:TreeAt S w s t) (hd:∀b,S b→S' b):TreeAt S' w s t:=by
 induction h with
 | mk k f t u x ks s rs len fit row kid ih =>
  exact .mk k f t u x ks s rs len fit (fun i h=>let ⟨a,h1,h2,h3⟩:=row i h;⟨a,h1,hd _ h2,h3⟩) ih
theorem TreeAt.lt {S:NP} {w:World} {s:Sl} {t:Sp.Tree} (h:TreeAt S w s t):TreeAt (fun b=>S b∧b<w.heap.size) w s t:=by
 induction h with
 | mk k f t u x ks s rs len fit row kid ih =>
  refine .mk k f t u x ks s rs len fit (fun i h=>let ⟨a,h1,h2,h3⟩:=row i h;⟨a,h1,⟨h2,?_⟩,h3⟩) ih
  have:=h3 0 (by simp [kK])
  unfold World.cell? at this
  refine Classical.byContradiction fun hge=>?_
  have:w.heap[(a.add 0).block]?=none:=by rw [zN];exact Array.getElem?_eq_none (by omega)
  simp_all [kK]
theorem jEU (k f t u:Int) (x:ByteArray) (s:Sl) (w:World) :
  Calls prog 107 #[.agg #[.int .i64 k,.int .i64 f,.int .i64 t,.int .u64 u,.string x,s.v]] w
   (fun e w'=>∃k':Int,∃f':Int,∃t':Int,∃u':Int,∃x':ByteArray,∃a:Int,∃b:Int,e=.returned (.agg #[.int .i64 k',.int .i64 f',.int .i64 t',.int .u64 u',.string x',.int .i64 a,.int .i64 b])∧((⟨k',f',t',u',x',a,b⟩:Sp.Node)=⟨k,f,t,u,x,0,0⟩∧Pure w w')):=by
 refine w_G2 _ _ _ _ _ _ w (fun k' f' t' u' x' a b w'=>(⟨k',f',t',u',x',a,b⟩:Sp.Node)=⟨k,f,t,u,x,0,0⟩∧Pure w w') ?_
 unfold m_G2
 intro p1 w1 h1 p2 w2 h2
 have E1:Pure w w1:=Ext.new h1
 have b1:=(Box.of_new h1).pure (Ext.new h2)
 refine ⟨_,b1.cell0,_,b1.cell rfl,_,b1.cell rfl,_,b1.cell rfl,_,b1.cell rfl,?_⟩
 exact bx 7 (Box.of_new h2) rfl rfl (fun w' b E=>⟨_,_,_,_,_,_,_,b.row,rfl,(E1.trans (Ext.new h2)).own (New.own E1 h2) E⟩)
theorem tE (t:Sp.Tree):∀i n:Int,0≤n→0≤(Sp.looks i n t).2:=by
 induction t using Sp.Tree.ind with
 | h k f t u x ks ih =>
  have:∀(ks:List Sp.Tree),(∀i (hi:i<ks.length),∀j n:Int,0≤n→0≤(Sp.looks j n ks[i]).2)→∀i e n:Int,0≤n→0≤(Sp.zE i e n ks).2:=by
   intro ks;induction ks with
   | nil=>intro _ i e n h;simpa [Sp.zE] using h
   | cons t ts iht =>
    intro hh i e n h
    unfold Sp.zE
    split
    ·exact iht (fun i hi=>hh (i+1) (by simpa using hi)) _ _ _ (hh 0 (by simp) i n h)
    ·exact h
  intro i n h
  unfold Sp.looks
  split
  ·exact h
  ·split
   ·exact h
   ·exact this ks ih _ _ _ (by omega)
theorem gE {ks:List Sp.Tree} {j:Nat} (hj:j<ks.length) (i n:Int):Sp.zE i 0 n (ks.drop j)=Sp.zE i (Sp.looks i n ks[j]).1 (Sp.looks i n ks[j]).2 (ks.drop (j+1)):=by
 rw [List.drop_eq_getElem_cons hj,Sp.zE,if_pos rfl]
theorem xG {ks:List Sp.Tree} {e:Int} (h:e≠0) (i n:Int):Sp.zE i e n ks=(e,n):=by
 cases ks <;> simp [Sp.zE,h]
theorem jMG {S:NP} (q:Addr) (hq:¬ S q.block) (T:TypeId) (t:Sp.Tree):∀(s:Sl) (inside seen:Int) (w:World),0≤inside→0≤seen→TreeAt S w s t→Box w q [.int .i64 seen] T →
  Calls prog 54 #[.agg (kK t s).toArray,.int .i64 inside,.pointer (some q)] w
   (fun e w'=>∃r:Int,e=.returned (.int .i64 r)∧(r=(Sp.looks inside seen t).1∧Box w' q [.int .i64 (Sp.looks inside seen t).2] T∧Ext (·=q.block) w w')):=by
 induction t using Sp.Tree.ind with
 | h k f t u x ks ih =>
 intro s inside seen w hi0 hn0 hT hB
 suffices key:∀K:Int→WP,(∀r w',(r=(Sp.looks inside seen (.mk k f t u x ks)).1∧Box w' q [.int .i64 (Sp.looks inside seen (.mk k f t u x ks)).2] T∧Ext (·=q.block) w w')→K r w')→m_H k f t u x s inside (some q) w K from
  w_H _ _ _ _ _ _ _ _ w _ (key _ (fun _ _ h=>h))
 intro K hK
 unfold m_H
 intro p1 w1 h1
 have b1:=Box.of_new h1
 have E1:Pure w w1:=Ext.new h1
 have n1:q.block≠p1.block:=New.ne h1 hB.blk
 have hB1:=hB.pure E1
 have hT1:=hT.pure E1
 refine ⟨q,rfl,seen,hB1.cell0,fun h=>?_,fun h=>⟨fun h'=>?_,fun h'=>?_⟩⟩
 ·have h:=of_decide_eq_true h
  have:Sp.looks inside seen (.mk k f t u x ks)=(52,seen):=by rw [Sp.looks,if_pos (by omega)]
  rw [this] at hK;exact hK _ _ ⟨rfl,hB1,E1.pure⟩
 ·have h:=of_decide_eq_false h;have h':=of_decide_eq_true h'
  have:Sp.looks inside seen (.mk k f t u x ks)=(52,seen):=by rw [Sp.looks,if_neg (by omega),if_pos (by omega)]
  rw [this] at hK;exact hK _ _ ⟨rfl,hB1,E1.pure⟩
 have h:=of_decide_eq_false h;have h':=of_decide_eq_false h'
 have hsp:Sp.looks inside seen (.mk k f t u x ks)=Sp.zE (inside+1) (Sp.zW ⟨k,f,t,u,x,0,0⟩ ks.length) (seen+1) ks:=by rw [Sp.looks,if_neg (by omega),if_neg (by omega)]
 rw [hsp] at hK
 unfold m_H_j1
 refine ⟨q,rfl,seen,hB1.cell0,q,rfl,hB1.canW0 (by simp),?_⟩
 rw [i64 (n:=seen+1) (by omega) (by omega)]
 intro w2 hw2
 have hB2:Box w2 q [.int .i64 (seen+1)] T:=by rw [hw2];exact hB1.set0
 have E12:Ext (·=q.block) w1 w2:=by rw [hw2];exact Ext.setCell q _
 clear hw2
 have b2:=b1.ext E12 (fun e=>n1 e.symm)
 have hT2:=hT1.ext E12 (fun b hb e=>hq (e▸hb))
 have E2:Ext (·=q.block) w w2:=E1.pure.trans E12
 refine ⟨_,_,_,_,_,_,b2.row,?_⟩
 refine (jEU _ _ _ _ _ _ w2).mono ?_
 rintro _ w3 ⟨k',f',t',u',x',a',b',rfl,hn,E23⟩
 cases hn
 refine ⟨_,_,_,_,_,_,_,rfl,?_⟩
 intro p2 w4 h4
 have n2:p1.block≠p2.block:=New.ne h4 (b2.pure E23).blk
 have E24:Pure w2 w4:=E23.trans (Ext.new h4)
 have o2:=New.own E23 h4
 refine bx 7 (Box.of_new h4) rfl rfl (fun w5 c2 E45=>?_)
 have E25:Pure w2 w5:=E24.own o2 E45
 refine ⟨_,_,_,_,_,_,_,c2.row,?_⟩
 refine (jIO _ _ _ _ _ _ _ w5).mono ?_
 rintro _ w6 ⟨s1,s2,s3,s4,s5,pe,rfl,⟨hs,hpe⟩,E56⟩
 refine ⟨_,_,_,_,_,_,rfl,?_⟩
 intro p3 w7 h7
 have n3:p2.block≠p3.block:=New.ne h7 (c2.pure E56).blk
 have E27:Pure w2 w7:=(E25.trans E56).trans (Ext.new h7)
 have o3:=New.own (E25.trans E56) h7
 refine bx 5 (Box.of_new h7) rfl rfl (fun w8 c3 E78=>?_)
 have E28:Pure w2 w8:=E27.own o3 E78
 have d2:=((c2.pure E56).pure (Ext.new h7)).ext E78 n3
 have d1:=b2.pure E28
 have hB8:=hB2.pure E28
 have hT8:=hT2.pure E28
 have E8:Ext (·=q.block) w w8:=E2.thenPure E28
 clear E78 E27 E56 E25 E45 E24 E23 E12 c2 b2 b1 hT2 hT1 hB1 h1 h4 h7
 have hlen:s.len=ks.length:=by cases hT;assumption
 have hfit:ks.length≤9223372036854775807:=by cases hT;assumption
 have hsh:Sp.shapeOf k=⟨s1,s2,s3,s4,s5⟩:=hs.symm
 have J3:∀e w',Pure w8 w'→e=Sp.zW ⟨k,f,t,u,x,0,0⟩ ks.length→m_H_j3 inside (some q) p1 e w' K:=by
  intro e w' E hown;rw [← hown] at hK;unfold m_H_j3;refine ⟨fun e i w'=>∃j:Nat,i=j∧j≤ks.length∧∃n:Int,0≤n∧Ext (·=q.block) w8 w'∧Box w' q [.int .i64 n] T∧Sp.zE (inside+1) e n (ks.drop j)=Sp.zE (inside+1) (Sp.zW ⟨k,f,t,u,x,0,0⟩ ks.length) (seen+1) ks,fun _ i _=>((ks.length:Int) - i).toNat,⟨0,rfl,Nat.zero_le _,seen+1,by omega,E.pure,hB8.pure E,by rw [hown];rfl⟩,?_⟩;rintro e1 _ wl ⟨j,rfl,hj,n,hn,El,hBl,heq⟩;unfold m_H_l4;have dl:=d1.ext El (fun e=>n1 e.symm);have hTl:=hT8.ext El (fun b hb e=>hq (e▸hb));rw [← hown] at heq;have fin:∀n',Sp.zE (inside+1) e ((seen:Int)+1) ks=(e1,n')→n'=n→K e1 wl:=by
   rintro n' h rfl;refine hK _ _ ⟨by rw [h],by rw [h];exact hBl,E8.trans El⟩
  refine ⟨s,dl.cell rfl,fun hlt=>⟨fun he=>?_,fun he=>?_⟩,fun hlt=>?_⟩
  ·have hlt:j<ks.length:=by have h:=of_decide_eq_true hlt;omega
   have he:e1=0:=by simpa using he
   subst he;cases hTl with
   | mk _ _ _ _ _ _ _ rs len fit row kid =>
   obtain ⟨a,hat,ha,hr⟩:=row j hlt;refine ⟨s,dl.cell rfl,a,hat,_,_,_,_,_,rs j,hr,?_⟩;rw [i64 (n:=inside+1) (by omega) (by omega)];refine (ih j hlt (rs j) (inside+1) n wl (by omega) hn (kid j hlt) hBl).mono ?_;rintro _ w9 ⟨r,rfl,rfl,hB9,E9⟩;rw [gE hlt] at heq;refine ⟨_,rfl,⟨j+1,?_,hlt,_,tE _ _ _ hn,El.trans E9,hB9,by rw [← hown];exact heq⟩,?_⟩
   ·rw [i64 (by omega) (by omega)];omega
   ·show ((ks.length:Int) - IntKind.i64.wrap ((j:Int)+1)).toNat<((ks.length:Int) - (j:Int)).toNat;rw [i64 (by omega) (by omega)];omega
  ·have he:e1≠0:=by simpa using he
   rw [xG he] at heq;exact fin _ heq.symm rfl
  ·have hge:j=ks.length:=by have h:=of_decide_eq_false hlt;omega
   rw [hge,List.drop_length,Sp.zE] at heq;exact fin _ heq.symm rfl
 have J2:∀e1,e1=(if pe=0 then if (ks.length:Int)≠s5 then 53 else 0 else pe)→m_H_j2 inside (some q) p1 p2 p3 e1 w8 K:=by
  intro e1 he1;have hown:Sp.zW ⟨k,f,t,u,x,0,0⟩ ks.length=if e1=0 then Sp.jV ⟨s1,s2,s3,s4,s5⟩ ⟨k,f,t,u,x,0,0⟩ else e1:=by
   unfold Sp.zW;simp only [hsh,← hpe,he1]
  unfold m_H_j2;refine ⟨fun h=>⟨_,_,_,_,_,c3.row,_,_,_,_,_,_,_,d2.row,?_⟩,fun h=>J3 _ _ (Ext.refl _) ?_⟩
  ·have h:e1=0:=by simpa using h
   refine (jEW _ _ _ _ _ _ _ _ _ _ _ _ _).mono ?_;rintro _ w9 ⟨_,rfl,rfl,E9⟩;exact ⟨_,rfl,J3 _ _ E9 (by rw [hown,if_pos h])⟩
  ·have h:e1≠0:=by simpa using h
   rw [hown,if_neg h]
 refine ⟨fun h=>⟨s,d1.cell rfl,s5,c3.cell rfl,fun h5=>J2 _ ?_,fun h5=>J2 _ ?_⟩,fun h=>J2 _ ?_⟩
 ·have h:pe=0:=by simpa using h
  have h5:(s.len:Int)≠s5:=by simpa using h5
  rw [if_pos h,if_pos (by omega)]
 ·have h:pe=0:=by simpa using h
  have h5:(s.len:Int)=s5:=by simpa using h5
  rw [if_pos h,if_neg (by omega),h]
 ·have h:pe≠0:=by simpa using h
  rw [if_neg h]
theorem c_New (w:World):Calls prog 11 #[] w (fun e w'=>∃r:Option Addr,e=.returned (.pointer r)∧∃p,r=some p∧Pure w w'∧∃F,zP w' p [] F∧∀b,F b→w.heap.size≤b):=by
 refine w_B2 w (fun r w'=>∃p,r=some p∧Pure w w'∧∃F,zP w' p [] F∧∀b,F b→w.heap.size≤b) ?_;unfold m_B2;intro p1 w1 h1 p2 w2 h2;have E1:Pure w w1:=Ext.new h1;have m2:CMap w2 p1.block []:=(CMap.of_new h1).ext (Ext.new h2:Pure w1 w2) id;have n12:p1.block≠p2.block:=New.ne h2 h1.block_new;refine ⟨p2,rfl,E1.trans (Ext.new h2),fun b=>b=p2.block∨Sl.nil.blk b∨b=p1.block,⟨Sl.nil,p1.block,⟨Box.of_new h2,by simpa using Rws.nil _ _ _,by simpa [yL] using m2,n12,?_,?_⟩,fun _=>Iff.rfl⟩,?_⟩
 ·rintro ⟨a,h,_⟩;cases h
 ·rintro ⟨a,h,_⟩;cases h
 ·rintro b (rfl | ⟨a,h,_⟩ | rfl)
  ·exact New.own E1 h2
  ·cases h
  ·exact New.own (Ext.refl w) h1
theorem jHN (L:Sp.Pool) (n:Nat):yL (L.take n)=(yL L).take n:=by
 apply List.ext_getElem?;intro i;simp only [yL,List.getElem?_map,List.getElem?_zipIdx,List.getElem?_take];split <;> simp
theorem jJM (L:Sp.Pool):(yL L).map (·.1)=(L.map (·.node)).map oD:=by
 apply List.ext_getElem?;intro i;simp only [yL,List.getElem?_map,List.getElem?_zipIdx];cases L[i]? <;> simp
theorem c_cut (p:Addr) (n:Nat) (w:World) {L:Sp.Pool} {F:NP} (hP:zP w p L F) (hok:Sp.Ok L) (hn:n≤L.length) :
  Calls prog 56 #[.pointer (some p),.int .i64 n] w (fun e w'=>e=.returned (.tuple #[])∧zP w' p (L.take n) F∧Ext F w w'):=by
 suffices key:∀K:WP,(∀w',zP w' p (L.take n) F∧Ext F w w'→K w')→m_F1 (some p) n w K from
  w_F1 _ _ w _ (key _ (fun _ h=>h))
 intro K hK
 unfold m_F1
 obtain ⟨s,m,hS,hF⟩:=hP
 have hfew:=hok.few
 have hcap:s.len≤s.cap:=by
  have:=hS.rows.len;rcases hS.rows.own with ⟨rfl,_⟩ | ⟨g,cur,_,_,hc,_⟩
  ·simp [Sl.nil]
  ·omega
 obtain ⟨s1,hr1,hl1⟩:=hS.rows.lst.lo (P:=prog) lR hcap (k:=.i64) (n:=n) (by omega) (by simpa using hn)
 have hlen1:s1.len=L.length - n:=by rw [hl1.len];simp
 refine ⟨p,rfl,s,hS.box.cell0,s1,hr1,?_⟩
 refine ⟨fun x w'=>∃j:Nat,x=j∧j≤L.length - n∧Ext (·=m) w w'∧CMap w' m ((yL L).take n++(yL L).drop (n+j)),fun x _=>((L.length:Int) - x).toNat,⟨0,rfl,Nat.zero_le _,Ext.refl w,by simpa using hS.map⟩,?_⟩
 rintro _ wl ⟨j,rfl,hj,El,hml⟩
 have hboxl:=hS.box.ext El hS.n1.symm
 have hrowsl:=hS.rows.ext El (fun b hb e=>hS.n3 (e▸hb))
 unfold m_F1_l1
 refine ⟨fun h=>?_,fun h=>?_⟩
 ·have hlt:n+j<L.length:=by have h:=of_decide_eq_true h;omega
  have hll:=hl1.ext El (fun b hb e=>hS.n3 (e▸hb))
  obtain ⟨a,hat,_,hrow⟩:=hll.at_ j (by simp;omega)
  generalize he:L[n+j]=e at *
  have hrow':Row wl a (jGH e):=by
   have:((L.map jGH).drop ((n:Int).toNat))[j]'(by simp;omega)=jGH e:=by simp [he]
   rw [this] at hrow;exact hrow
  obtain ⟨nd,sz,dp⟩:=e
  obtain ⟨k,f,t,u,x,a1,b1⟩:=nd
  refine ⟨a,hat,_,_,_,_,_,_,_,_,_,hrow',?_⟩
  intro p2 w1 h1
  have E1:Pure wl w1:=Ext.new h1
  have o1:=New.own (Ext.refl wl) h1
  refine bx 9 (Box.of_new h1) rfl rfl (fun w2 b2 E=>?_)
  have E2:Pure wl w2:=E1.own o1 E
  refine ⟨fun w'=>w'.cell? (p.add 1)=some (.map (some m))∧Row w' p2 (oA ⟨k,f,t,u,x,a1,b1⟩),⟨(hboxl.pure (E2.thenPure (Ext.drew w2))).cell (i:=1) rfl,?_⟩,?_⟩
  ·have : Row w2 p2 (oA ⟨k, f, t, u, x, a1, b1⟩) := fun i hi => by
    have:=b2.row i (by simp [oA] at hi ⊢;omega);rw [this];have h7:i<7:=by simpa [oA] using hi
    have:i=0∨i=1∨i=2∨i=3∨i=4∨i=5∨i=6:=by omega
    rcases this with rfl | rfl | rfl | rfl | rfl | rfl | rfl <;> rfl
   exact Ext.row (F:=None) (Ext.drew w2) this id
  intro w3 hw3
  have E3:Pure wl w3:=by rw [hw3];exact E2.thenPure (Ext.drew w2)
  clear hw3
  refine ⟨p,rfl,some m,fun w' h=>h.1,k,f,t,u,x,a1,b1,fun w' h=>h.2,?_⟩
  have hm3:=hml.ext E3 id
  have hpl:(yL L).length=L.length:=by simp [yL]
  have hget:(yL L)[n+j]?=some (oD ⟨k,f,t,u,x,a1,b1⟩,.int .i64 (n+j+1:Nat)):=by
   simp only [yL,List.getElem?_map,List.getElem?_zipIdx,List.getElem?_eq_getElem hlt,he];simp
  have hidx:((yL L).take n++(yL L).drop (n+j))[n]?=some (oD ⟨k,f,t,u,x,a1,b1⟩,.int .i64 (n+j+1:Nat)):=by
   have e0:n+j+(n - ((yL L).take n).length)=n+j:=by rw [List.length_take];omega
   rw [List.getElem?_append_right (by rw [List.length_take];omega),List.getElem?_drop,e0,hget]
  have hnd:((yL L).map (·.1)).Nodup:=by
   rw [jJM,List.nodup_iff_pairwise_ne,List.pairwise_map];exact hok.nodup.imp (fun h e=>h (jAF.1 e))
  have hsub:List.Sublist ((yL L).take n++(yL L).drop (n+j)) (yL L):=by
   conv=>rhs;rw [← List.take_append_drop n (yL L)]
   refine (List.Sublist.refl _).append ?_;have e0:(yL L).drop (n+j)=((yL L).drop n).drop j:=by rw [List.drop_drop]
   rw [e0];exact List.drop_sublist _ _
  have hnd2:(((yL L).take n++(yL L).drop (n+j)).map (·.1)).Nodup:=hnd.sublist (hsub.map _)
  obtain ⟨w4,hr4,hm4,E4⟩:=hm3.delete (P:=prog) (Q:=103) (z:=0) underlying93 gV (fun q hq=>lY q (hsub.subset hq)) ⟨_,rfl⟩ hidx (fun i u hi=>by
   obtain ⟨hi1,hi2⟩:=List.getElem?_eq_some_iff.1 hi;obtain ⟨hn1,hn2⟩:=List.getElem?_eq_some_iff.1 hidx;refine Classical.byContradiction fun hne=>?_;have hne:=List.pairwise_iff_getElem.1 hnd2;rcases Nat.lt_or_gt_of_ne ‹_› with hlt | hlt
   ·exact hne i n (by simpa using hi1) (by simpa using hn1) hlt (by rw [List.getElem_map,List.getElem_map,hi2,hn2])
   ·exact hne n i (by simpa using hn1) (by simpa using hi1) hlt (by rw [List.getElem_map,List.getElem_map,hi2,hn2]))
  refine ⟨w4,hr4,⟨j+1,?_,by omega,(El.trans E3.pure).trans E4,?_⟩,?_⟩
  ·rw [i64 (by omega) (by omega)];omega
  ·rw [List.eraseIdx_append_of_length_le (by rw [List.length_take];omega)] at hm4
   have:n - ((yL L).take n).length=0:=by rw [List.length_take];omega
   rw [this] at hm4
   have hd:((yL L).drop (n+j)).eraseIdx 0=(yL L).drop (n+(j+1)):=by
    rw [List.drop_eq_getElem_cons (by omega)];simp;rfl
   rw [hd] at hm4;exact hm4
  ·show ((L.length:Int) - IntKind.i64.wrap ((j:Int)+1)).toNat<((L.length:Int) - (j:Int)).toNat
   rw [i64 (by omega) (by omega)];omega
 ·have hge:n+j=L.length:=by have h:=of_decide_eq_false h;omega
  have hpl:(yL L).length=L.length:=by simp [yL]
  rw [hge,← hpl,List.drop_length,List.append_nil] at hml
  obtain ⟨s2,hr2,hrows2,hb2⟩:=hrowsl.hi (P:=prog) lR (k:=.i64) (n:=n) (by omega) (by simpa using hn)
  refine ⟨p,rfl,s,hboxl.cell0,s2,hr2,p,rfl,hboxl.canW0 (by simp),?_⟩
  rintro w5 hw5
  have hbox5:Box w5 p [s2.v,.map (some m)] 96:=by rw [hw5];exact hboxl.set0
  have E5:Ext (·=p.block) wl w5:=by rw [hw5];exact Ext.setCell p _
  clear hw5
  refine hK _ ⟨⟨s2,m,⟨hbox5,?_,?_,hS.n1,fun h=>hS.n2 ((hb2 _).1 h),fun h=>hS.n3 ((hb2 _).1 h)⟩,fun b=>by rw [hF b,hb2 b]⟩,?_⟩
  ·have:=hrows2.ext E5 (fun b hb e=>hS.n2 (by rw [← e];exact (hb2 _).1 hb))
   simpa using this
  ·rw [jHN];exact hml.ext E5 hS.n1
  ·exact (El.mono (fun i _ h=>(hF i).2 (.inr (.inr h)))).trans' E5 (fun i _ h=>(hF i).2 (.inl h))
theorem oG {n:Sp.Node} {i:Nat} {L:Sp.Pool} {t:Sp.Tree} {ts:List Sp.Tree} (h:(Sp.grow L t).2.1≠0):Sp.jZ n i L (t :: ts)=(0,(Sp.grow L t).2.1,(Sp.grow L t).2.2):=by rw [Sp.jZ,if_pos h]
theorem xH {n:Sp.Node} {i:Nat} {L:Sp.Pool} {t:Sp.Tree} {ts:List Sp.Tree} (h:(Sp.grow L t).2.1=0):Sp.jZ n i L (t :: ts)=Sp.jZ (if i=0 then { n with a:=(Sp.grow L t).1 } else { n with b:=(Sp.grow L t).1 }) (i+1) (Sp.grow L t).2.2 ts:=by rw [Sp.jZ,if_neg (by simp [h])]
def Sp.Tree.two (t:Sp.Tree):Prop:=Sp.Tree.rec (motive_1:=fun _=>Prop) (motive_2:=fun _=>Prop) (fun _ _ _ _ _ ks h=>ks.length≤2∧h) True (fun _ _ h1 h2=>h1∧h2) t
def jBD:List Sp.Tree→Prop
 | []=>True
 | t :: ts=>Sp.Tree.two t∧jBD ts
theorem jGQ {k f t u:Int} {x:ByteArray} {ks:List Sp.Tree}:Sp.Tree.two (.mk k f t u x ks)↔ks.length≤2∧jBD ks:=by
 have:∀ks:List Sp.Tree,(Sp.Tree.rec_1 (motive_1:=fun _=>Prop) (motive_2:=fun _=>Prop) (fun _ _ _ _ _ ks h=>ks.length≤2∧h) True (fun _ _ h1 h2=>h1∧h2) ks:Prop)=jBD ks:=by
  intro ks;induction ks with
  | nil=>rfl
  | cons t ts ih=>show (Sp.Tree.two t∧_)=(Sp.Tree.two t∧_);rw [ih]
 show (ks.length≤2∧_)↔_;rw [this]
theorem oW {ks:List Sp.Tree} (h:jBD ks) {i:Nat} (hi:i<ks.length):Sp.Tree.two ks[i]:=by
 induction ks generalizing i with
 | nil=>simp at hi
 | cons t ts ih =>
  cases i with
  | zero=>exact h.1
  | succ i=>exact ih h.2 (by simpa using hi)
theorem c_grow {S:NP} (p:Addr) (t:Sp.Tree):∀(s:Sl) (w:World) (L:Sp.Pool) (F:NP),Sp.Tree.two t→TreeAt S w s t→zP w p L F→Sp.Ok L→(∀b,F b→¬ S b)→(∀b,S b→b<w.heap.size) →
  Calls prog 55 #[.pointer (some p),.agg (kK t s).toArray] w
   (fun e w'=>∃r1:Int,∃r2:Int,e=.returned (.tuple #[.int .i64 r1,.int .i64 r2])∧((r1,r2)=((Sp.grow L t).1,(Sp.grow L t).2.1)∧∃F',zP w' p (Sp.grow L t).2.2 F'∧Ext F w w'∧∀b,F' b→F b∨w.heap.size≤b)):=by
 induction t using Sp.Tree.ind with
 | h k f t u x ks ih =>
 intro s w L F h2 hT hP hok hFS hSw
 suffices key:∀K:Int→Int→WP,(∀r1 r2 w',((r1,r2)=((Sp.grow L (.mk k f t u x ks)).1,(Sp.grow L (.mk k f t u x ks)).2.1)∧∃F',zP w' p (Sp.grow L (.mk k f t u x ks)).2.2 F'∧Ext F w w'∧∀b,F' b→F b∨w.heap.size≤b)→K r1 r2 w')→m_E1 (some p) k f t u x s w K from
  w_E1 _ _ _ _ _ _ _ w _ (key _ (fun _ _ _ h=>h))
 intro K hK
 obtain ⟨hk2,hall⟩:=jGQ.1 h2
 unfold m_E1
 intro p2 w1 h1
 have b1:=Box.of_new h1
 have E1:Pure w w1:=Ext.new h1
 refine ⟨_,_,_,_,_,_,b1.row,?_⟩
 refine (jEU _ _ _ _ _ _ w1).mono ?_
 rintro _ w2 ⟨k',f',t',u',x',a',b',rfl,hn,E12⟩
 cases hn
 refine ⟨_,_,_,_,_,_,_,rfl,?_⟩
 intro p3 w3 h3
 have E3:Pure w w3:=(E1.trans E12).trans (Ext.new h3)
 have o3:=New.own (E1.trans E12) h3
 have n23:p2.block≠p3.block:=New.ne h3 (b1.pure E12).blk
 refine bx 7 (Box.of_new h3) rfl rfl (fun w4 b3 E34=>?_)
 have E4:Pure w w4:=E3.own o3 E34
 have b2:=((b1.pure E12).pure (Ext.new h3)).ext E34 n23
 intro p4 w5 h5
 have E5:Pure w w5:=E4.trans (Ext.new h5)
 have o4:=New.own E4 h5
 have n34:p3.block≠p4.block:=New.ne h5 b3.blk
 have c3:=b3.pure (Ext.new h5:Pure w4 w5)
 have c4:=Box.of_new h5
 have c2:=b2.pure (Ext.new h5:Pure w4 w5)
 refine ⟨s,c2.cell rfl,?_⟩
 have hsp:Sp.grow L (.mk k f t u x ks)=Sp.jZ ⟨k,f,t,u,x,0,0⟩ 0 L ks:=by rw [Sp.grow]
 rw [hsp] at hK
 have hlen:s.len=ks.length:=by cases hT;assumption
 refine ⟨fun i w'=>∃j:Nat,i=j∧j≤ks.length∧∃(nd:Sp.Node) (L':Sp.Pool) (F':NP),Sp.jZ ⟨k,f,t,u,x,0,0⟩ 0 L ks=Sp.jZ nd j L' (ks.drop j)∧Sp.Ok L'∧zP w' p L' F'∧(∀b,F' b→F b∨w.heap.size≤b)∧¬ F' p3.block∧¬ F' p4.block∧Ext F w w'∧Box w' p3 (oA nd) 103∧Box w' p4 [.pointer (some (p3.add 5)),.pointer (some (p3.add 6))] 174,fun i _=>((ks.length:Int) - i).toNat,
  ⟨0,rfl,Nat.zero_le _,⟨k,f,t,u,x,0,0⟩,L,F,by simp,hok,hP.pure E5,fun b h=>.inl h,fun h=>by have:=hP.lt h;omega,fun h=>by have:=hP.lt h;omega,E5.pure,c3,c4⟩,?_⟩
 rintro _ wl ⟨j,rfl,hj,nd,L',F',heq,hok',hPl,hF',hn3,hn4,El,d3,d4⟩
 unfold m_E1_l1
 refine ⟨fun h=>?_,fun h=>?_⟩
 ·have hlt:j<ks.length:=by have h:=of_decide_eq_true h;omega
  have hTl:TreeAt S wl s (.mk k f t u x ks):=hT.ext El (fun b hs hf=>hFS b hf hs)
  have hkid:∀i (h:i<ks.length),∃a r,At s i 6 a∧Row wl a (kK ks[i] r)∧TreeAt S wl r ks[i]:=by
   cases hTl with
   | mk _ _ _ _ _ _ _ rs len fit row kid=>exact fun i h=>let ⟨a,h1,_,h3⟩:=row i h;⟨a,rs i,h1,h3,kid i h⟩
  obtain ⟨a,r,hat,hrow,hTk⟩:=hkid j hlt
  refine ⟨a,hat,_,_,_,_,_,r,hrow,?_⟩
  intro p5 w6 h6
  have o5:=New.own (Ext.refl wl) h6
  refine bx 6 (Box.of_new h6) rfl rfl (fun w7 b5 E67=>?_)
  have E7:Pure wl w7:=Ext.own (Ext.new h6) o5 E67
  refine ⟨_,_,_,_,_,r,b5.row,?_⟩
  have hsz:w.heap.size≤wl.heap.size:=El.size
  refine (ih j hlt r w7 L' F' (oW hall hlt) (hTk.pure E7) (hPl.pure E7) hok' (fun b hb hs=>(hF' b hb).elim (fun h=>hFS b h hs) (fun h=>by have:=hSw b hs;omega)) (fun b hs=>by have:=hSw b hs;have:=E7.size;omega)).mono ?_
  rintro _ w8 ⟨r1,r2,rfl,hr,F8,hP8,E8,hF8⟩
  have e1:r1=(Sp.grow L' ks[j]).1:=congrArg Prod.fst hr
  have e2:r2=(Sp.grow L' ks[j]).2.1:=congrArg Prod.snd hr
  rw [List.drop_eq_getElem_cons hlt] at heq
  have hF8':∀b,F8 b→F b∨w.heap.size≤b:=fun b hb=>(hF8 b hb).elim (hF' b) (fun h=>by right;have:=E7.size;omega)
  have Ew8:Ext F w w8:=(El.thenPure E7).trans' E8 (fun i hi h=>(hF' i h).elim id (fun h=>by omega))
  refine ⟨_,_,rfl,fun h=>?_,fun h=>?_⟩
  ·have h:(Sp.grow L' ks[j]).2.1≠0:=by rw [← e2];simpa using h
   rw [oG h] at heq
   refine hK _ _ _ ?_
   rw [heq];exact ⟨by rw [e2],F8,hP8,Ew8,hF8'⟩
  ·have h:(Sp.grow L' ks[j]).2.1=0:=by rw [← e2];simpa using h
   rw [xH h] at heq
   have q3:=(d3.pure E7).ext E8 hn3
   have q4:=(d4.pure E7).ext E8 hn4
   have hs7:wl.heap.size≤w7.heap.size:=E7.size
   have n38:¬ F8 p3.block:=fun h=>(hF8 _ h).elim hn3 (fun h=>by have:=(d3.pure E7).lt;omega)
   have n48:¬ F8 p4.block:=fun h=>(hF8 _ h).elim hn4 (fun h=>by have:=(d4.pure E7).lt;omega)
   have hok8:=(Sp.yG ks[j] L' hok').1
   have fin : ∀ (w9 : World) (nd' : Sp.Node), nd' = (if j = 0 then { nd with a := (Sp.grow L' ks[j]).1 } else { nd with b := (Sp.grow L' ks[j]).1 }) → Box w9 p3 (oA nd') 103 → Ext (· = p3.block) w8 w9 →
     (∃j':Nat,IntKind.i64.wrap ((j:Int)+1)=j'∧j'≤ks.length∧∃(nd:Sp.Node) (L':Sp.Pool) (F':NP),Sp.jZ ⟨k,f,t,u,x,0,0⟩ 0 L ks=Sp.jZ nd j' L' (ks.drop j')∧Sp.Ok L'∧zP w9 p L' F'∧(∀b,F' b→F b∨w.heap.size≤b)∧¬ F' p3.block∧¬ F' p4.block∧Ext F w w9∧Box w9 p3 (oA nd) 103∧Box w9 p4 [.pointer (some (p3.add 5)),.pointer (some (p3.add 6))] 174)∧((ks.length:Int) - IntKind.i64.wrap ((j:Int)+1)).toNat<((ks.length:Int) - (j:Int)).toNat:=by
    intro w9 nd' hnd B9 E9
    rw [i64 (by omega) (by omega)]
    refine ⟨⟨j+1,by omega,hlt,nd',_,F8,by rw [heq,hnd],hok8,hP8.ext E9 (fun b hb e=>n38 (e▸hb)),hF8',n38,n48,Ew8.trans' E9 (fun i hi h=>by subst h;omega),B9,q4.ext E9 n34.symm⟩,by omega⟩
   have hj2:j=0∨j=1:=by omega
   rcases hj2 with rfl | rfl
   ·refine ⟨p4,⟨by omega,by simp,p4,rfl,rfl⟩,some (p3.add 5),q4.cell0,p3.add 5,rfl,q3.canW (by simp [oA]),?_⟩
    intro w9 hw9
    refine fin w9 _ rfl ?_ ?_
    ·rw [hw9,e1];exact q3.set 5 _
    ·rw [hw9];have:=Ext.setCell (w:=w8) (p3.add 5) (.int .i64 r1);rw [zN] at this;exact this
   ·refine ⟨p4.add 1,⟨by omega,by simp,p4,rfl,rfl⟩,some (p3.add 6),q4.cell rfl,p3.add 6,rfl,q3.canW (by simp [oA]),?_⟩
    intro w9 hw9
    refine fin w9 _ rfl ?_ ?_
    ·rw [hw9,e1];exact q3.set 6 _
    ·rw [hw9];have:=Ext.setCell (w:=w8) (p3.add 6) (.int .i64 r1);rw [zN] at this;exact this
 ·have hge:j=ks.length:=by have h:=of_decide_eq_false h;omega
  rw [hge,List.drop_length,Sp.jZ] at heq
  obtain ⟨k0,f0,t0,u0,x0,a0,b0⟩:=nd
  refine ⟨_,_,_,_,_,_,_,d3.row,?_⟩
  refine (c_Make p k0 f0 t0 u0 x0 a0 b0 wl hPl hok').mono ?_
  rintro _ w9 ⟨r1,r2,rfl,hr,F9,hP9,E9,hF9⟩
  have hsz:w.heap.size≤wl.heap.size:=El.size
  refine ⟨_,_,rfl,hK _ _ _ ?_⟩
  rw [heq]
  exact ⟨hr,F9,hP9,El.trans' E9 (fun i hi h=>(hF' i h).elim id (fun h=>by omega)),fun b hb=>(hF9 b hb).elim (hF' b) (fun h=>by right;omega)⟩
theorem jBR (t:Sp.Tree):∀i n:Int,(Sp.looks i n t).1=0→Sp.Tree.two t:=by
 induction t using Sp.Tree.ind with
 | h k f t u x ks ih =>
  have hA:∀(ks:List Sp.Tree),(∀i (hi:i<ks.length),∀j n:Int,(Sp.looks j n ks[i]).1=0→Sp.Tree.two ks[i])→∀i e n:Int,(Sp.zE i e n ks).1=0→e=0∧jBD ks:=by
   intro ks;induction ks with
   | nil=>intro _ i e n h;exact ⟨by simpa [Sp.zE] using h,trivial⟩
   | cons t ts iht =>
    intro hh i e n h
    unfold Sp.zE at h
    split at h
    ·rename_i he
     have:=iht (fun i hi=>hh (i+1) (by simpa using hi)) _ _ _ h
     exact ⟨he,hh 0 (by simp) i n this.1,this.2⟩
    ·rename_i he;exact absurd h he
  intro i n h
  unfold Sp.looks at h
  split at h
  ·cases h
  ·split at h
   ·cases h
   ·have:=hA ks ih _ _ _ h
    refine jGQ.2 ⟨?_,this.2⟩
    have ho:=this.1
    unfold Sp.zW at ho
    simp only at ho
    have hk:=Sp.yM k
    by_cases hp:Sp.jX ⟨k,f,t,u,x,0,0⟩=0
    ·rw [if_pos hp] at ho
     by_cases hl:(ks.length:Int)≠(Sp.shapeOf k).kids
     ·rw [if_pos hl] at ho;simp at ho
     ·omega
    ·rw [if_neg hp,if_neg hp] at ho;exact absurd ho hp
theorem c_Of {S:NP} (p:Addr) (t:Sp.Tree) (s:Sl) (w:World) {L:Sp.Pool} {F:NP} (hT:TreeAt S w s t) (hP:zP w p L F) (hok:Sp.Ok L) (hFS:∀b,F b→¬ S b) (hSw:∀b,S b→b<w.heap.size) :
  Calls prog 13 #[.pointer (some p),.agg (kK t s).toArray] w
   (fun e w'=>∃r1:Int,∃r2:Int,e=.returned (.tuple #[.int .i64 r1,.int .i64 r2])∧((r1,r2)=((Sp.of L t).1,(Sp.of L t).2.1)∧∃F',zP w' p (Sp.of L t).2.2 F'∧Ext F w w'∧∀b,F' b→F b∨w.heap.size≤b)):=by
 obtain ⟨k,f,to,u,x,ks⟩:=t
 suffices key:∀K:Int→Int→WP,(∀r1 r2 w',((r1,r2)=((Sp.of L (.mk k f to u x ks)).1,(Sp.of L (.mk k f to u x ks)).2.1)∧∃F',zP w' p (Sp.of L (.mk k f to u x ks)).2.2 F'∧Ext F w w'∧∀b,F' b→F b∨w.heap.size≤b)→K r1 r2 w')→m_R1 (some p) k f to u x s w K from
  w_R1 _ _ _ _ _ _ _ w _ (key _ (fun _ _ _ h=>h))
 intro K hK
 unfold m_R1
 intro p2 w1 h1
 have b1:=Box.of_new h1
 have E1:Pure w w1:=Ext.new h1
 refine Br.f rfl ?_
 intro p3 w2 h2
 have E2:Pure w w2:=E1.trans (Ext.new h2)
 have o3:=New.own E1 h2
 have c3:=Box.of_new h2
 have n23:p2.block≠p3.block:=New.ne h2 b1.blk
 refine ⟨c3.canW0 (by simp),?_⟩
 intro w3 hw3
 have c3':Box w3 p3 [.int .i64 0] 3:=by rw [hw3];exact c3.set0
 have E23:Ext (·=p3.block) w2 w3:=by rw [hw3];exact Ext.setCell p3 _
 clear hw3
 have E3:Pure w w3:=E2.own o3 E23
 have b3:=(b1.pure (Ext.new h2:Pure w1 w2)).ext E23 n23
 refine ⟨_,_,_,_,_,s,b3.row,?_⟩
 generalize ht:Sp.Tree.mk k f to u x ks=t at *
 have htr:(Value.agg #[.int .i64 k,.int .i64 f,.int .i64 to,.int .u64 u,.string x,s.v])=.agg (kK t s).toArray:=by rw [← ht];rfl
 rw [htr]
 refine (jMG p3 (fun h=>by have:=hSw _ h;omega) _ t s 0 0 w3 (by omega) (by omega) (hT.pure E3) c3').mono ?_
 rintro _ w4 ⟨r1,rfl,rfl,_,E34⟩
 have E4:Pure w w4:=E3.own o3 E34
 have b4:=b3.ext E34 n23
 have oZ:∀w',Pure w w'→∃F',zP w' p L F'∧Ext F w w'∧∀b,F' b→F b∨w.heap.size≤b:=fun w' E=>⟨F,hP.pure E,E.pure,fun _ h=>.inl h⟩
 refine ⟨_,rfl,fun h=>?_,fun h=>?_⟩
 ·have h:(Sp.looks 0 0 t).1≠0:=by simpa using h
  have:Sp.of L t=(0,(Sp.looks 0 0 t).1,L):=by rw [Sp.of,if_pos h]
  refine hK _ _ _ ?_
  rw [this];exact ⟨rfl,oZ _ E4⟩
 ·have h:(Sp.looks 0 0 t).1=0:=by simpa using h
  have hP4:=hP.pure E4
  obtain ⟨s0,m0,hS0,hF0⟩:=id hP4
  have hl0:s0.len=L.length:=by rw [hS0.rows.len];simp
  refine ⟨p,rfl,s0,hS0.box.cell0,_,_,_,_,_,s,b4.row,?_⟩
  rw [htr]
  refine (c_grow p t s w4 L F (jBR t _ _ h) (hT.pure E4) hP4 hok hFS (fun b hb=>by have:=hSw b hb;have:=E4.size;omega)).mono ?_
  rintro _ w5 ⟨r1,r2,rfl,hr,F5,hP5,E45,hF5⟩
  have e1:r1=(Sp.grow L t).1:=congrArg Prod.fst hr
  have e2:r2=(Sp.grow L t).2.1:=congrArg Prod.snd hr
  have hs4:w.heap.size≤w4.heap.size:=E4.size
  have E5:Ext F w w5:=E4.pure.trans E45
  have hF5':∀b,F5 b→F b∨w.heap.size≤b:=fun b hb=>(hF5 b hb).elim .inl (fun h=>.inr (by omega))
  refine ⟨_,_,rfl,fun h'=>?_,fun h'=>?_⟩
  ·have h':(Sp.grow L t).2.1≠0:=by rw [← e2];simpa using h'
   obtain ⟨hok5,M,hM⟩:=Sp.yG t L hok
   rw [hl0]
   refine (c_cut p L.length w5 hP5 hok5 (by rw [hM];simp)).mono ?_
   rintro _ w6 ⟨rfl,hP6,E56⟩
   have:Sp.of L t=(0,(Sp.grow L t).2.1,L):=by rw [Sp.of,if_neg (by simp [h]),if_pos h']
   refine ⟨rfl,hK _ _ _ ?_⟩
   rw [this]
   rw [hM,List.take_left] at hP6
   exact ⟨by rw [e2],F5,hP6,E5.trans' E56 (fun i hi h=>(hF5' i h).elim id (fun h=>by omega)),hF5'⟩
  ·have h':(Sp.grow L t).2.1=0:=by rw [← e2];simpa using h'
   have:Sp.of L t=((Sp.grow L t).1,0,(Sp.grow L t).2.2):=by rw [Sp.of,if_neg (by simp [h]),if_neg (by simp [h'])]
   refine hK _ _ _ ?_
   rw [this]
   exact ⟨by rw [e1],F5,hP5,E5,hF5'⟩
end Go.Proofs
end
section
open Go Go.SE
open Go.IntKind renaming i64 → q6
namespace Go.Proofs
set_option maxRecDepth 100000
set_option maxHeartbeats 4000000
attribute [local irreducible] wpL wpX opE wpE Calls
end Go.Proofs
end
section
open Go Go.SE
namespace Go.Sp
end Go.Sp
namespace Go.Proofs
attribute [local irreducible] Calls
theorem TreeAt.leaf {S:NP} {w:World} {k f t u:Int} {x:ByteArray}:TreeAt S w Sl.nil (.mk k f t u x []) :=
 .mk k f t u x [] Sl.nil (fun _=>Sl.nil) rfl (by simp) (fun i h=>by simp at h) (fun i h=>by simp at h)
theorem TreeAt.one {S:NP} {w:World} {k f t u:Int} {x:ByteArray} {p:Addr} {A:Sp.Tree} {sa:Sl} {T:TypeId} (hB:Box w p (kK A sa) T) (hS:S p.block) (hA:TreeAt S w sa A):TreeAt S w ⟨some p,1,1⟩ (.mk k f t u x [A]):=by
 refine .mk k f t u x [A] _ (fun _=>sa) rfl (by simp) (fun i h=>?_) (fun i h=>?_)
 ·have:i=0:=by simpa using h
  subst this;exact ⟨p,⟨by omega,by simp,p,rfl,rfl⟩,hS,hB.row⟩
 ·have:i=0:=by simpa using h
  subst this;exact hA
theorem TreeAt.pair {S:NP} {w:World} {k f t u:Int} {x:ByteArray} {p:Addr} {A B:Sp.Tree} {sa sb:Sl} {T:TypeId} (hB:Box w p (kK A sa++kK B sb) T) (hS:S p.block) (hA:TreeAt S w sa A) (hB2:TreeAt S w sb B):TreeAt S w ⟨some p,2,2⟩ (.mk k f t u x [A,B]):=by
 refine .mk k f t u x [A,B] _ (fun i=>if i=0 then sa else sb) rfl (by simp) (fun i h=>?_) (fun i h=>?_)
 ·have:i=0∨i=1:=by simp at h;omega
  rcases this with rfl | rfl
  ·refine ⟨p,⟨by omega,by simp,p,rfl,rfl⟩,hS,fun i hi=>?_⟩;have:=hB.row i (by simp [kK] at hi ⊢;omega);have hi':i<6:=by simpa [kK] using hi
   rw [this];exact List.getElem?_append_left (by simp [kK];omega)
  ·refine ⟨p.add (1*6),⟨by omega,by simp,p,rfl,rfl⟩,by rw [zN];exact hS,fun i hi=>?_⟩;have hi':i<6:=by simpa [kK] using hi
   have:=hB.row (6+i) (by simp [kK];omega);rw [qU,this,List.getElem?_append_right (by simp [kK])];simp [kK]
 ·have:i=0∨i=1:=by simp at h;omega
  rcases this with rfl | rfl
  ·exact hA
  ·exact hB2
abbrev RetT (n0:Nat) (w:World) (T:Sp.Tree) (e:Ending) (w':World):Prop:=∃s,e=.returned (.agg (kK T s).toArray)∧TreeAt (n0≤·) w' s T∧Pure w w'
end Go.Proofs
end
section
open Go Go.SE
namespace Go.Sp
end Go.Sp
namespace Go.Proofs
attribute [local irreducible] Calls
end Go.Proofs
end
section
namespace Go.Sp
end Go.Sp
end
section
open Go Go.SE
namespace Go.Sp
open Go.Proofs
def hexT:ByteArray:=⟨#[48,49,50,51,52,53,54,55,56,57,97,98,99,100,101,102]⟩
def jAW (n:Nat):UInt8:=(hexT.data.toList[n]?).getD 0
end Go.Sp
end
section
open Go Go.SE
namespace Go.Sp
open Go.Proofs
def qEsc (c:UInt8):List UInt8:=if c.toNat=34∨c.toNat=92 then [92,c] else if c.toNat<32∨126<c.toNat then [92,120,jAW (c.toNat / 16),jAW (c.toNat % 16)] else [c]
def jAV (x:List UInt8):List UInt8:=34 :: (x.flatMap qEsc++[34])
def u64N (n:Int):Nat:=(IntKind.u64.wrap n).toNat
def qI (k f t u:Int) (x:ByteArray):List UInt8 :=
 if k=1 then 110 :: Lib.decDigits (u64N f) else if k=2 then 35 :: Lib.decDigits u.toNat else if k=6 then 107 :: Lib.decDigits (u64N f) else if k=3 then jAV x.data.toList
 else if k=4 then [] else if k=5 then [104] else if k=7 then 115 :: Lib.decDigits (u64N f) else if k=8 then 112 :: Lib.decDigits (u64N f)++62 :: Lib.decDigits (u64N t) else if k=9 then 102 :: Lib.decDigits (u64N f)++62 :: Lib.decDigits (u64N t) else []
mutual
def shw:Tree→List UInt8
 | .mk k f t u x ks=>qI k f t u x++yK ks
def yK:List Tree→List UInt8
 | []=>[]
 | t :: ts=>40 :: (shw t++jDA ts)
def jDA:List Tree→List UInt8
 | []=>[41]
 | t :: _=>32 :: (shw t++[41])
end
theorem jJI (c:UInt8):(qEsc c).length≤4:=by
 unfold qEsc;repeat' split
 all_goals simp
theorem yB:∀l:List UInt8,(l.flatMap qEsc).length≤4*l.length
 | []=>by simp
 | c :: l=>by
  have:=jJI c;have:=yB l;rw [List.flatMap_cons,List.length_append,List.length_cons];omega
end Go.Sp
end
section
open Go Go.SE
namespace Go.Proofs
open Tryz
theorem jJF {P:Program} {t:TypeId} (n:Nat) (w:World):(Go.binOp .shr t (.int .u8 (n:Int)) (.int .u64 4)).run P w=.ok (.int .u8 ((n / 16:Nat):Int)) w:=by
 simp [Go.binOp,go_sem,IntKind.bits]
theorem jHJ {P:Program} {t:TypeId} (c:Nat) (h:c<256) (w:World):(Go.binOp .and t (.int .u8 (c:Int)) (.int .u8 15)).run P w=.ok (.int .u8 ((c % 16:Nat):Int)) w:=by
 have hr:IntKind.u8.wrap ((BitVec.ofInt IntKind.u8.bits (c:Int) &&& BitVec.ofInt IntKind.u8.bits 15).toNat:Int)=((c % 16:Nat):Int):=by
  have e1:(BitVec.ofInt IntKind.u8.bits (c:Int)).toNat=c:=by
   rw [BitVec.toNat_ofInt];simp [IntKind.bits];omega
  have e2:(BitVec.ofInt IntKind.u8.bits 15).toNat=2 ^ 4 - 1:=by decide
  rw [BitVec.toNat_and,e1,e2,Nat.and_two_pow_sub_one_eq_mod,jLH];simp only [UInt8.toNat_ofNat'];omega
 show ((pure (Value.int .u8 _):Sem Value)).run P w=_;rw [hr];rfl
theorem jMC (x:ByteArray) (n:Nat) (h:n<x.data.toList.length) (w:World):(Instr.index 9 (.string x) (.int .i64 (n:Int))).run prog w=.ok (.int .u8 ((x.data.toList[n]).toNat:Int)) w:=by
 have hs:x.size=x.data.toList.length:=by rw [Array.length_toList];rfl
 have hn:n<x.size:=by omega
 rw [run_index_string w _ _ _ _ underlying9,dif_pos ⟨by omega,by omega⟩];rfl
theorem vJ {P:Program} {t:TypeId} (w:World) (x y:List UInt8) (hx:x.length≤100000) (hy:y.length≤100000) :
  (Go.binOp .add t (.string ⟨x.toArray⟩) (.string ⟨y.toArray⟩)).run P w=.ok (.string ⟨(x++y).toArray⟩) w:=by
 rw [binOp_string_add]
 exact run_string_add_lists w x y (by omega) (by omega)
end Go.Proofs
end
