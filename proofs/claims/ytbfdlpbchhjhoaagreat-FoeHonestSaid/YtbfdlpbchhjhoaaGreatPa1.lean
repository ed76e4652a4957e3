import Derived.Test.YtbfdlpbchhjhoaaGreatProg
import Derived.KernelRfl
import Derived.Test.YtbfdlpbchhjhoaaGreatPa0
import Derived.Laws.IdiomStrings
import Init.Data.Nat
import Derived.Recover
section
open Go Go.SE
open Go.IntKind renaming i64 → q6
namespace Go.Proofs
open Tryz
set_option maxRecDepth 100000
set_option maxHeartbeats 4000000
attribute [local irreducible] wpL wpX opE wpE Calls
def m_J2 (p1:Option Addr) (t1:Int) (w0:World) (K:Bool→WP):Prop :=Br (decide (t1≥1)) (∃a1:Addr,p1=some a1∧∃v1:Sl,w0.cell? a1=some v1.v∧K (decide (t1≤(v1.len:Int))) w0) (K false w0)
theorem w_J2 (p1:Option Addr) (t1:Int) (w0:World) (K:Bool→WP) (h:m_J2 p1 t1 w0 K) :
  Calls prog 122 #[(vp p1),(vi t1)] w0 (fun e w'=>∃r1:Bool,e=.returned (vb r1)∧K r1 w'):=by
 unfold m_J2 at h
 refine cw (args:=[(vp p1),(vi t1)]) func122 ntmps122 (eg (q0 (vb false) (ln (eg (q0 (vi t1) (q0 (vb (decide (t1≥1))) (q0 (vb (decide (t1≥1))) ?_)))))))
 rcases bte (decide (t1≥1)) with hg1 | hg1
 have h:=h.1 hg1
 refine q1 (vi t1) (wy 7 hg1) (q1 (vp p1) (wy 7 hg1) ?_)
 obtain ⟨a1,hp1,h⟩:=h
 refine stp (v:=(vp (some a1))) (wy 7 hg1) (xn hp1) (q1 (vp (some a1)) (wy 7 hg1) ?_)
 obtain ⟨v1,hv1,h⟩:=h
 refine stp (v:=v1.v) (wy 7 hg1) (xl (isAgg49 _) hv1) (q1 (vi (v1.len:Int)) (wy 7 hg1) (q1 (vb (decide (t1≤(v1.len:Int)))) (wy 7 hg1) (q2 (vb (decide (t1≤(v1.len:Int)))) (xT hg1) (q0 (vb (decide (t1≤(v1.len:Int)))) (ln (er (rs1 results122 (v:=(vb (decide (t1≤(v1.len:Int))))) ?_)))))))
 exact ⟨(decide (t1≤(v1.len:Int))),rfl,h⟩
 have h:=h.2 hg1
 refine sk (yD 7 hg1) (sk (yD 7 hg1) (sk (yD 7 hg1) (sk (yD 7 hg1) (sk (yD 7 hg1) (sk (yD 7 hg1) (sk (yD 7 hg1) (q2 (vb false) (xF hg1) (q0 (vb false) (ln (er ?_))))))))))
 refine rs1 results122 (v:=(vb false)) ?_
 exact ⟨false,rfl,h⟩
def s_A (kind1:Int):Int :=(cond (kind1 == 4) 2 (cond (cond (kind1 == 5) (kind1 == 5) (cond (kind1 == 7) (kind1 == 7) (cond (kind1 == 8) (kind1 == 8) (kind1 == 9)))) 1 0))
theorem pw_A (kind1:Int) (w0:World) :
  Calls prog 73 #[(vi kind1)] w0 (fun e w'=>∃b'0 b'1:Bool,((kind1 == 4)=b'0∧(cond (kind1 == 5) (kind1 == 5) (cond (kind1 == 7) (kind1 == 7) (cond (kind1 == 8) (kind1 == 8) (kind1 == 9))))=b'1)∧(e=.returned (vi (cond b'0 2 (cond b'1 1 0))))∧Pure w0 w'):=by
 refine cw (args:=[(vi kind1)]) func73 ntmps73 (eg (q0 (vi 0) (ln (zA (eg (q0 (vi kind1) (ln ?_)))))))
 refine zQ (eg (q0 (vb (kind1 == 4)) (q0 (vb (kind1 == 4)) (ln ?_))))
 refine zB (t:=(kind1 == 4)) (by kernel_rfl) (fun hc1=>?_) (fun hc1=>?_)
 refine eg (q0 (vi 2) (ln (er (uK (vL (rs1 results73 (v:=(vi 2)) ?_))))))
 exact ⟨true,_,⟨hc1,rfl⟩,by kernel_rfl,Ext.refl _⟩
 refine zA (eg (q0 (vb (kind1 == 5)) (q0 (vb (kind1 == 5)) (ln ?_))))
 refine vO (fun ρ wJ=>∃b1'0 b1'1 b1'2:Bool,((kind1 == 5)=b1'0)∧((kind1 == 7)=b1'1)∧((kind1 == 8)=b1'2)∧w0=wJ∧Has ρ [(6,(vb (cond b1'0 (kind1 == 5) (cond b1'1 (kind1 == 7) (cond b1'2 (kind1 == 8) (kind1 == 9))))))]) ?_ ?_
 refine zB (t:=(kind1 == 5)) (by kernel_rfl) (fun hc5=>?_) (fun hc5=>?_)
 refine zC (zN ?_)
 exact ⟨true,_,_,hc5,rfl,rfl,rfl,hm⟩
 refine eg (q0 (vb (kind1 == 7)) (q0 (vb (kind1 == 7)) (ln ?_)))
 refine zB (t:=(kind1 == 7)) (by kernel_rfl) (fun hc6=>?_) (fun hc6=>?_)
 refine zC (zN ?_)
 exact ⟨false,true,_,hc5,hc6,rfl,rfl,hm⟩
 refine eg (q0 (vb (kind1 == 8)) (q0 (vb (kind1 == 8)) (ln ?_)))
 refine zB (t:=(kind1 == 8)) (by kernel_rfl) (fun hc7=>?_) (fun hc7=>?_)
 refine zC (zN ?_)
 exact ⟨false,false,true,hc5,hc6,hc7,rfl,hm⟩
 refine rg (q0 (vb (kind1 == 9)) (q0 (vb (kind1 == 9)) (ln ?_)))
 exact ⟨false,false,false,hc5,hc6,hc7,rfl,hm⟩
 rintro ρ w1 ⟨b1'0,b1'1,b1'2,he0,he1,he2,hw,hH⟩
 subst he0
 subst he1
 subst he2
 subst hw
 refine vH hH ?_
 refine zN ?_
 refine zB (t:=(cond (kind1 == 5) (kind1 == 5) (cond (kind1 == 7) (kind1 == 7) (cond (kind1 == 8) (kind1 == 8) (kind1 == 9))))) (by kernel_rfl) (fun hc8=>?_) (fun hc8=>?_)
 refine eg (q0 (vi 1) (ln (er (uK (vL (rs1 results73 (v:=(vi 1)) ?_))))))
 exact ⟨false,true,⟨hc1,hc8⟩,by kernel_rfl,Ext.refl _⟩
 refine zC (tJ (zN (eg (q0 (vi 0) (ln (er (rs1 results73 (v:=(vi 0)) ?_)))))))
 exact ⟨false,false,⟨hc1,hc8⟩,by kernel_rfl,Ext.refl _⟩
theorem p_A (kind1:Int) (w0:World):Calls prog 73 #[(.int .i64 kind1)] w0 (fun e w'=>e=.returned (.int .i64 (s_A kind1))∧Pure w0 w'):=by
 refine (pw_A kind1 w0).mono ?_;rintro e w' ⟨b'0,b'1,⟨e0,e1⟩,h,E⟩;subst e0;subst e1;exact ⟨h,E⟩
def m_K2  (w0:World) (K:(Option Addr)→WP):Prop :=∀(p1:Addr) (w1:World),New w0 (.cells #[Sl.nil.v,Sl.nil.v,Sl.nil.v] 52) p1 w1→K (some p1) w1
theorem w_K2  (w0:World) (K:(Option Addr)→WP) (h:m_K2  w0 K) :
  Calls prog 54 #[] w0 (fun e w'=>∃r1:Option Addr,e=.returned (vp r1)∧K r1 w'):=by
 unfold m_K2 at h
 refine cw (args:=[]) func54 ntmps54 (eg (q0 (vp none) (ln (eg (q0 (.agg #[Sl.nil.v,Sl.nil.v,Sl.nil.v]) (sn (O:=(.cells #[Sl.nil.v,Sl.nil.v,Sl.nil.v] 52)) xb ?_))))))
 intro p1 w1 hn1
 have h:=h p1 w1 hn1
 refine q0 (vp (some p1)) (ln (er (rs1 results54 (v:=(vp (some p1))) ?_)))
 exact ⟨(some p1),rfl,h⟩
def s_Q1 (kind1:Int):Bool :=((kind1 == 8) || (kind1 == 9))
theorem pw_Q1 (kind1:Int) (w0:World) :
  Calls prog 182 #[(vi kind1)] w0 (fun e w'=>(e=.returned (vb ((kind1 == 8) || (kind1 == 9))))∧Pure w0 w'):=by
 refine cw (args:=[(vi kind1)]) func182 ntmps182 (eg (q0 (vb false) (ln (zA ?_))))
 refine vO (fun ρ wJ=>w0=wJ∧Has ρ [(2,(vb ((kind1 == 8) || (kind1 == 9))))]) ?_ ?_
 refine rg (q0 (vi kind1) (q0 (vb (kind1 == 8)) (q0 (vb (kind1 == 8)) ?_)))
 refine zL 3 (fun ρ wJ=>∃b3'0:Bool,((kind1 == 8)=b3'0)∧w0=wJ∧Has ρ [(8,(vb (b3'0 || (kind1 == 9))))]) ?_ ?_
 rintro ρ w3 ⟨b3'0,he0,hw,hH⟩
 subst he0
 subst hw
 refine zU hH ?_
 refine q0 (vb ((kind1 == 8) || (kind1 == 9))) (ln ?_)
 exact ⟨rfl,hm⟩
 rcases bte (kind1 == 8) with hg4 | hg4
 refine sk (yD 5 hg4) (sk (yD 5 hg4) (q2 (vb true) (xT hg4) (zD ?_)))
 exact ⟨true,hg4,rfl,hm⟩
 refine q1 (vi kind1) (wy 5 hg4) (q1 (vb (kind1 == 9)) (wy 5 hg4) (q2 (vb (kind1 == 9)) (xF hg4) (zD ?_)))
 exact ⟨false,hg4,rfl,hm⟩
 rintro ρ w2 ⟨hw,hH⟩
 subst hw
 refine vH hH ?_
 refine zN (er (rs1 results182 (v:=(vb ((kind1 == 8) || (kind1 == 9)))) ?_))
 exact ⟨by kernel_rfl,Ext.refl _⟩
theorem p_Q1 (kind1:Int) (w0:World):Calls prog 182 #[(.int .i64 kind1)] w0 (fun e w'=>e=.returned (.bool (s_Q1 kind1))∧Pure w0 w'):=pw_Q1 kind1 w0
def s_C (kind1:Int):Bool :=((((kind1 == 1) || (kind1 == 6)) || (kind1 == 7)) || ((kind1 == 8) || (kind1 == 9)))
theorem pw_C (kind1:Int) (w0:World) :
  Calls prog 180 #[(vi kind1)] w0 (fun e w'=>(e=.returned (vb ((((kind1 == 1) || (kind1 == 6)) || (kind1 == 7)) || ((kind1 == 8) || (kind1 == 9)))))∧Pure w0 w'):=by
 refine cw (args:=[(vi kind1)]) func180 ntmps180 ?_
 have hs:=Hst.start w0
 have hb:=HB.nil None w0
 refine eg (q0 (vb false) (ln (zA ?_)))
 refine vO (fun ρ wJ=>∃HJ:NP,Hst w0 None w0 HJ wJ∧HB HJ wJ []∧Has ρ [(2,(vb ((((kind1 == 1) || (kind1 == 6)) || (kind1 == 7)) || ((kind1 == 8) || (kind1 == 9)))))]) ?_ ?_
 refine rg (q0 (vi kind1) (q0 (vb (kind1 == 1)) (q0 (vb (kind1 == 1)) ?_)))
 refine zL 3 (fun ρ wJ=>∃b5'0:Bool,∃HJ:NP,((kind1 == 1)=b5'0)∧Hst w0 None w0 HJ wJ∧HB HJ wJ []∧Has ρ [(0,(vi kind1)),(8,(vb (b5'0 || (kind1 == 6))))]) ?_ ?_
 rintro ρ w7 ⟨b5'0,H5,he0,hs,hb,hH⟩
 subst he0
 refine zU hH ?_
 refine q0 (vb ((kind1 == 1) || (kind1 == 6))) ?_
 refine zL 3 (fun ρ wJ=>∃b6'0:Bool,∃HJ:NP,(((kind1 == 1) || (kind1 == 6))=b6'0)∧Hst w0 None w0 HJ wJ∧HB HJ wJ []∧Has ρ [(0,(vi kind1)),(12,(vb (b6'0 || (kind1 == 7))))]) ?_ ?_
 rintro ρ w8 ⟨b6'0,H6,he0,hs,hb,hH⟩
 subst he0
 refine zU hH ?_
 refine q0 (vb (((kind1 == 1) || (kind1 == 6)) || (kind1 == 7))) ?_
 refine zL 3 (fun ρ wJ=>∃b7'0:Bool,∃HJ:NP,((((kind1 == 1) || (kind1 == 6)) || (kind1 == 7))=b7'0)∧Hst w0 None w0 HJ wJ∧HB HJ wJ []∧Has ρ [(16,(vb (b7'0 || ((kind1 == 8) || (kind1 == 9)))))]) ?_ ?_
 rintro ρ w10 ⟨b7'0,H7,he0,hs,hb,hH⟩
 subst he0
 refine zU hH ?_
 refine q0 (vb ((((kind1 == 1) || (kind1 == 6)) || (kind1 == 7)) || ((kind1 == 8) || (kind1 == 9)))) (ln ?_)
 exact ⟨_,hs,hb,hm⟩
 rcases bte (((kind1 == 1) || (kind1 == 6)) || (kind1 == 7)) with hg12 | hg12
 refine sk (yD 13 hg12) (sk (yD 13 hg12) (q2 (vb true) (xT hg12) (zD ?_)))
 exact ⟨true,_,hg12,hs,hb,hm⟩
 refine q1 (vi kind1) (wy 13 hg12) ?_
 refine vG (wy 13 hg12) (xc call182) ((p_Q1 kind1 w8).mono ?_)
 rintro e w11 ⟨he,hE⟩
 refine ⟨(vb ((kind1 == 8) || (kind1 == 9))),he.trans (by kernel_rfl),?_⟩
 have hs:=hs.pure hE
 have hb:=hb.pure hE
 refine q2 (vb ((kind1 == 8) || (kind1 == 9))) (xF hg12) (zD ?_)
 exact ⟨false,_,hg12,hs,hb,hm⟩
 rcases bte ((kind1 == 1) || (kind1 == 6)) with hg10 | hg10
 refine sk (yD 9 hg10) (sk (yD 9 hg10) (q2 (vb true) (xT hg10) (zD ?_)))
 exact ⟨true,_,hg10,hs,hb,hm⟩
 refine q1 (vi kind1) (wy 9 hg10) (q1 (vb (kind1 == 7)) (wy 9 hg10) (q2 (vb (kind1 == 7)) (xF hg10) (zD ?_)))
 exact ⟨false,_,hg10,hs,hb,hm⟩
 rcases bte (kind1 == 1) with hg8 | hg8
 refine sk (yD 5 hg8) (sk (yD 5 hg8) (q2 (vb true) (xT hg8) (zD ?_)))
 exact ⟨true,_,hg8,hs,hb,hm⟩
 refine q1 (vi kind1) (wy 5 hg8) (q1 (vb (kind1 == 6)) (wy 5 hg8) (q2 (vb (kind1 == 6)) (xF hg8) (zD ?_)))
 exact ⟨false,_,hg8,hs,hb,hm⟩
 rintro ρ w6 ⟨H4,hs,hb,hH⟩
 refine vH hH ?_
 refine zN (er (rs1 results180 (v:=(vb ((((kind1 == 1) || (kind1 == 6)) || (kind1 == 7)) || ((kind1 == 8) || (kind1 == 9))))) ?_))
 exact ⟨by kernel_rfl,(Ext.refl (F:=None) _).hst hs⟩
theorem p_C (kind1:Int) (w0:World):Calls prog 180 #[(.int .i64 kind1)] w0 (fun e w'=>e=.returned (.bool (s_C kind1))∧Pure w0 w'):=pw_C kind1 w0
def s_Z (aA aB:Int) (aC aK:Int) (aJ:ByteArray) (aL aM:Int):Bool :=(!((decide (aA<1)) || (decide (aA>9))) && (((((((s_C aA) || (aB == 0)) && (((aA == 8) || (aA == 9)) || (aC == 0))) && ((aA == 2) || (aK == 0))) && ((aA == 3) || (decide (aJ=⟨#[]⟩)))) && ((decide ((s_A aA)≥1)) || (aL == 0))) && ((((s_A aA):Int) == 2) || (aM == 0))))
theorem pw_Z (aA aB:Int) (aC aK:Int) (aJ:ByteArray) (aL aM:Int) (w0:World) :
  Calls prog 179 #[(.agg #[(vi aA),(vi aB),(vi aC),(vu aK),(vs aJ),(vi aL),(vi aM)])] w0 (fun e w'=>∃b'0:Bool,(((decide (aA<1)) || (decide (aA>9)))=b'0)∧(e=.returned (vb (!b'0 && (((((((s_C aA) || (aB == 0)) && (((aA == 8) || (aA == 9)) || (aC == 0))) && ((aA == 2) || (aK == 0))) && ((aA == 3) || (decide (aJ=⟨#[]⟩)))) && ((decide ((s_A aA)≥1)) || (aL == 0))) && ((((s_A aA):Int) == 2) || (aM == 0))))))∧Pure w0 w'):=by
 refine cw (args:=[(.agg #[(vi aA),(vi aB),(vi aC),(vu aK),(vs aJ),(vi aL),(vi aM)])]) func179 ntmps179 ?_
 have hs:=Hst.start w0
 have hb:=HB.nil None w0
 refine eg (sn (O:=(.cells #[(vi aA),(vi aB),(vi aC),(vu aK),(vs aJ),(vi aL),(vi aM)] 127)) xb ?_)
 intro p1 w1 hn1
 obtain ⟨H1,hs,hb⟩:=hs.alloc hb hn1
 refine q0 (vb false) (ln (zA (zA ?_)))
 refine vO (fun ρ wJ=>∃b1'0:Bool,∃HJ:NP,((decide (aA<1))=b1'0)∧Hst w0 None w0 HJ wJ∧HB HJ wJ [(p1,[(vi aA),(vi aB),(vi aC),(vu aK),(vs aJ),(vi aL),(vi aM)],127)]∧Has ρ [(1,(vp (some p1))),(10,(vb (b1'0 || (decide (aA>9)))))]) ?_ ?_
 refine rg (q0 (vp (some p1)) (q2 (vi aA) (xl (isAgg3 _) (hb.c0 0 gZ)) (q0 (vb (decide (aA<1))) (q0 (vb (decide (aA<1))) ?_))))
 rcases bte (decide (aA<1)) with hg2 | hg2
 refine sk (yD 6 hg2) (sk (yD 6 hg2) (sk (yD 6 hg2) (q2 (vb true) (xT hg2) (ln ?_))))
 exact ⟨true,_,hg2,hs,hb,hm⟩
 refine q1 (vp (some p1)) (wy 6 hg2) (stp (v:=(vi aA)) (wy 6 hg2) (xl (isAgg3 _) (hb.c0 0 gZ)) (q1 (vb (decide (aA>9))) (wy 6 hg2) (q2 (vb (decide (aA>9))) (xF hg2) (ln ?_))))
 exact ⟨false,_,hg2,hs,hb,hm⟩
 rintro ρ w2 ⟨b1'0,H2,he0,hs,hb,hH⟩
 subst he0
 refine vH hH ?_
 refine zN ?_
 refine zB (t:=((decide (aA<1)) || (decide (aA>9)))) (by kernel_rfl) (fun hc1=>?_) (fun hc1=>?_)
 refine eg (q0 (vb false) (ln (er (vL (rs1 results179 (v:=(vb false)) ?_)))))
 exact ⟨true,hc1,by kernel_rfl,(Ext.refl (F:=None) _).hst hs⟩
 refine zC (zN (zA ?_))
 refine vO (fun ρ wJ=>∃HJ:NP,Hst w0 None w0 HJ wJ∧HB HJ wJ [(p1,[(vi aA),(vi aB),(vi aC),(vu aK),(vs aJ),(vi aL),(vi aM)],127)]∧Has ρ [(2,(vb (((((((s_C aA) || (aB == 0)) && (((aA == 8) || (aA == 9)) || (aC == 0))) && ((aA == 2) || (aK == 0))) && ((aA == 3) || (decide (aJ=⟨#[]⟩)))) && ((decide ((s_A aA)≥1)) || (aL == 0))) && ((((s_A aA):Int) == 2) || (aM == 0)))))]) ?_ ?_
 refine rg (q0 (vp (some p1)) (q2 (vi aA) (xl (isAgg3 _) (hb.c0 0 gZ)) ?_))
 refine sc call180 ((p_C aA w2).mono ?_)
 rintro e w27 ⟨he,hE⟩
 refine ⟨(vb (s_C aA)),he.trans (by kernel_rfl),?_⟩
 have hs:=hs.pure hE
 have hb:=hb.pure hE
 refine q0 (vb (s_C aA)) ?_
 refine zL 4 (fun ρ wJ=>∃b19'0:Bool,∃HJ:NP,((s_C aA)=b19'0)∧Hst w0 None w0 HJ wJ∧HB HJ wJ [(p1,[(vi aA),(vi aB),(vi aC),(vu aK),(vs aJ),(vi aL),(vi aM)],127)]∧Has ρ [(1,(vp (some p1))),(18,(vb (b19'0 || (aB == 0))))]) ?_ ?_
 rintro ρ w28 ⟨b19'0,H20,he0,hs,hb,hH⟩
 subst he0
 refine zU hH ?_
 refine q0 (vb ((s_C aA) || (aB == 0))) ?_
 refine zL 9 (fun ρ wJ=>∃b21'0:Bool,∃HJ:NP,(((s_C aA) || (aB == 0))=b21'0)∧Hst w0 None w0 HJ wJ∧HB HJ wJ [(p1,[(vi aA),(vi aB),(vi aC),(vu aK),(vs aJ),(vi aL),(vi aM)],127)]∧Has ρ [(1,(vp (some p1))),(28,(vb (b21'0 && (((aA == 8) || (aA == 9)) || (aC == 0)))))]) ?_ ?_
 rintro ρ w31 ⟨b21'0,H22,he0,hs,hb,hH⟩
 subst he0
 refine zU hH ?_
 refine q0 (vb (((s_C aA) || (aB == 0)) && (((aA == 8) || (aA == 9)) || (aC == 0)))) ?_
 refine zL 9 (fun ρ wJ=>∃b24'0:Bool,∃HJ:NP,((((s_C aA) || (aB == 0)) && (((aA == 8) || (aA == 9)) || (aC == 0)))=b24'0)∧Hst w0 None w0 HJ wJ∧HB HJ wJ [(p1,[(vi aA),(vi aB),(vi aC),(vu aK),(vs aJ),(vi aL),(vi aM)],127)]∧Has ρ [(1,(vp (some p1))),(38,(vb (b24'0 && ((aA == 2) || (aK == 0)))))]) ?_ ?_
 rintro ρ w35 ⟨b24'0,H25,he0,hs,hb,hH⟩
 subst he0
 refine zU hH ?_
 refine q0 (vb ((((s_C aA) || (aB == 0)) && (((aA == 8) || (aA == 9)) || (aC == 0))) && ((aA == 2) || (aK == 0)))) ?_
 refine zL 9 (fun ρ wJ=>∃b27'0:Bool,∃HJ:NP,(((((s_C aA) || (aB == 0)) && (((aA == 8) || (aA == 9)) || (aC == 0))) && ((aA == 2) || (aK == 0)))=b27'0)∧Hst w0 None w0 HJ wJ∧HB HJ wJ [(p1,[(vi aA),(vi aB),(vi aC),(vu aK),(vs aJ),(vi aL),(vi aM)],127)]∧Has ρ [(1,(vp (some p1))),(48,(vb (b27'0 && ((aA == 3) || (decide (aJ=⟨#[]⟩))))))]) ?_ ?_
 rintro ρ w38 ⟨b27'0,H28,he0,hs,hb,hH⟩
 subst he0
 refine zU hH ?_
 refine q0 (vb (((((s_C aA) || (aB == 0)) && (((aA == 8) || (aA == 9)) || (aC == 0))) && ((aA == 2) || (aK == 0))) && ((aA == 3) || (decide (aJ=⟨#[]⟩))))) ?_
 refine zL 10 (fun ρ wJ=>∃b30'0:Bool,∃HJ:NP,((((((s_C aA) || (aB == 0)) && (((aA == 8) || (aA == 9)) || (aC == 0))) && ((aA == 2) || (aK == 0))) && ((aA == 3) || (decide (aJ=⟨#[]⟩))))=b30'0)∧Hst w0 None w0 HJ wJ∧HB HJ wJ [(p1,[(vi aA),(vi aB),(vi aC),(vu aK),(vs aJ),(vi aL),(vi aM)],127)]∧Has ρ [(1,(vp (some p1))),(59,(vb (b30'0 && ((decide ((s_A aA)≥1)) || (aL == 0)))))]) ?_ ?_
 rintro ρ w42 ⟨b30'0,H31,he0,hs,hb,hH⟩
 subst he0
 refine zU hH ?_
 refine q0 (vb ((((((s_C aA) || (aB == 0)) && (((aA == 8) || (aA == 9)) || (aC == 0))) && ((aA == 2) || (aK == 0))) && ((aA == 3) || (decide (aJ=⟨#[]⟩)))) && ((decide ((s_A aA)≥1)) || (aL == 0)))) ?_
 refine zL 10 (fun ρ wJ=>∃b33'0:Bool,∃HJ:NP,(((((((s_C aA) || (aB == 0)) && (((aA == 8) || (aA == 9)) || (aC == 0))) && ((aA == 2) || (aK == 0))) && ((aA == 3) || (decide (aJ=⟨#[]⟩)))) && ((decide ((s_A aA)≥1)) || (aL == 0)))=b33'0)∧Hst w0 None w0 HJ wJ∧HB HJ wJ [(p1,[(vi aA),(vi aB),(vi aC),(vu aK),(vs aJ),(vi aL),(vi aM)],127)]∧Has ρ [(70,(vb (b33'0 && ((((s_A aA):Int) == 2) || (aM == 0)))))]) ?_ ?_
 rintro ρ w47 ⟨b33'0,H34,he0,hs,hb,hH⟩
 subst he0
 refine zU hH ?_
 refine q0 (vb (((((((s_C aA) || (aB == 0)) && (((aA == 8) || (aA == 9)) || (aC == 0))) && ((aA == 2) || (aK == 0))) && ((aA == 3) || (decide (aJ=⟨#[]⟩)))) && ((decide ((s_A aA)≥1)) || (aL == 0))) && ((((s_A aA):Int) == 2) || (aM == 0)))) (ln ?_)
 exact ⟨_,hs,hb,hm⟩
 rcases bte ((((((s_C aA) || (aB == 0)) && (((aA == 8) || (aA == 9)) || (aC == 0))) && ((aA == 2) || (aK == 0))) && ((aA == 3) || (decide (aJ=⟨#[]⟩)))) && ((decide ((s_A aA)≥1)) || (aL == 0))) with hg64 | hg64
 refine q1 (vp (some p1)) (wy 60 hg64) (stp (v:=(vi aA)) (wy 60 hg64) (xl (isAgg3 _) (hb.c0 0 gZ)) ?_)
 refine vG (wy 60 hg64) (xc call73) ((p_A aA w42).mono ?_)
 rintro e w48 ⟨he,hE⟩
 refine ⟨(vi (s_A aA)),he.trans (by kernel_rfl),?_⟩
 have hs:=hs.pure hE
 have hb:=hb.pure hE
 refine q1 (vb (((s_A aA):Int) == 2)) (wy 60 hg64) (q1 (vb (((s_A aA):Int) == 2)) (wy 60 hg64) ?_)
 refine zL 4 (fun ρ wJ=>∃b34'0:Bool,∃HJ:NP,((((s_A aA):Int) == 2)=b34'0)∧Hst w0 None w0 HJ wJ∧HB HJ wJ [(p1,[(vi aA),(vi aB),(vi aC),(vu aK),(vs aJ),(vi aL),(vi aM)],127)]∧Has ρ [(60,(vb ((((((s_C aA) || (aB == 0)) && (((aA == 8) || (aA == 9)) || (aC == 0))) && ((aA == 2) || (aK == 0))) && ((aA == 3) || (decide (aJ=⟨#[]⟩)))) && ((decide ((s_A aA)≥1)) || (aL == 0))))),(69,(vb (b34'0 || (aM == 0))))]) ?_ ?_
 rintro ρ w49 ⟨b34'0,H35,he0,hs,hb,hH⟩
 subst he0
 refine zU hH ?_
 refine q2 (vb ((((s_A aA):Int) == 2) || (aM == 0))) (xT hg64) (zD ?_)
 exact ⟨true,_,hg64,hs,hb,hm⟩
 rcases bte (((s_A aA):Int) == 2) with hg66 | hg66
 refine sk (yD 65 hg66) (sk (yD 65 hg66) (sk (yD 65 hg66) (stp (v:=(vb true)) (wy 60 hg64) (xT hg66) (zD ?_))))
 exact ⟨true,_,hg66,hs,hb,hm⟩
 refine q1 (vp (some (p1.add 6))) (wy 65 hg66) (stp (v:=(vi aM)) (wy 65 hg66) (xl (isAgg78 _) (hb.c 0 6 gZ)) (q1 (vb (aM == 0)) (wy 65 hg66) (stp (v:=(vb (aM == 0))) (wy 60 hg64) (xF hg66) (zD ?_))))
 exact ⟨false,_,hg66,hs,hb,hm⟩
 refine sk (yD 60 hg64) (sk (yD 60 hg64) (sk (yD 60 hg64) (sk (yD 60 hg64) (sk (yD 60 hg64) (sm (sm (sm (sk (yD 60 hg64) (q2 (vb false) (xF hg64) (zD ?_))))))))))
 exact ⟨false,_,hg64,hs,hb,hm⟩
 rcases bte (((((s_C aA) || (aB == 0)) && (((aA == 8) || (aA == 9)) || (aC == 0))) && ((aA == 2) || (aK == 0))) && ((aA == 3) || (decide (aJ=⟨#[]⟩)))) with hg58 | hg58
 refine q1 (vp (some p1)) (wy 49 hg58) (stp (v:=(vi aA)) (wy 49 hg58) (xl (isAgg3 _) (hb.c0 0 gZ)) ?_)
 refine vG (wy 49 hg58) (xc call73) ((p_A aA w38).mono ?_)
 rintro e w43 ⟨he,hE⟩
 refine ⟨(vi (s_A aA)),he.trans (by kernel_rfl),?_⟩
 have hs:=hs.pure hE
 have hb:=hb.pure hE
 refine q1 (vb (decide ((s_A aA)≥1))) (wy 49 hg58) (q1 (vb (decide ((s_A aA)≥1))) (wy 49 hg58) ?_)
 refine zL 4 (fun ρ wJ=>∃b31'0:Bool,∃HJ:NP,((decide ((s_A aA)≥1))=b31'0)∧Hst w0 None w0 HJ wJ∧HB HJ wJ [(p1,[(vi aA),(vi aB),(vi aC),(vu aK),(vs aJ),(vi aL),(vi aM)],127)]∧Has ρ [(1,(vp (some p1))),(49,(vb (((((s_C aA) || (aB == 0)) && (((aA == 8) || (aA == 9)) || (aC == 0))) && ((aA == 2) || (aK == 0))) && ((aA == 3) || (decide (aJ=⟨#[]⟩)))))),(58,(vb (b31'0 || (aL == 0))))]) ?_ ?_
 rintro ρ w44 ⟨b31'0,H32,he0,hs,hb,hH⟩
 subst he0
 refine zU hH ?_
 refine q2 (vb ((decide ((s_A aA)≥1)) || (aL == 0))) (xT hg58) (zD ?_)
 exact ⟨true,_,hg58,hs,hb,hm⟩
 rcases bte (decide ((s_A aA)≥1)) with hg60 | hg60
 refine sk (yD 54 hg60) (sk (yD 54 hg60) (sk (yD 54 hg60) (stp (v:=(vb true)) (wy 49 hg58) (xT hg60) (zD ?_))))
 exact ⟨true,_,hg60,hs,hb,hm⟩
 refine q1 (vp (some (p1.add 5))) (wy 54 hg60) (stp (v:=(vi aL)) (wy 54 hg60) (xl (isAgg78 _) (hb.c 0 5 gZ)) (q1 (vb (aL == 0)) (wy 54 hg60) (stp (v:=(vb (aL == 0))) (wy 49 hg58) (xF hg60) (zD ?_))))
 exact ⟨false,_,hg60,hs,hb,hm⟩
 refine sk (yD 49 hg58) (sk (yD 49 hg58) (sk (yD 49 hg58) (sk (yD 49 hg58) (sk (yD 49 hg58) (sm (sm (sm (sk (yD 49 hg58) (q2 (vb false) (xF hg58) (zD ?_))))))))))
 exact ⟨false,_,hg58,hs,hb,hm⟩
 rcases bte ((((s_C aA) || (aB == 0)) && (((aA == 8) || (aA == 9)) || (aC == 0))) && ((aA == 2) || (aK == 0))) with hg52 | hg52
 refine q1 (vp (some p1)) (wy 39 hg52) (stp (v:=(vi aA)) (wy 39 hg52) (xl (isAgg3 _) (hb.c0 0 gZ)) (q1 (vb (aA == 3)) (wy 39 hg52) (q1 (vb (aA == 3)) (wy 39 hg52) ?_)))
 refine zL 4 (fun ρ wJ=>∃b28'0:Bool,∃HJ:NP,((aA == 3)=b28'0)∧Hst w0 None w0 HJ wJ∧HB HJ wJ [(p1,[(vi aA),(vi aB),(vi aC),(vu aK),(vs aJ),(vi aL),(vi aM)],127)]∧Has ρ [(1,(vp (some p1))),(39,(vb ((((s_C aA) || (aB == 0)) && (((aA == 8) || (aA == 9)) || (aC == 0))) && ((aA == 2) || (aK == 0))))),(47,(vb (b28'0 || (decide (aJ=⟨#[]⟩)))))]) ?_ ?_
 rintro ρ w39 ⟨b28'0,H29,he0,hs,hb,hH⟩
 subst he0
 refine zU hH ?_
 refine q2 (vb ((aA == 3) || (decide (aJ=⟨#[]⟩)))) (xT hg52) (zD ?_)
 exact ⟨true,_,hg52,hs,hb,hm⟩
 rcases bte (aA == 3) with hg54 | hg54
 refine sk (yD 43 hg54) (sk (yD 43 hg54) (sk (yD 43 hg54) (stp (v:=(vb true)) (wy 39 hg52) (xT hg54) (zD ?_))))
 exact ⟨true,_,hg54,hs,hb,hm⟩
 refine q1 (vp (some (p1.add 4))) (wy 43 hg54) (stp (v:=(vs aJ)) (wy 43 hg54) (xl (isAgg9 _) (hb.c 0 4 gZ)) (stp (v:=(vb (decide (aJ=⟨#[]⟩)))) (wy 43 hg54) (jUW (by kernel_rfl) (by kernel_rfl)) (stp (v:=(vb (decide (aJ=⟨#[]⟩)))) (wy 39 hg52) (xF hg54) (zD ?_))))
 exact ⟨false,_,hg54,hs,hb,hm⟩
 refine sk (yD 39 hg52) (sk (yD 39 hg52) (sk (yD 39 hg52) (sk (yD 39 hg52) (sm (sm (sm (sk (yD 39 hg52) (q2 (vb false) (xF hg52) (zD ?_)))))))))
 exact ⟨false,_,hg52,hs,hb,hm⟩
 rcases bte (((s_C aA) || (aB == 0)) && (((aA == 8) || (aA == 9)) || (aC == 0))) with hg46 | hg46
 refine q1 (vp (some p1)) (wy 29 hg46) (stp (v:=(vi aA)) (wy 29 hg46) (xl (isAgg3 _) (hb.c0 0 gZ)) (q1 (vb (aA == 2)) (wy 29 hg46) (q1 (vb (aA == 2)) (wy 29 hg46) ?_)))
 refine zL 4 (fun ρ wJ=>∃b25'0:Bool,∃HJ:NP,((aA == 2)=b25'0)∧Hst w0 None w0 HJ wJ∧HB HJ wJ [(p1,[(vi aA),(vi aB),(vi aC),(vu aK),(vs aJ),(vi aL),(vi aM)],127)]∧Has ρ [(1,(vp (some p1))),(29,(vb (((s_C aA) || (aB == 0)) && (((aA == 8) || (aA == 9)) || (aC == 0))))),(37,(vb (b25'0 || (aK == 0))))]) ?_ ?_
 rintro ρ w36 ⟨b25'0,H26,he0,hs,hb,hH⟩
 subst he0
 refine zU hH ?_
 refine q2 (vb ((aA == 2) || (aK == 0))) (xT hg46) (zD ?_)
 exact ⟨true,_,hg46,hs,hb,hm⟩
 rcases bte (aA == 2) with hg48 | hg48
 refine sk (yD 33 hg48) (sk (yD 33 hg48) (sk (yD 33 hg48) (stp (v:=(vb true)) (wy 29 hg46) (xT hg48) (zD ?_))))
 exact ⟨true,_,hg48,hs,hb,hm⟩
 refine q1 (vp (some (p1.add 3))) (wy 33 hg48) (stp (v:=(vu aK)) (wy 33 hg48) (xl (isAgg23 _) (hb.c 0 3 gZ)) (q1 (vb (aK == 0)) (wy 33 hg48) (stp (v:=(vb (aK == 0))) (wy 29 hg46) (xF hg48) (zD ?_))))
 exact ⟨false,_,hg48,hs,hb,hm⟩
 refine sk (yD 29 hg46) (sk (yD 29 hg46) (sk (yD 29 hg46) (sk (yD 29 hg46) (sm (sm (sm (sk (yD 29 hg46) (q2 (vb false) (xF hg46) (zD ?_)))))))))
 exact ⟨false,_,hg46,hs,hb,hm⟩
 rcases bte ((s_C aA) || (aB == 0)) with hg40 | hg40
 refine q1 (vp (some p1)) (wy 19 hg40) (stp (v:=(vi aA)) (wy 19 hg40) (xl (isAgg3 _) (hb.c0 0 gZ)) ?_)
 refine vG (wy 19 hg40) (xc call182) ((p_Q1 aA w28).mono ?_)
 rintro e w32 ⟨he,hE⟩
 refine ⟨(vb ((aA == 8) || (aA == 9))),he.trans (by kernel_rfl),?_⟩
 have hs:=hs.pure hE
 have hb:=hb.pure hE
 refine q1 (vb ((aA == 8) || (aA == 9))) (wy 19 hg40) ?_
 refine zL 4 (fun ρ wJ=>∃b22'0:Bool,∃HJ:NP,(((aA == 8) || (aA == 9))=b22'0)∧Hst w0 None w0 HJ wJ∧HB HJ wJ [(p1,[(vi aA),(vi aB),(vi aC),(vu aK),(vs aJ),(vi aL),(vi aM)],127)]∧Has ρ [(1,(vp (some p1))),(19,(vb ((s_C aA) || (aB == 0)))),(27,(vb (b22'0 || (aC == 0))))]) ?_ ?_
 rintro ρ w33 ⟨b22'0,H23,he0,hs,hb,hH⟩
 subst he0
 refine zU hH ?_
 refine q2 (vb (((aA == 8) || (aA == 9)) || (aC == 0))) (xT hg40) (zD ?_)
 exact ⟨true,_,hg40,hs,hb,hm⟩
 rcases bte ((aA == 8) || (aA == 9)) with hg42 | hg42
 refine sk (yD 23 hg42) (sk (yD 23 hg42) (sk (yD 23 hg42) (stp (v:=(vb true)) (wy 19 hg40) (xT hg42) (zD ?_))))
 exact ⟨true,_,hg42,hs,hb,hm⟩
 refine q1 (vp (some (p1.add 2))) (wy 23 hg42) (stp (v:=(vi aC)) (wy 23 hg42) (xl (isAgg3 _) (hb.c 0 2 gZ)) (q1 (vb (aC == 0)) (wy 23 hg42) (stp (v:=(vb (aC == 0))) (wy 19 hg40) (xF hg42) (zD ?_))))
 exact ⟨false,_,hg42,hs,hb,hm⟩
 refine sk (yD 19 hg40) (sk (yD 19 hg40) (sk (yD 19 hg40) (sk (yD 19 hg40) (sm (sm (sm (sk (yD 19 hg40) (q2 (vb false) (xF hg40) (zD ?_)))))))))
 exact ⟨false,_,hg40,hs,hb,hm⟩
 rcases bte (s_C aA) with hg36 | hg36
 refine sk (yD 14 hg36) (sk (yD 14 hg36) (sk (yD 14 hg36) (q2 (vb true) (xT hg36) (zD ?_))))
 exact ⟨true,_,hg36,hs,hb,hm⟩
 refine q1 (vp (some (p1.add 1))) (wy 14 hg36) (stp (v:=(vi aB)) (wy 14 hg36) (xl (isAgg3 _) (hb.c 0 1 gZ)) (q1 (vb (aB == 0)) (wy 14 hg36) (q2 (vb (aB == 0)) (xF hg36) (zD ?_))))
 exact ⟨false,_,hg36,hs,hb,hm⟩
 rintro ρ w26 ⟨H19,hs,hb,hH⟩
 refine vH hH ?_
 refine zN (er (rs1 results179 (v:=(vb (((((((s_C aA) || (aB == 0)) && (((aA == 8) || (aA == 9)) || (aC == 0))) && ((aA == 2) || (aK == 0))) && ((aA == 3) || (decide (aJ=⟨#[]⟩)))) && ((decide ((s_A aA)≥1)) || (aL == 0))) && ((((s_A aA):Int) == 2) || (aM == 0))))) ?_))
 exact ⟨false,hc1,by kernel_rfl,(Ext.refl (F:=None) _).hst hs⟩
theorem p_Z (aA aB:Int) (aC aK:Int) (aJ:ByteArray) (aL aM:Int) (w0:World):Calls prog 179 #[(.agg #[(.int .i64 aA),(.int .i64 aB),(.int .i64 aC),(.int .u64 aK),(.string aJ),(.int .i64 aL),(.int .i64 aM)])] w0 (fun e w'=>e=.returned (.bool (s_Z aA aB aC aK aJ aL aM))∧Pure w0 w'):=by
 refine (pw_Z aA aB aC aK aJ aL aM w0).mono ?_;rintro e w' ⟨b'0,e0,h,E⟩;subst e0;exact ⟨h,E⟩
def s_R1 (n1:Int):Bool :=((decide (n1≥0)) && (decide (n1<16)))
theorem pw_R1 (n1:Int) (w0:World) :
  Calls prog 181 #[(vi n1)] w0 (fun e w'=>(e=.returned (vb ((decide (n1≥0)) && (decide (n1<16)))))∧Pure w0 w'):=by
 refine cw (args:=[(vi n1)]) func181 ntmps181 (eg (q0 (vb false) (ln (zA ?_))))
 refine vO (fun ρ wJ=>w0=wJ∧Has ρ [(2,(vb ((decide (n1≥0)) && (decide (n1<16)))))]) ?_ ?_
 refine rg (q0 (vi n1) (q0 (vb (decide (n1≥0))) (q0 (vb (decide (n1≥0))) ?_)))
 refine zL 3 (fun ρ wJ=>∃b3'0:Bool,((decide (n1≥0))=b3'0)∧w0=wJ∧Has ρ [(8,(vb (b3'0 && (decide (n1<16)))))]) ?_ ?_
 rintro ρ w3 ⟨b3'0,he0,hw,hH⟩
 subst he0
 subst hw
 refine zU hH ?_
 refine q0 (vb ((decide (n1≥0)) && (decide (n1<16)))) (ln ?_)
 exact ⟨rfl,hm⟩
 rcases bte (decide (n1≥0)) with hg4 | hg4
 refine q1 (vi n1) (wy 5 hg4) (q1 (vb (decide (n1<16))) (wy 5 hg4) (q2 (vb (decide (n1<16))) (xT hg4) (zD ?_)))
 exact ⟨true,hg4,rfl,hm⟩
 refine sk (yD 5 hg4) (sk (yD 5 hg4) (q2 (vb false) (xF hg4) (zD ?_)))
 exact ⟨false,hg4,rfl,hm⟩
 rintro ρ w2 ⟨hw,hH⟩
 subst hw
 refine vH hH ?_
 refine zN (er (rs1 results181 (v:=(vb ((decide (n1≥0)) && (decide (n1<16))))) ?_))
 exact ⟨by kernel_rfl,Ext.refl _⟩
theorem p_R1 (n1:Int) (w0:World):Calls prog 181 #[(.int .i64 n1)] w0 (fun e w'=>e=.returned (.bool (s_R1 n1))∧Pure w0 w'):=pw_R1 n1 w0
def s_J (aA aB:Int) (aC aK:Int) (aJ:ByteArray) (aL aM:Int):Int :=(cond (!(s_Z aA aB aC aK aJ aL aM)) 53 (cond (((s_C aA) && (!((decide (aB≥0)) && (decide (aB<16))))) || (((aA == 8) || (aA == 9)) && ((!((decide (aC≥0)) && (decide (aC<16)))) || (aB == aC)))) 50 (cond (decide ((aJ.size:Int)>64)) 1 0)))
theorem pw_J (aA aB:Int) (aC aK:Int) (aJ:ByteArray) (aL aM:Int) (w0:World) :
  Calls prog 130 #[(.agg #[(vi aA),(vi aB),(vi aC),(vu aK),(vs aJ),(vi aL),(vi aM)])] w0 (fun e w'=>∃b'0 b'1 b'2:Bool,((!(s_Z aA aB aC aK aJ aL aM))=b'0∧(((s_C aA) && (!((decide (aB≥0)) && (decide (aB<16))))) || (((aA == 8) || (aA == 9)) && ((!((decide (aC≥0)) && (decide (aC<16)))) || (aB == aC))))=b'1∧(decide ((aJ.size:Int)>64))=b'2)∧(e=.returned (vi (cond b'0 53 (cond b'1 50 (cond b'2 1 0)))))∧Pure w0 w'):=by
 refine cw (args:=[(.agg #[(vi aA),(vi aB),(vi aC),(vu aK),(vs aJ),(vi aL),(vi aM)])]) func130 ntmps130 ?_
 have hs:=Hst.start w0
 have hb:=HB.nil None w0
 refine eg (sn (O:=(.cells #[(vi aA),(vi aB),(vi aC),(vu aK),(vs aJ),(vi aL),(vi aM)] 127)) xb ?_)
 intro p1 w1 hn1
 obtain ⟨H1,hs,hb⟩:=hs.alloc hb hn1
 refine q0 (vi 0) (ln (zA (eg (q2 (.agg #[(vi aA),(vi aB),(vi aC),(vu aK),(vs aJ),(vi aL),(vi aM)]) (xa p1 [(vi aA),(vi aB),(vi aC),(vu aK),(vs aJ),(vi aL),(vi aM)] (isAgg127 _) (sizeOf127 _) (hb.r0 0 7 gZ)) ?_))))
 refine sc call179 ((p_Z aA aB aC aK aJ aL aM w1).mono ?_)
 rintro e w2 ⟨he,hE⟩
 refine ⟨(vb (s_Z aA aB aC aK aJ aL aM)),he.trans (by kernel_rfl),?_⟩
 have hs:=hs.pure hE
 have hb:=hb.pure hE
 refine q0 (vb (!(s_Z aA aB aC aK aJ aL aM))) (ln ?_)
 refine zB (t:=(!(s_Z aA aB aC aK aJ aL aM))) (by kernel_rfl) (fun hc1=>?_) (fun hc1=>?_)
 refine eg (q0 (vi 53) (ln (er (vL (rs1 results130 (v:=(vi 53)) ?_)))))
 exact ⟨true,_,_,⟨hc1,rfl,rfl⟩,by kernel_rfl,(Ext.refl (F:=None) _).hst hs⟩
 refine zC (zN (zA (zA ?_)))
 refine vO (fun ρ wJ=>∃b5'0:Bool,∃HJ:NP,(((s_C aA) && (!((decide (aB≥0)) && (decide (aB<16)))))=b5'0)∧Hst w0 None w0 HJ wJ∧HB HJ wJ [(p1,[(vi aA),(vi aB),(vi aC),(vu aK),(vs aJ),(vi aL),(vi aM)],127)]∧Has ρ [(1,(vp (some p1))),(32,(vb (b5'0 || (((aA == 8) || (aA == 9)) && ((!((decide (aC≥0)) && (decide (aC<16)))) || (aB == aC))))))]) ?_ ?_
 refine rg (q0 (vp (some p1)) (q2 (vi aA) (xl (isAgg3 _) (hb.c0 0 gZ)) ?_))
 refine sc call180 ((p_C aA w2).mono ?_)
 rintro e w14 ⟨he,hE⟩
 refine ⟨(vb (s_C aA)),he.trans (by kernel_rfl),?_⟩
 have hs:=hs.pure hE
 have hb:=hb.pure hE
 refine q0 (vb (s_C aA)) ?_
 refine zL 5 (fun ρ wJ=>∃b6'0:Bool,∃HJ:NP,((s_C aA)=b6'0)∧Hst w0 None w0 HJ wJ∧HB HJ wJ [(p1,[(vi aA),(vi aB),(vi aC),(vu aK),(vs aJ),(vi aL),(vi aM)],127)]∧Has ρ [(1,(vp (some p1))),(14,(vb (b6'0 && (!((decide (aB≥0)) && (decide (aB<16)))))))]) ?_ ?_
 rintro ρ w16 ⟨b6'0,H7,he0,hs,hb,hH⟩
 subst he0
 refine zU hH ?_
 refine q0 (vb ((s_C aA) && (!((decide (aB≥0)) && (decide (aB<16)))))) ?_
 rcases bte ((s_C aA) && (!((decide (aB≥0)) && (decide (aB<16))))) with hg12 | hg12
 refine sk (yD 15 hg12) (sk (yD 15 hg12) (sk (yD 15 hg12) (sk (yD 15 hg12) (sm (sm (sm (sm (sm (sm (sm (sm ?_)))))))))))
 refine sm (sm (sm (sk (yD 15 hg12) (q2 (vb true) (xT hg12) (ln ?_)))))
 exact ⟨true,_,hg12,hs,hb,hm⟩
 refine q1 (vp (some p1)) (wy 15 hg12) (stp (v:=(vi aA)) (wy 15 hg12) (xl (isAgg3 _) (hb.c0 0 gZ)) ?_)
 refine vG (wy 15 hg12) (xc call182) ((p_Q1 aA w16).mono ?_)
 rintro e w18 ⟨he,hE⟩
 refine ⟨(vb ((aA == 8) || (aA == 9))),he.trans (by kernel_rfl),?_⟩
 have hs:=hs.pure hE
 have hb:=hb.pure hE
 refine q1 (vb ((aA == 8) || (aA == 9))) (wy 15 hg12) ?_
 refine zL 12 (fun ρ wJ=>∃b8'0:Bool,∃HJ:NP,(((aA == 8) || (aA == 9))=b8'0)∧Hst w0 None w0 HJ wJ∧HB HJ wJ [(p1,[(vi aA),(vi aB),(vi aC),(vu aK),(vs aJ),(vi aL),(vi aM)],127)]∧Has ρ [(1,(vp (some p1))),(15,(vb ((s_C aA) && (!((decide (aB≥0)) && (decide (aB<16))))))),(31,(vb (b8'0 && ((!((decide (aC≥0)) && (decide (aC<16)))) || (aB == aC)))))]) ?_ ?_
 rintro ρ w21 ⟨b8'0,H9,he0,hs,hb,hH⟩
 subst he0
 refine zU hH ?_
 refine q2 (vb (((aA == 8) || (aA == 9)) && ((!((decide (aC≥0)) && (decide (aC<16)))) || (aB == aC)))) (xF hg12) (ln ?_)
 exact ⟨false,_,hg12,hs,hb,hm⟩
 rcases bte ((aA == 8) || (aA == 9)) with hg16 | hg16
 refine q1 (vp (some (p1.add 2))) (wy 19 hg16) (stp (v:=(vi aC)) (wy 19 hg16) (xl (isAgg3 _) (hb.c 0 2 gZ)) ?_)
 refine vG (wy 19 hg16) (xc call181) ((p_R1 aC w18).mono ?_)
 rintro e w22 ⟨he,hE⟩
 refine ⟨(vb ((decide (aC≥0)) && (decide (aC<16)))),he.trans (by kernel_rfl),?_⟩
 have hs:=hs.pure hE
 have hb:=hb.pure hE
 refine q1 (vb (!((decide (aC≥0)) && (decide (aC<16))))) (wy 19 hg16) (q1 (vb (!((decide (aC≥0)) && (decide (aC<16))))) (wy 19 hg16) ?_)
 refine zL 6 (fun ρ wJ=>∃b9'0:Bool,∃HJ:NP,((!((decide (aC≥0)) && (decide (aC<16))))=b9'0)∧Hst w0 None w0 HJ wJ∧HB HJ wJ [(p1,[(vi aA),(vi aB),(vi aC),(vu aK),(vs aJ),(vi aL),(vi aM)],127)]∧Has ρ [(1,(vp (some p1))),(15,(vb ((s_C aA) && (!((decide (aB≥0)) && (decide (aB<16))))))),(19,(vb ((aA == 8) || (aA == 9)))),(30,(vb (b9'0 || (aB == aC))))]) ?_ ?_
 rintro ρ w23 ⟨b9'0,H10,he0,hs,hb,hH⟩
 subst he0
 refine zU hH ?_
 refine stp (v:=(vb ((!((decide (aC≥0)) && (decide (aC<16)))) || (aB == aC)))) (wy 15 hg12) (xT hg16) (zD ?_)
 exact ⟨true,_,hg16,hs,hb,hm⟩
 rcases bte (!((decide (aC≥0)) && (decide (aC<16)))) with hg18 | hg18
 refine sk (yD 24 hg18) (sk (yD 24 hg18) (sk (yD 24 hg18) (sk (yD 24 hg18) (sk (yD 24 hg18) (stp (v:=(vb true)) (wy 19 hg16) (xT hg18) (zD ?_))))))
 exact ⟨true,_,hg18,hs,hb,hm⟩
 refine q1 (vp (some (p1.add 1))) (wy 24 hg18) (stp (v:=(vi aB)) (wy 24 hg18) (xl (isAgg3 _) (hb.c 0 1 gZ)) (q1 (vp (some (p1.add 2))) (wy 24 hg18) (stp (v:=(vi aC)) (wy 24 hg18) (xl (isAgg3 _) (hb.c 0 2 gZ)) (q1 (vb (aB == aC)) (wy 24 hg18) (stp (v:=(vb (aB == aC))) (wy 19 hg16) (xF hg18) (zD ?_))))))
 exact ⟨false,_,hg18,hs,hb,hm⟩
 refine sk (yD 19 hg16) (sk (yD 19 hg16) (sk (yD 19 hg16) (sk (yD 19 hg16) (sk (yD 19 hg16) (sm (sm (sm (sm (sm (sk (yD 19 hg16) (stp (v:=(vb false)) (wy 15 hg12) (xF hg16) ?_)))))))))))
 refine zD ?_
 exact ⟨false,_,hg16,hs,hb,hm⟩
 rcases bte (s_C aA) with hg11 | hg11
 refine q1 (vp (some (p1.add 1))) (wy 9 hg11) (stp (v:=(vi aB)) (wy 9 hg11) (xl (isAgg3 _) (hb.c 0 1 gZ)) ?_)
 refine vG (wy 9 hg11) (xc call181) ((p_R1 aB w14).mono ?_)
 rintro e w17 ⟨he,hE⟩
 refine ⟨(vb ((decide (aB≥0)) && (decide (aB<16)))),he.trans (by kernel_rfl),?_⟩
 have hs:=hs.pure hE
 have hb:=hb.pure hE
 refine q1 (vb (!((decide (aB≥0)) && (decide (aB<16))))) (wy 9 hg11) (q2 (vb (!((decide (aB≥0)) && (decide (aB<16))))) (xT hg11) (zD ?_))
 exact ⟨true,_,hg11,hs,hb,hm⟩
 refine sk (yD 9 hg11) (sk (yD 9 hg11) (sk (yD 9 hg11) (sk (yD 9 hg11) (q2 (vb false) (xF hg11) (zD ?_)))))
 exact ⟨false,_,hg11,hs,hb,hm⟩
 rintro ρ w13 ⟨b5'0,H6,he0,hs,hb,hH⟩
 subst he0
 refine vH hH ?_
 refine zN ?_
 refine zB (t:=(((s_C aA) && (!((decide (aB≥0)) && (decide (aB<16))))) || (((aA == 8) || (aA == 9)) && ((!((decide (aC≥0)) && (decide (aC<16)))) || (aB == aC))))) (by kernel_rfl) (fun hc2=>?_) (fun hc2=>?_)
 refine eg (q0 (vi 50) (ln (er (vL (rs1 results130 (v:=(vi 50)) ?_)))))
 exact ⟨false,true,_,⟨hc1,hc2,rfl⟩,by kernel_rfl,(Ext.refl (F:=None) _).hst hs⟩
 refine zC (zN (zA (eg (q0 (vp (some (p1.add 4))) (q2 (vs aJ) (xl (isAgg9 _) (hb.c 0 4 gZ)) (q0 (vi (aJ.size:Int)) (q0 (vb (decide ((aJ.size:Int)>64))) (ln ?_))))))))
 refine zB (t:=(decide ((aJ.size:Int)>64))) (by kernel_rfl) (fun hc3=>?_) (fun hc3=>?_)
 refine eg (q0 (vi 1) (ln (er (vL (rs1 results130 (v:=(vi 1)) ?_)))))
 exact ⟨false,false,true,⟨hc1,hc2,hc3⟩,by kernel_rfl,(Ext.refl (F:=None) _).hst hs⟩
 refine zC (zN (eg (q0 (vi 0) (ln (er (rs1 results130 (v:=(vi 0)) ?_))))))
 exact ⟨false,false,false,⟨hc1,hc2,hc3⟩,by kernel_rfl,(Ext.refl (F:=None) _).hst hs⟩
theorem p_J (aA aB:Int) (aC aK:Int) (aJ:ByteArray) (aL aM:Int) (w0:World):Calls prog 130 #[(.agg #[(.int .i64 aA),(.int .i64 aB),(.int .i64 aC),(.int .u64 aK),(.string aJ),(.int .i64 aL),(.int .i64 aM)])] w0 (fun e w'=>e=.returned (.int .i64 (s_J aA aB aC aK aJ aL aM))∧Pure w0 w'):=by
 refine (pw_J aA aB aC aK aJ aL aM w0).mono ?_;rintro e w' ⟨b'0,b'1,b'2,⟨e0,e1,e2⟩,h,E⟩;subst e0;subst e1;subst e2;exact ⟨h,E⟩
def m_L2 (p1:Option Addr) (t1:Int) (w0:World) (K:Int→WP):Prop :=Calls prog 122 #[(vp p1),(vi t1)] w0 (fun e w1=>∃r1:Bool,e=.returned (vb r1)∧Br (!r1) (K 0 w1) (∃a1:Addr,p1=some a1∧∃v1:Sl,w1.cell? (a1.add 1)=some v1.v∧∃a2:Addr,At v1 (q6.wrap (t1 - 1)) 1 a2∧∃v2:Int,w1.cell? a2=some (vi v2)∧K v2 w1))
theorem w_L2 (p1:Option Addr) (t1:Int) (w0:World) (K:Int→WP) (h:m_L2 p1 t1 w0 K) :
  Calls prog 123 #[(vp p1),(vi t1)] w0 (fun e w'=>∃r2:Int,e=.returned (vi r2)∧K r2 w'):=by
 unfold m_L2 at h
 refine cw (args:=[(vp p1),(vi t1)]) func123 ntmps123 (eg (q0 (vi 0) (ln (zA (eg (q0 (vp p1) (q0 (vi t1) ?_)))))))
 refine sc call122 (h.mono ?_)
 rintro e w1 ⟨r1,rfl,h⟩
 refine ⟨_,rfl,?_⟩
 refine q0 (vb (!r1)) (ln ?_)
 refine zB (t:=(!r1)) (by kernel_rfl) (fun hc1=>?_) (fun hc1=>?_)
 have h:=h.1 hc1
 refine eg (q0 (vi 0) (ln (er (vL (rs1 results123 (v:=(vi 0)) ?_)))))
 exact ⟨0,rfl,h⟩
 have h:=h.2 hc1
 refine zC (zN (eg (q0 (vp p1) ?_)))
 obtain ⟨a1,hp1,h⟩:=h
 refine q2 (vp (some a1)) (xn hp1) (q0 (vp (some (a1.add 1))) ?_)
 obtain ⟨v1,hv3,h⟩:=h
 refine q2 v1.v (xl (isAgg50 _) hv3) (q0 (vi t1) (q0 (vi (q6.wrap (t1 - 1))) ?_))
 obtain ⟨a2,hv2,h⟩:=h
 refine q2 (vp (some a2)) (xi (runUnderlying50 _) (sizeOf3 _) hv2) ?_
 obtain ⟨v2,hv1,h⟩:=h
 refine q2 (vi v2) (xl (isAgg3 _) hv1) (q0 (vi v2) (ln (er (rs1 results123 (v:=(vi v2)) ?_))))
 exact ⟨v2,rfl,h⟩
def m_M2 (p1:Option Addr) (t1:Int) (w0:World) (K:Int→WP):Prop :=Calls prog 122 #[(vp p1),(vi t1)] w0 (fun e w1=>∃r1:Bool,e=.returned (vb r1)∧Br (!r1) (K 0 w1) (∃a1:Addr,p1=some a1∧∃v1:Sl,w1.cell? (a1.add 2)=some v1.v∧∃a2:Addr,At v1 (q6.wrap (t1 - 1)) 1 a2∧∃v2:Int,w1.cell? a2=some (vi v2)∧K v2 w1))
theorem w_M2 (p1:Option Addr) (t1:Int) (w0:World) (K:Int→WP) (h:m_M2 p1 t1 w0 K) :
  Calls prog 131 #[(vp p1),(vi t1)] w0 (fun e w'=>∃r2:Int,e=.returned (vi r2)∧K r2 w'):=by
 unfold m_M2 at h
 refine cw (args:=[(vp p1),(vi t1)]) func131 ntmps131 (eg (q0 (vi 0) (ln (zA (eg (q0 (vp p1) (q0 (vi t1) ?_)))))))
 refine sc call122 (h.mono ?_)
 rintro e w1 ⟨r1,rfl,h⟩
 refine ⟨_,rfl,?_⟩
 refine q0 (vb (!r1)) (ln ?_)
 refine zB (t:=(!r1)) (by kernel_rfl) (fun hc1=>?_) (fun hc1=>?_)
 have h:=h.1 hc1
 refine eg (q0 (vi 0) (ln (er (vL (rs1 results131 (v:=(vi 0)) ?_)))))
 exact ⟨0,rfl,h⟩
 have h:=h.2 hc1
 refine zC (zN (eg (q0 (vp p1) ?_)))
 obtain ⟨a1,hp1,h⟩:=h
 refine q2 (vp (some a1)) (xn hp1) (q0 (vp (some (a1.add 2))) ?_)
 obtain ⟨v1,hv3,h⟩:=h
 refine q2 v1.v (xl (isAgg50 _) hv3) (q0 (vi t1) (q0 (vi (q6.wrap (t1 - 1))) ?_))
 obtain ⟨a2,hv2,h⟩:=h
 refine q2 (vp (some a2)) (xi (runUnderlying50 _) (sizeOf3 _) hv2) ?_
 obtain ⟨v2,hv1,h⟩:=h
 refine q2 (vi v2) (xl (isAgg3 _) hv1) (q0 (vi v2) (ln (er (rs1 results131 (v:=(vi v2)) ?_))))
 exact ⟨v2,rfl,h⟩
theorem xY (a0 a1:Int) (a2 a3:Int) (a4:ByteArray) (a5 a6:Int) (b0 b1:Int) (b2 b3:Int) (b4:ByteArray) (b5 b6:Int) (w:World):(Go.binOp .eql 127 (.agg #[(.int .i64 a0),(.int .i64 a1),(.int .i64 a2),(.int .u64 a3),(.string a4),(.int .i64 a5),(.int .i64 a6)]) (.agg #[(.int .i64 b0),(.int .i64 b1),(.int .i64 b2),(.int .u64 b3),(.string b4),(.int .i64 b5),(.int .i64 b6)])).run prog w=.ok (.bool ((a0 == b0) && ((a1 == b1) && ((a2 == b2) && ((a3 == b3) && ((decide (a4=b4)) && ((a5 == b5) && (a6 == b6)))))))) w:=by
 simp [Go.binOp,Op.equal,Op.maxDepth,go_sem,jOB,bne]
 repeat' split
 all_goals simp_all
def m_D1_l1 (p1:Option Addr) (aA aB:Int) (aC aK:Int) (aJ:ByteArray) (aL aM i1:Int) (w0:World) (Hl1:NP) (wl1:World) (Kc1:Int→NP→WP) (K:Int→Bool→WP):Prop :=∃a1:Addr,p1=some a1∧∃v1:Sl,wl1.cell? a1=some v1.v∧Br (decide (i1<(v1.len:Int))) (∃a2:Addr,p1=some a2∧∀(w2:World),Hst w0 Hl1 wl1 Hl1 w2→∃v2:Sl,w2.cell? a2=some v2.v∧∃a3:Addr,At v2 i1 7 a3∧∃aO aP:Int,∃aQ aR:Int,∃aS:ByteArray,∃bN bO:Int,Row w2 a3 [(vi aO),(vi aP),(vi aQ),(vu aR),(vs aS),(vi bN),(vi bO)]∧Br ((aO == aA) && ((aP == aB) && ((aQ == aC) && ((aR == aK) && ((decide (aS=aJ)) && ((bN == aL) && (bO == aM))))))) (K (q6.wrap (i1+1)) true w2) (Kc1 (q6.wrap (i1+1)) Hl1 w2)) (K 0 false wl1)
def m_D1 (p1:Option Addr) (aA aB:Int) (aC aK:Int) (aJ:ByteArray) (aL aM:Int) (w0:World) (K:Int→Bool→WP):Prop :=∀(H1:NP) (w1:World),Hst w0 None w0 H1 w1→∃(I1:Int→NP→WP) (mu1:Int→World→Nat),I1 0 H1 w1∧∀(i1:Int) (Hl1:NP) (wl1:World),Hst w0 Hl1 wl1 Hl1 wl1→I1 i1 Hl1 wl1→m_D1_l1 p1 aA aB aC aK aJ aL aM i1 w0 Hl1 wl1 (fun y'0 H' w'=>I1 y'0 H' w'∧mu1 y'0 w'<mu1 i1 wl1) K
theorem w_D1 (p1:Option Addr) (aA aB:Int) (aC aK:Int) (aJ:ByteArray) (aL aM:Int) (w0:World) (K:Int→Bool→WP) (h:m_D1 p1 aA aB aC aK aJ aL aM w0 K) :
  Calls prog 132 #[(vp p1),(.agg #[(vi aA),(vi aB),(vi aC),(vu aK),(vs aJ),(vi aL),(vi aM)])] w0 (fun e w'=>∃r1:Int,∃r2:Bool,e=.returned (.tuple #[(vi r1),(vb r2)])∧K r1 r2 w'):=by
 unfold m_D1 at h
 refine cw (args:=[(vp p1),(.agg #[(vi aA),(vi aB),(vi aC),(vu aK),(vs aJ),(vi aL),(vi aM)])]) func132 ntmps132 ?_
 have hs:=Hst.start w0
 have hb:=HB.nil None w0
 refine eg (sn (O:=(.cells #[(vi aA),(vi aB),(vi aC),(vu aK),(vs aJ),(vi aL),(vi aM)] 127)) xb ?_)
 intro p2 w1 hn1
 obtain ⟨H1,hs,hb⟩:=hs.alloc hb hn1
 refine q0 (vi 0) (q0 (vb false) (ln (zA (eg (q0 (vi 0) (ln (zQ ?_)))))))
 have h:=h H1 w1 hs
 have hs:=hs.here
 obtain ⟨I1,mu1,h0,hr⟩:=h
 refine qI (σ:=Int×NP×World) (fun s ρ w=>w=s.2.2∧Has ρ [(0,(vp p1)),(3,(vp (some p2))),(6,(vi s.1))]∧Hst w0 s.2.1 w s.2.1 w∧HB s.2.1 w [(p2,[(vi aA),(vi aB),(vi aC),(vu aK),(vs aJ),(vi aL),(vi aM)],127)]∧I1 s.1 s.2.1 s.2.2) (fun s=>mu1 s.1 s.2.2) (0,H1,w1) ⟨rfl,hm,hs,hb,h0⟩ ?_
 rintro ⟨i1,Hl1,wl1⟩ ρ w ⟨hw,hH,hs,hb,hI⟩
 obtain rfl:wl1=w:=(show w=wl1 from hw).symm
 have hH:Has ρ [(0,(vp p1)),(3,(vp (some p2))),(6,(vi i1))]:=hH
 have hs:Hst w0 Hl1 wl1 Hl1 wl1:=hs
 have hb:HB Hl1 wl1 [(p2,[(vi aA),(vi aB),(vi aC),(vu aK),(vs aJ),(vi aL),(vi aM)],127)]:=hb
 have h:=hr i1 Hl1 wl1 hs hI
 unfold m_D1_l1 at h
 refine vC hH ?_
 refine zA (eg (q0 (vi i1) (q0 (vp p1) ?_)))
 obtain ⟨a1,hp1,h⟩:=h
 refine q2 (vp (some a1)) (xn hp1) (q0 (vp (some a1)) ?_)
 obtain ⟨v1,hv4,h⟩:=h
 refine q2 v1.v (xl (isAgg49 _) hv4) (q0 (vi (v1.len:Int)) (q0 (vb (decide (i1<(v1.len:Int)))) (ln ?_)))
 refine zB (t:=(decide (i1<(v1.len:Int)))) (by kernel_rfl) (fun hc1=>?_) (fun hc1=>?_)
 have h:=h.1 hc1
 refine zC (zN (zA (zQ (zA (qO (by kernel_rfl) (by kernel_rfl) (by kernel_rfl) (by kernel_rfl) ?_)))))
 intro w2 hw2
 have hs:Hst w0 Hl1 wl1 Hl1 w2:=by rw [hw2];exact hs.drew
 have hb:HB Hl1 w2 [(p2,[(vi aA),(vi aB),(vi aC),(vu aK),(vs aJ),(vi aL),(vi aM)],127)]:=by rw [hw2];exact hb.drew
 refine qq 0 (vp p1) Kp0 (qg 1 ?_)
 obtain ⟨a2,hp2,h⟩:=h
 refine sxQ (v:=(vp (some a2))) Kp1 (zJ rfl) rfl (xn hp2) (qq 2 (vp (some a2)) Kp2 (qg 3 ?_))
 have h:=h w2 hs
 have hs:=hs.here
 obtain ⟨v2,hv3,h⟩:=h
 refine sxQ (v:=v2.v) Kp3 (zJ rfl) rfl (xl (isAgg49 _) hv3) (qq 4 (vi i1) Kp4 (qg 5 ?_))
 obtain ⟨a3,hv2,h⟩:=h
 refine sxQ (v:=(vp (some a3))) Kp5 (zJ rfl) rfl (xi (runUnderlying49 _) (sizeOf127 _) hv2) (qg 6 ?_)
 obtain ⟨aO,aP,aQ,aR,aS,bN,bO,hv1,h⟩:=h
 refine sxQ (v:=(.agg #[(vi aO),(vi aP),(vi aQ),(vu aR),(vs aS),(vi bN),(vi bO)])) Kp6 (zJ rfl) rfl (xa a3 [(vi aO),(vi aP),(vi aQ),(vu aR),(vs aS),(vi bN),(vi bO)] (isAgg127 _) (sizeOf127 _) hv1) (qr 7 (.agg #[(vi aA),(vi aB),(vi aC),(vu aK),(vs aJ),(vi aL),(vi aM)]) Kp7 (xa p2 [(vi aA),(vi aB),(vi aC),(vu aK),(vs aJ),(vi aL),(vi aM)] (isAgg127 _) (sizeOf127 _) (hb.r0 0 7 gZ)) (qr 8 (vb ((aO == aA) && ((aP == aB) && ((aQ == aC) && ((aR == aK) && ((decide (aS=aJ)) && ((bN == aL) && (bO == aM)))))))) Kp8 (jKX (by kernel_rfl) (by kernel_rfl) (by kernel_rfl) (xY aO aP aQ aR aS bN bO aA aB aC aK aJ aL aM _)) (wn (zN ?_))))
 refine zB (t:=((aO == aA) && ((aP == aB) && ((aQ == aC) && ((aR == aK) && ((decide (aS=aJ)) && ((bN == aL) && (bO == aM)))))))) (by kernel_rfl) (fun hc2=>?_) (fun hc2=>?_)
 have h:=h.1 hc2
 refine eg (q0 (vi i1) (q0 (vi (q6.wrap (i1+1))) (q0 (vi (q6.wrap (i1+1))) (q0 (vb true) (ln (er (uK (vL (vL ?_)))))))))
 refine uK (vL (xW (.inl rfl) results132 (v:=(vi (q6.wrap (i1+1)))) (by kernel_rfl) (v':=(vb true)) (by kernel_rfl) ?_))
 exact ⟨(q6.wrap (i1+1)),true,rfl,h⟩
 have h:=h.2 hc2
 refine zC (tJ (zN (rg (q0 (vi i1) (q0 (vi (q6.wrap (i1+1))) (q0 (vi (q6.wrap (i1+1))) (ln ?_)))))))
 exact ⟨((q6.wrap (i1+1)),Hl1,w2),⟨rfl,hm,hs,hb,h.1⟩,h.2⟩
 have h:=h.2 hc1
 refine qE (tN (tN (tP (zN (eg (q0 (vi 0) (q0 (vb false) (ln (er ?_)))))))))
 refine xW (.inl rfl) results132 (v:=(vi 0)) (by kernel_rfl) (v':=(vb false)) (by kernel_rfl) ?_
 exact ⟨0,false,rfl,h⟩
def m_O_j1 (p1:Option Addr) (aA aB:Int) (aC aK:Int) (aJ:ByteArray) (aL aM:Int) (x1:Bool) (w0:World) (H:NP) (w:World) (K:Int→Int→WP):Prop :=Br x1 (K 0 51 w) (∃C1:WP,C1 w.drew∧∀w4,w4=w.drew→Calls prog 123 #[(vp p1),(vi aL)] w4 (fun e w5=>∃r1:Int,e=.returned (vi r1)∧C1 w5∧Kept H w4 w5∧Calls prog 123 #[(vp p1),(vi aM)] w5 (fun e w6=>∃r2:Int,e=.returned (vi r2)∧C1 w6∧Kept H w5 w6∧∃C2:WP,C2 w6.drew∧∀w7,w7=w6.drew→Calls prog 131 #[(vp p1),(vi aL)] w7 (fun e w8=>∃r3:Int,e=.returned (vi r3)∧C2 w8∧Kept H w7 w8∧Calls prog 131 #[(vp p1),(vi aM)] w8 (fun e w9=>∃r4:Int,e=.returned (vi r4)∧C2 w9∧Kept H w8 w9∧∃z1:Int,(∀w',C2 w'→(Builtin.max_ #[3,3] 3 #[(vi r3),(vi r4)]).run prog w'=.ok (vi z1) w')∧∀y1:Bool,y1=((decide ((q6.wrap ((q6.wrap (1+r1))+r2))>4096)) || (decide ((q6.wrap (1+z1))>64)))→Br y1 (∀(H2:NP) (w10:World),Hst w0 H w9 H2 w10→K 0 52 w10) (∀(H2:NP) (w10:World),Hst w0 H w9 H2 w10→Calls prog 132 #[(vp p1),(.agg #[(vi aA),(vi aB),(vi aC),(vu aK),(vs aJ),(vi aL),(vi aM)])] w10 (fun e w11=>∃r5:Int,∃r6:Bool,e=.returned (.tuple #[(vi r5),(vb r6)])∧Kept H2 w10 w11∧Br r6 (K r5 0 w11) (∃a1:Addr,p1=some a1∧∃v1:Sl,w11.cell? a1=some v1.v∧Br (decide ((v1.len:Int)≥65536)) (K 0 6 w11) (∃C3:WP,C3 w11.drew∧∀w12,w12=w11.drew→∃a2:Addr,p1=some a2∧∃v2:Sl,(∀w',C3 w'→w'.cell? a2=some v2.v)∧∀(p3:Addr) (w13:World),New w12 (.cells #[(vi aA),(vi aB),(vi aC),(vu aK),(vs aJ),(vi aL),(vi aM)] 127) p3 w13→C3 w13∧∃s1:Sl,∃w14:World,(Builtin.append_ #[49,49] 49 #[v2.v,(Sl.mk (some p3) 1 1).v]).run prog w13=.ok s1.v w14∧C3 w14∧Kept H2 w13 w14∧∃a3:Addr,p1=some a3∧CanW w14 a3∧¬ H2 a3.block∧∀w15:World,w15=w14.setCell a3 s1.v→∃a4:Addr,p1=some a4∧∃v3:Sl,w15.cell? (a4.add 1)=some v3.v∧∀(p4:Addr) (w16:World),New w15 (.cells #[(vi (q6.wrap ((q6.wrap (1+r1))+r2)))] 3) p4 w16→∃s2:Sl,∃w17:World,(Builtin.append_ #[50,50] 50 #[v3.v,(Sl.mk (some p4) 1 1).v]).run prog w16=.ok s2.v w17∧Kept H2 w16 w17∧∃a5:Addr,p1=some a5∧CanW w17 (a5.add 1)∧¬ H2 (a5.add 1).block∧∀w18:World,w18=w17.setCell (a5.add 1) s2.v→∃a6:Addr,p1=some a6∧∃v4:Sl,w18.cell? (a6.add 2)=some v4.v∧∀(p5:Addr) (w19:World),New w18 (.cells #[(vi (q6.wrap (1+z1)))] 3) p5 w19→∃s3:Sl,∃w20:World,(Builtin.append_ #[50,50] 50 #[v4.v,(Sl.mk (some p5) 1 1).v]).run prog w19=.ok s3.v w20∧Kept H2 w19 w20∧∃a7:Addr,p1=some a7∧CanW w20 (a7.add 2)∧¬ H2 (a7.add 2).block∧∀w21:World,w21=w20.setCell (a7.add 2) s3.v→∃a8:Addr,p1=some a8∧∃v5:Sl,w21.cell? a8=some v5.v∧K (v5.len:Int) 0 w21)))))))))
def m_O_j2 (p1:Option Addr) (aA aB:Int) (aC aK:Int) (aJ:ByteArray) (aL aM:Int) (x2:Bool) (w0:World) (H:NP) (w:World) (K:Int→Int→WP):Prop :=Br x2 (m_O_j1 p1 aA aB aC aK aJ aL aM true w0 H w K) (Br (((s_A aA):Int) == 2) (Calls prog 122 #[(vp p1),(vi aM)] w (fun e w22=>∃r7:Bool,e=.returned (vb r7)∧Kept H w w22∧m_O_j1 p1 aA aB aC aK aJ aL aM (!r7) w0 H w22 K)) (m_O_j1 p1 aA aB aC aK aJ aL aM false w0 H w K))
def m_O (p1:Option Addr) (aA aB:Int) (aC aK:Int) (aJ:ByteArray) (aL aM:Int) (w0:World) (K:Int→Int→WP):Prop :=Br (((s_J aA aB aC aK aJ aL aM):Int) != 0) (∀(H1:NP) (w2:World),Hst w0 None w0 H1 w2→K 0 (s_J aA aB aC aK aJ aL aM) w2) (Br (decide ((s_A aA)≥1)) (∀(H1:NP) (w3:World),Hst w0 None w0 H1 w3→Calls prog 122 #[(vp p1),(vi aL)] w3 (fun e w23=>∃r8:Bool,e=.returned (vb r8)∧Kept H1 w3 w23∧m_O_j2 p1 aA aB aC aK aJ aL aM (!r8) w0 H1 w23 K)) (∀(H1:NP) (w3:World),Hst w0 None w0 H1 w3→m_O_j2 p1 aA aB aC aK aJ aL aM false w0 H1 w3 K))
theorem w_O (p1:Option Addr) (aA aB:Int) (aC aK:Int) (aJ:ByteArray) (aL aM:Int) (w0:World) (K:Int→Int→WP) (h:m_O p1 aA aB aC aK aJ aL aM w0 K) :
  Calls prog 68 #[(vp p1),(.agg #[(vi aA),(vi aB),(vi aC),(vu aK),(vs aJ),(vi aL),(vi aM)])] w0 (fun e w'=>∃r9 r10:Int,e=.returned (.tuple #[(vi r9),(vi r10)])∧K r9 r10 w'):=by
 unfold m_O at h
 refine cw (args:=[(vp p1),(.agg #[(vi aA),(vi aB),(vi aC),(vu aK),(vs aJ),(vi aL),(vi aM)])]) func68 ntmps68 ?_
 have hs:=Hst.start w0
 have hb:=HB.nil None w0
 refine eg (sn (O:=(.cells #[(vi aA),(vi aB),(vi aC),(vu aK),(vs aJ),(vi aL),(vi aM)] 127)) xb ?_)
 intro p2 w1 hn1
 obtain ⟨H1,hs,hb⟩:=hs.alloc hb hn1
 refine q0 (vi 0) (q0 (vi 0) (ln (eg (q2 (.agg #[(vi aA),(vi aB),(vi aC),(vu aK),(vs aJ),(vi aL),(vi aM)]) (xa p2 [(vi aA),(vi aB),(vi aC),(vu aK),(vs aJ),(vi aL),(vi aM)] (isAgg127 _) (sizeOf127 _) (hb.r0 0 7 gZ)) ?_))))
 refine sc call130 ((p_J aA aB aC aK aJ aL aM w1).mono ?_)
 rintro e w2 ⟨he,hE⟩
 refine ⟨(vi (s_J aA aB aC aK aJ aL aM)),he.trans (by kernel_rfl),?_⟩
 have hs:=hs.pure hE
 have hb:=hb.pure hE
 refine q0 (vi (s_J aA aB aC aK aJ aL aM)) (ln (zA (eg (q0 (vi (s_J aA aB aC aK aJ aL aM)) (q0 (vb (((s_J aA aB aC aK aJ aL aM):Int) != 0)) (ln ?_))))))
 refine zB (t:=(((s_J aA aB aC aK aJ aL aM):Int) != 0)) (by kernel_rfl) (fun hc1=>?_) (fun hc1=>?_)
 have h:=h.1 hc1
 refine eg (q0 (vi (s_J aA aB aC aK aJ aL aM)) (q0 (vi 0) (q0 (vi (s_J aA aB aC aK aJ aL aM)) (ln (er (vL ?_))))))
 have h:=h H1 w2 hs
 have hs:=hs.here
 refine xW (.inl rfl) results68 (v:=(vi 0)) (by kernel_rfl) (v':=(vi (s_J aA aB aC aK aJ aL aM))) (by kernel_rfl) ?_
 exact ⟨0,(s_J aA aB aC aK aJ aL aM),rfl,h⟩
 have h:=h.2 hc1
 refine zC (zN (eg (q0 (vp (some p2)) (q2 (vi aA) (xl (isAgg3 _) (hb.c0 0 gZ)) ?_))))
 refine sc call73 ((p_A aA w2).mono ?_)
 rintro e w3 ⟨he,hE⟩
 refine ⟨(vi (s_A aA)),he.trans (by kernel_rfl),?_⟩
 have hs:=hs.pure hE
 have hb:=hb.pure hE
 refine q0 (vi (s_A aA)) (ln (zA (zA ?_)))
 refine vI (fun ρ w=>∃x1:Bool,∃H:NP,Has ρ [(0,(vp p1)),(3,(vp (some p2))),(39,(vb x1))]∧Hst w0 H w H w∧HB H w [(p2,[(vi aA),(vi aB),(vi aC),(vu aK),(vs aJ),(vi aL),(vi aM)],127)]∧m_O_j1 p1 aA aB aC aK aJ aL aM x1 w0 H w K) ?_ ?_
 rintro ρ w ⟨x1,H,hH,hs,hb,h⟩
 unfold m_O_j1 at h
 refine vC hH ?_
 refine zB (t:=x1) (by kernel_rfl) (fun hc2=>?_) (fun hc2=>?_)
 have h:=h.1 hc2
 refine eg (q0 (vi 0) (q0 (vi 51) (ln (er (vL (xW (.inl rfl) results68 (v:=(vi 0)) (by kernel_rfl) (v':=(vi 51)) (by kernel_rfl) ?_))))))
 exact ⟨0,51,rfl,h⟩
 have h:=h.2 hc2
 refine zC (zN (zA ?_))
 obtain ⟨C1,hC,h⟩:=h
 refine vB (fun x=>C1 x∧HB H x [(p2,[(vi aA),(vi aB),(vi aC),(vu aK),(vs aJ),(vi aL),(vi aM)],127)]) [3,8] [] (by kernel_rfl) (by kernel_rfl) (by kernel_rfl) (by kernel_rfl) ⟨hC,hb.drew⟩ ?_
 intro w4 hw4
 have h:=h w4 hw4
 have hs:Hst w0 H w H w4:=by rw [hw4];exact hs.drew
 have hb:HB H w4 [(p2,[(vi aA),(vi aB),(vi aC),(vu aK),(vs aJ),(vi aL),(vi aM)],127)]:=by rw [hw4];exact hb.drew
 have hs:=hs.here
 refine qx 0 (vp p1) Kp0 (qx 1 (vp (some (p2.add 5))) Kp1 (qz 2 (vi aL) Kp2 (fun w' hw'=>(xl (isAgg78 _) (hw'.2.cell 0 5 gZ (by kernel_rfl)))) (qx 5 (vp p1) Kp5 (qx 6 (vp (some (p2.add 6))) Kp6 (qz 7 (vi aM) Kp7 (fun w' hw'=>(xl (isAgg78 _) (hw'.2.cell 0 6 gZ (by kernel_rfl)))) (lg 3 ?_))))))
 refine slc Kp3 call123 (h.mono ?_)
 rintro e w5 ⟨r1,rfl,hC,hk,h⟩
 refine ⟨_,rfl,.inr ⟨hC,hb.kept hk⟩,?_⟩
 obtain ⟨hs,hb⟩:=hk.hh hs hb
 refine qx 4 (vi (q6.wrap (1+r1))) Kp4 (lg 8 ?_)
 refine slc Kp8 call123 (h.mono ?_)
 rintro e w6 ⟨r2,rfl,hC,hk,h⟩
 refine ⟨_,rfl,.inr ⟨hC,hb.kept hk⟩,?_⟩
 obtain ⟨hs,hb⟩:=hk.hh hs hb
 refine qx 9 (vi (q6.wrap ((q6.wrap (1+r1))+r2))) Kp9 (qx 10 (vi (q6.wrap ((q6.wrap (1+r1))+r2))) (zS (S8 (zG (zG zR)))) (wn (zN (zA ?_))))
 obtain ⟨C2,hC,h⟩:=h
 refine vB (fun x=>C2 x∧HB H x [(p2,[(vi aA),(vi aB),(vi aC),(vu aK),(vs aJ),(vi aL),(vi aM)],127)]) [3,7] [] (by kernel_rfl) (by kernel_rfl) (by kernel_rfl) (by kernel_rfl) ⟨hC,hb.drew⟩ ?_
 intro w7 hw7
 have h:=h w7 hw7
 have hs:Hst w0 H w6 H w7:=by rw [hw7];exact hs.drew
 have hb:HB H w7 [(p2,[(vi aA),(vi aB),(vi aC),(vu aK),(vs aJ),(vi aL),(vi aM)],127)]:=by rw [hw7];exact hb.drew
 have hs:=hs.here
 refine qx 0 (vp p1) Kp0 (qx 1 (vp (some (p2.add 5))) Kp1 (qz 2 (vi aL) Kp2 (fun w' hw'=>(xl (isAgg78 _) (hw'.2.cell 0 5 gZ (by kernel_rfl)))) (qx 4 (vp p1) Kp4 (qx 5 (vp (some (p2.add 6))) Kp5 (qz 6 (vi aM) Kp6 (fun w' hw'=>(xl (isAgg78 _) (hw'.2.cell 0 6 gZ (by kernel_rfl)))) (lg 3 ?_))))))
 refine slc Kp3 call131 (h.mono ?_)
 rintro e w8 ⟨r3,rfl,hC,hk,h⟩
 refine ⟨_,rfl,.inr ⟨hC,hb.kept hk⟩,?_⟩
 obtain ⟨hs,hb⟩:=hk.hh hs hb
 refine lg 7 ?_
 refine slc Kp7 call131 (h.mono ?_)
 rintro e w9 ⟨r4,rfl,hC,hk,h⟩
 refine ⟨_,rfl,.inr ⟨hC,hb.kept hk⟩,?_⟩
 obtain ⟨hs,hb⟩:=hk.hh hs hb
 refine qg 8 ?_
 obtain ⟨z1,hv9,h⟩:=h
 refine sy (v:=(vi z1)) Kp8 (fun w' hw'=>(vS (args:=#[(vi r3),(vi r4)]) (by kernel_rfl) (fun _=>rfl) (hv9 w' hw'.1))) (qx 9 (vi (q6.wrap (1+z1))) Kp9 (qx 10 (vi (q6.wrap (1+z1))) (zS (S8 (zG (zG zR)))) (wn (zN (zA (zA ?_))))))
 refine vO (fun ρ wJ=>∃b1'0 y1:Bool,∃HJ:NP,((decide ((q6.wrap ((q6.wrap (1+r1))+r2))>4096))=b1'0)∧(y1=(b1'0 || (decide ((q6.wrap (1+z1))>64))))∧Hst w0 H w9 HJ wJ∧HB HJ wJ [(p2,[(vi aA),(vi aB),(vi aC),(vu aK),(vs aJ),(vi aL),(vi aM)],127)]∧Has ρ [(0,(vp p1)),(3,(vp (some p2))),(8,(vi (q6.wrap ((q6.wrap (1+r1))+r2)))),(9,(vi (q6.wrap (1+z1)))),(65,(vb y1))]) ?_ ?_
 refine rg (q0 (vi (q6.wrap ((q6.wrap (1+r1))+r2))) (q0 (vb (decide ((q6.wrap ((q6.wrap (1+r1))+r2))>4096))) (q0 (vb (decide ((q6.wrap ((q6.wrap (1+r1))+r2))>4096))) ?_)))
 rcases bte (decide ((q6.wrap ((q6.wrap (1+r1))+r2))>4096)) with hg2 | hg2
 refine sk (yD 62 hg2) (sk (yD 62 hg2) (q2 (vb true) (xT hg2) (ln ?_)))
 exact ⟨true,_,_,hg2,rfl,hs,hb,hm⟩
 refine q1 (vi (q6.wrap (1+z1))) (wy 62 hg2) (q1 (vb (decide ((q6.wrap (1+z1))>64))) (wy 62 hg2) (q2 (vb (decide ((q6.wrap (1+z1))>64))) (xF hg2) (ln ?_)))
 exact ⟨false,_,_,hg2,rfl,hs,hb,hm⟩
 rintro ρ w10 ⟨b1'0,y1,H2,he0,hy1,hs,hb,hH⟩
 subst he0
 have h:=h y1 hy1
 refine vH hH ?_
 refine zN ?_
 refine zB (t:=y1) (by kernel_rfl) (fun hc3=>?_) (fun hc3=>?_)
 have h:=h.1 hc3
 refine eg (q0 (vi 0) (q0 (vi 52) (ln (er (vL ?_)))))
 have h:=h H2 w10 hs
 have hs:=hs.here
 refine xW (.inl rfl) results68 (v:=(vi 0)) (by kernel_rfl) (v':=(vi 52)) (by kernel_rfl) ?_
 exact ⟨0,52,rfl,h⟩
 have h:=h.2 hc3
 refine zC (zN (eg (q0 (vp p1) (q2 (.agg #[(vi aA),(vi aB),(vi aC),(vu aK),(vs aJ),(vi aL),(vi aM)]) (xa p2 [(vi aA),(vi aB),(vi aC),(vu aK),(vs aJ),(vi aL),(vi aM)] (isAgg127 _) (sizeOf127 _) (hb.r0 0 7 gZ)) ?_))))
 have h:=h H2 w10 hs
 have hs:=hs.here
 refine sc call132 (h.mono ?_)
 rintro e w11 ⟨r5,r6,rfl,hk,h⟩
 refine ⟨_,rfl,?_⟩
 obtain ⟨hs,hb⟩:=hk.hh hs hb
 refine q0 (.tuple #[(vi r5),(vb r6)]) (q0 (vi r5) (q0 (vb r6) (q0 (vi r5) (q0 (vb r6) (ln (zA (eg (q0 (vb r6) (zD ?_)))))))))
 refine zN ?_
 refine zB (t:=r6) (by kernel_rfl) (fun hc4=>?_) (fun hc4=>?_)
 have h:=h.1 hc4
 refine eg (q0 (vi r5) (q0 (vi r5) (q0 (vi 0) (ln (er (vL (xW (.inl rfl) results68 (v:=(vi r5)) (by kernel_rfl) (v':=(vi 0)) (by kernel_rfl) ?_)))))))
 exact ⟨r5,0,rfl,h⟩
 have h:=h.2 hc4
 refine zC (zN (zA (eg (q0 (vp p1) ?_))))
 obtain ⟨a1,hp1,h⟩:=h
 refine q2 (vp (some a1)) (xn hp1) (q0 (vp (some a1)) ?_)
 obtain ⟨v1,hv8,h⟩:=h
 refine q2 v1.v (xl (isAgg49 _) hv8) (q0 (vi (v1.len:Int)) (q0 (vb (decide ((v1.len:Int)≥65536))) (ln ?_)))
 refine zB (t:=(decide ((v1.len:Int)≥65536))) (by kernel_rfl) (fun hc5=>?_) (fun hc5=>?_)
 have h:=h.1 hc5
 refine eg (q0 (vi 0) (q0 (vi 6) (ln (er (vL (xW (.inl rfl) results68 (v:=(vi 0)) (by kernel_rfl) (v':=(vi 6)) (by kernel_rfl) ?_))))))
 exact ⟨0,6,rfl,h⟩
 have h:=h.2 hc5
 refine zC (zN (zA ?_))
 obtain ⟨C3,hC,h⟩:=h
 refine vB (fun x=>C3 x∧HB H2 x [(p2,[(vi aA),(vi aB),(vi aC),(vu aK),(vs aJ),(vi aL),(vi aM)],127)]) [6,7,10] [10] (by kernel_rfl) (by kernel_rfl) (by kernel_rfl) (by kernel_rfl) ⟨hC,hb.drew⟩ ?_
 intro w12 hw12
 have h:=h w12 hw12
 have hs:Hst w0 H2 w11 H2 w12:=by rw [hw12];exact hs.drew
 have hb:HB H2 w12 [(p2,[(vi aA),(vi aB),(vi aC),(vu aK),(vs aJ),(vi aL),(vi aM)],127)]:=by rw [hw12];exact hb.drew
 have hs:=hs.here
 refine qx 0 (vp p1) Kp0 (qx 1 (vp p1) Kp1 (qg 2 ?_))
 obtain ⟨a2,hp2,h⟩:=h
 refine sy (v:=(vp (some a2))) Kp2 (fun _ _=>(xn hp2)) (qx 3 (vp (some a2)) Kp3 (qg 4 ?_))
 obtain ⟨v2,hv7,h⟩:=h
 refine sy (v:=v2.v) Kp4 (fun w' hw'=>(xl (isAgg49 _) (hv7 w' hw'.1))) (qz 5 (.agg #[(vi aA),(vi aB),(vi aC),(vu aK),(vs aJ),(vi aL),(vi aM)]) Kp5 (fun w' hw'=>(xa p2 [(vi aA),(vi aB),(vi aC),(vu aK),(vs aJ),(vi aL),(vi aM)] (isAgg127 _) (sizeOf127 _) (hw'.2.r0 0 7 gZ))) (lg 6 (jBS (O:=(.cells #[(vi aA),(vi aB),(vi aC),(vu aK),(vs aJ),(vi aL),(vi aM)] 127)) (fun p=>(Sl.mk (some p) 1 1).v) Kp6 (zJ rfl) (by kernel_rfl) (zK (vs:=#[(0,(.agg #[(vi aA),(vi aB),(vi aC),(vu aK),(vs aJ),(vi aL),(vi aM)]))]) (by kernel_rfl) (by kernel_rfl)) ?_)))
 intro p3 w13 hn7
 have h:=h p3 w13 hn7
 refine ⟨.inr ⟨h.1,hb.kept (Ext.new (F:=None) hn7).keptP⟩,?_⟩
 have h:=h.2
 have hs:=hs.again (Ext.new (F:=None) hn7).keptP
 have hb:=hb.kept (Ext.new (F:=None) hn7).keptP
 refine lg 7 ?_
 obtain ⟨s1,w14,hv6,hC,hk,h⟩:=h
 refine sl (v:=s1.v) Kp7 (zJ rfl) (by kernel_rfl) (vS (args:=#[v2.v,(Sl.mk (some p3) 1 1).v]) (by kernel_rfl) (fun _=>rfl) hv6) (.inr ⟨hC,hb.kept hk⟩) ?_
 obtain ⟨hs,hb⟩:=hk.hh hs hb
 refine qg 8 ?_
 obtain ⟨a3,hp3,h⟩:=h
 refine sy (v:=(vp (some a3))) Kp8 (fun _ _=>(xn hp3)) (qx 9 (vp (some a3)) Kp9 (lg 10 ?_))
 obtain ⟨hp4,hnh,h⟩:=h
 refine jSS (zS (S8 (zG (zG zR)))) (xs (v:=s1.v) (sizeOf49 _) hp4) ?_
 intro w15 hn2
 have h:=h w15 hn2
 refine ⟨.inl (by kernel_rfl),?_⟩
 have hk:=Kept.sc hnh hn2
 obtain ⟨hs,hb⟩:=hk.hh hs hb
 refine wn (zN (eg (q0 (vp p1) (q0 (vp p1) ?_))))
 obtain ⟨a4,hp5,h⟩:=h
 refine q2 (vp (some a4)) (xn hp5) (q0 (vp (some (a4.add 1))) ?_)
 obtain ⟨v3,hv5,h⟩:=h
 refine q2 v3.v (xl (isAgg50 _) hv5) (q0 (vi (q6.wrap ((q6.wrap (1+r1))+r2))) (vR (O:=(.cells #[(vi (q6.wrap ((q6.wrap (1+r1))+r2)))] 3)) (fun p=>(Sl.mk (some p) 1 1).v) (zJ rfl) (zK (vs:=#[(0,(vi (q6.wrap ((q6.wrap (1+r1))+r2))))]) (by kernel_rfl) (by kernel_rfl)) ?_))
 intro p4 w16 hn6
 have h:=h p4 w16 hn6
 have hs:=hs.again (Ext.new (F:=None) hn6).keptP
 have hb:=hb.kept (Ext.new (F:=None) hn6).keptP
 obtain ⟨s2,w17,hv4,hk,h⟩:=h
 refine st (v:=s2.v) (zJ rfl) (vS (args:=#[v3.v,(Sl.mk (some p4) 1 1).v]) (by kernel_rfl) (fun _=>rfl) hv4) ?_
 obtain ⟨hs,hb⟩:=hk.hh hs hb
 obtain ⟨a5,hp6,h⟩:=h
 refine q2 (vp (some a5)) (xn hp6) (q0 (vp (some (a5.add 1))) ?_)
 obtain ⟨hp7,hnh,h⟩:=h
 refine ss (zT (a:=(a5.add 1)) (v:=s2.v) (by kernel_rfl) (by kernel_rfl) rfl (sizeOf50 _) hp7) ?_
 intro w18 hn3
 have h:=h w18 hn3
 have hk:=Kept.sc hnh hn3
 obtain ⟨hs,hb⟩:=hk.hh hs hb
 refine ln (eg (q0 (vp p1) (q0 (vp p1) ?_)))
 obtain ⟨a6,hp8,h⟩:=h
 refine q2 (vp (some a6)) (xn hp8) (q0 (vp (some (a6.add 2))) ?_)
 obtain ⟨v4,hv3,h⟩:=h
 refine q2 v4.v (xl (isAgg50 _) hv3) (q0 (vi (q6.wrap (1+z1))) (vR (O:=(.cells #[(vi (q6.wrap (1+z1)))] 3)) (fun p=>(Sl.mk (some p) 1 1).v) (zJ rfl) (zK (vs:=#[(0,(vi (q6.wrap (1+z1))))]) (by kernel_rfl) (by kernel_rfl)) ?_))
 intro p5 w19 hn5
 have h:=h p5 w19 hn5
 have hs:=hs.again (Ext.new (F:=None) hn5).keptP
 have hb:=hb.kept (Ext.new (F:=None) hn5).keptP
 obtain ⟨s3,w20,hv2,hk,h⟩:=h
 refine st (v:=s3.v) (zJ rfl) (vS (args:=#[v4.v,(Sl.mk (some p5) 1 1).v]) (by kernel_rfl) (fun _=>rfl) hv2) ?_
 obtain ⟨hs,hb⟩:=hk.hh hs hb
 obtain ⟨a7,hp9,h⟩:=h
 refine q2 (vp (some a7)) (xn hp9) (q0 (vp (some (a7.add 2))) ?_)
 obtain ⟨hp10,hnh,h⟩:=h
 refine ss (zT (a:=(a7.add 2)) (v:=s3.v) (by kernel_rfl) (by kernel_rfl) rfl (sizeOf50 _) hp10) ?_
 intro w21 hn4
 have h:=h w21 hn4
 have hk:=Kept.sc hnh hn4
 obtain ⟨hs,hb⟩:=hk.hh hs hb
 refine ln (eg (q0 (vp p1) ?_))
 obtain ⟨a8,hp11,h⟩:=h
 refine q2 (vp (some a8)) (xn hp11) (q0 (vp (some a8)) ?_)
 obtain ⟨v5,hv1,h⟩:=h
 refine q2 v5.v (xl (isAgg49 _) hv1) (q0 (vi (v5.len:Int)) (q0 (vi (v5.len:Int)) (q0 (vi 0) (ln (er (xW (.inl rfl) results68 (v:=(vi (v5.len:Int))) (by kernel_rfl) (v':=(vi 0)) (by kernel_rfl) ?_))))))
 exact ⟨(v5.len:Int),0,rfl,h⟩
 refine rg (q0 (vi (s_A aA)) (q0 (vb (decide ((s_A aA)≥1))) (q0 (vb (decide ((s_A aA)≥1))) ?_)))
 refine zL 6 (fun ρ w=>∃x2:Bool,∃H:NP,Has ρ [(0,(vp p1)),(3,(vp (some p2))),(7,(vi (s_A aA))),(28,(vb x2))]∧Hst w0 H w H w∧HB H w [(p2,[(vi aA),(vi aB),(vi aC),(vu aK),(vs aJ),(vi aL),(vi aM)],127)]∧m_O_j2 p1 aA aB aC aK aJ aL aM x2 w0 H w K) ?_ ?_
 rintro ρ w ⟨x2,H,hH,hs,hb,h⟩
 unfold m_O_j2 at h
 refine zU hH ?_
 refine q0 (vb x2) ?_
 rcases bte x2 with hg3 | hg3
 have h:=h.1 hg3
 refine sk (yD 29 hg3) (sk (yD 29 hg3) (sk (yD 29 hg3) (sm (sm (sm (sm (sm (sk (yD 29 hg3) (q2 (vb true) (xT hg3) (ln ?_))))))))))
 exact ⟨true,H,hm,hs,hb,h⟩
 have h:=h.2 hg3
 refine q1 (vi (s_A aA)) (wy 29 hg3) (q1 (vb (((s_A aA):Int) == 2)) (wy 29 hg3) (q1 (vb (((s_A aA):Int) == 2)) (wy 29 hg3) ?_))
 rcases bte (((s_A aA):Int) == 2) with hg4 | hg4
 have h:=h.1 hg4
 refine q1 (vp p1) (wy 32 hg4) (q1 (vp (some (p2.add 6))) (wy 32 hg4) (stp (v:=(vi aM)) (wy 32 hg4) (xl (isAgg78 _) (hb.c 0 6 gZ)) ?_))
 refine vG (wy 32 hg4) (xc call122) (h.mono ?_)
 rintro e w22 ⟨r7,rfl,hk,h⟩
 refine ⟨_,rfl,?_⟩
 obtain ⟨hs,hb⟩:=hk.hh hs hb
 refine q1 (vb (!r7)) (wy 32 hg4) (stp (v:=(vb (!r7))) (wy 29 hg3) (xT hg4) (q2 (vb (!r7)) (xF hg3) (ln ?_)))
 exact ⟨(!r7),H,hm,hs,hb,h⟩
 have h:=h.2 hg4
 refine sk (yD 32 hg4) (sk (yD 32 hg4) (sk (yD 32 hg4) (sk (yD 32 hg4) (sk (yD 32 hg4) (stp (v:=(vb false)) (wy 29 hg3) (xF hg4) (q2 (vb false) (xF hg3) (ln ?_)))))))
 exact ⟨false,H,hm,hs,hb,h⟩
 rcases bte (decide ((s_A aA)≥1)) with hg5 | hg5
 have h:=h.1 hg5
 refine q1 (vp p1) (wy 22 hg5) (q1 (vp (some (p2.add 5))) (wy 22 hg5) (stp (v:=(vi aL)) (wy 22 hg5) (xl (isAgg78 _) (hb.c 0 5 gZ)) ?_))
 have h:=h H1 w3 hs
 have hs:=hs.here
 refine vG (wy 22 hg5) (xc call122) (h.mono ?_)
 rintro e w23 ⟨r8,rfl,hk,h⟩
 refine ⟨_,rfl,?_⟩
 obtain ⟨hs,hb⟩:=hk.hh hs hb
 refine q1 (vb (!r8)) (wy 22 hg5) (q2 (vb (!r8)) (xT hg5) (zD ?_))
 exact ⟨(!r8),H1,hm,hs,hb,h⟩
 have h:=h.2 hg5
 refine sk (yD 22 hg5) (sk (yD 22 hg5) (sk (yD 22 hg5) (sk (yD 22 hg5) (sk (yD 22 hg5) (q2 (vb false) (xF hg5) (zD ?_))))))
 have h:=h H1 w3 hs
 have hs:=hs.here
 exact ⟨false,H1,hm,hs,hb,h⟩
def m_X_j1 (w1:Option Addr) (t1:Int) (x1:Bool) (w:World) (K:WP):Prop :=Br x1 (K w) (∃a1:Addr,w1=some a1∧∃v1:Sl,w.cell? (a1.add 1)=some v1.v∧∃a2:Addr,At v1 t1 1 a2∧CanW w a2∧∀w2:World,w2=w.setCell a2 (vb true)→∃a3:Addr,w1=some a3∧∃v2:Option Addr,w2.cell? a3=some (vp v2)∧∃a4:Addr,v2=some a4∧∃v3:Sl,w2.cell? a4=some v3.v∧∃a5:Addr,At v3 (q6.wrap (t1 - 1)) 7 a5∧∃v4:Int,w2.cell? (a5.add 5)=some (vi v4)∧Calls prog 133 #[(vp w1),(vi v4)] w2 (fun e w3=>e=.returned (.tuple #[])∧∃a6:Addr,w1=some a6∧∃v5:Option Addr,w3.cell? a6=some (vp v5)∧∃a7:Addr,v5=some a7∧∃v6:Sl,w3.cell? a7=some v6.v∧∃a8:Addr,At v6 (q6.wrap (t1 - 1)) 7 a8∧∃v7:Int,w3.cell? (a8.add 6)=some (vi v7)∧Calls prog 133 #[(vp w1),(vi v7)] w3 (fun e w4=>e=.returned (.tuple #[])∧∃a9:Addr,w1=some a9∧∃v8:Sl,w4.cell? (a9.add 2)=some v8.v∧∀(p1:Addr) (w5:World),New w4 (.cells #[(vi t1)] 78) p1 w5→∃s1:Sl,∃w6:World,(Builtin.append_ #[54,54] 54 #[v8.v,(Sl.mk (some p1) 1 1).v]).run prog w5=.ok s1.v w6∧∃a10:Addr,w1=some a10∧CanW w6 (a10.add 2)∧∀w7:World,w7=w6.setCell (a10.add 2) s1.v→K w7)))
def m_X (w1:Option Addr) (t1:Int) (w0:World) (K:WP):Prop :=∃a11:Addr,w1=some a11∧∃v9:Option Addr,w0.cell? a11=some (vp v9)∧Calls prog 122 #[(vp v9),(vi t1)] w0 (fun e w8=>∃r1:Bool,e=.returned (vb r1)∧Br (!r1) (m_X_j1 w1 t1 true w8 K) (∃a12:Addr,w1=some a12∧∃v10:Sl,w8.cell? (a12.add 1)=some v10.v∧∃a13:Addr,At v10 t1 1 a13∧∃v11:Bool,w8.cell? a13=some (vb v11)∧m_X_j1 w1 t1 v11 w8 K))
theorem w_X (w1:Option Addr) (t1:Int) (w0:World) (K:WP) (h:m_X w1 t1 w0 K) :
  Calls prog 133 #[(vp w1),(vi t1)] w0 (fun e w'=>e=.returned (.tuple #[])∧K  w'):=by
 unfold m_X at h
 refine cw (args:=[(vp w1),(vi t1)]) func133 ntmps133 (zA (zA ?_))
 refine vI (fun ρ w=>∃x1:Bool,Has ρ [(0,(vp w1)),(1,(vi t1)),(19,(vb x1))]∧m_X_j1 w1 t1 x1 w K) ?_ ?_
 rintro ρ w ⟨x1,hH,h⟩
 unfold m_X_j1 at h
 refine vC hH ?_
 refine zB (t:=x1) (by kernel_rfl) (fun hc1=>?_) (fun hc1=>?_)
 have h:=h.1 hc1
 refine er (vL (jFP (.inl rfl) results133 ?_))
 exact ⟨rfl,h⟩
 have h:=h.2 hc1
 refine zC (zN (eg (q0 (vp w1) ?_)))
 obtain ⟨a1,hp1,h⟩:=h
 refine q2 (vp (some a1)) (xn hp1) (q0 (vp (some (a1.add 1))) ?_)
 obtain ⟨v1,hv12,h⟩:=h
 refine q2 v1.v (xl (isAgg199 _) hv12) (q0 (vi t1) ?_)
 obtain ⟨a2,hv11,h⟩:=h
 refine q2 (vp (some a2)) (xi (runUnderlying199 _) (sizeOf4 _) hv11) ?_
 obtain ⟨hp2,h⟩:=h
 refine ss (zT (a:=a2) (v:=(vb true)) (by kernel_rfl) (by kernel_rfl) rfl (sizeOf4 _) hp2) ?_
 intro w2 hn1
 have h:=h w2 hn1
 refine ln (eg (q0 (vp w1) (q0 (vp w1) ?_)))
 obtain ⟨a3,hp3,h⟩:=h
 refine q2 (vp (some a3)) (xn hp3) (q0 (vp (some a3)) ?_)
 obtain ⟨v2,hv10,h⟩:=h
 refine q2 (vp v2) (xl (isAgg53 _) hv10) ?_
 obtain ⟨a4,hp4,h⟩:=h
 refine q2 (vp (some a4)) (xn hp4) (q0 (vp (some a4)) ?_)
 obtain ⟨v3,hv9,h⟩:=h
 refine q2 v3.v (xl (isAgg49 _) hv9) (q0 (vi t1) (q0 (vi (q6.wrap (t1 - 1))) ?_))
 obtain ⟨a5,hv8,h⟩:=h
 refine q2 (vp (some a5)) (xi (runUnderlying49 _) (sizeOf127 _) hv8) (q0 (vp (some (a5.add 5))) ?_)
 obtain ⟨v4,hv7,h⟩:=h
 refine q2 (vi v4) (xl (isAgg78 _) hv7) ?_
 refine sc call133 (h.mono ?_)
 rintro e w3 ⟨rfl,h⟩
 refine ⟨_,rfl,?_⟩
 refine ln (eg (q0 (vp w1) (q0 (vp w1) ?_)))
 obtain ⟨a6,hp5,h⟩:=h
 refine q2 (vp (some a6)) (xn hp5) (q0 (vp (some a6)) ?_)
 obtain ⟨v5,hv6,h⟩:=h
 refine q2 (vp v5) (xl (isAgg53 _) hv6) ?_
 obtain ⟨a7,hp6,h⟩:=h
 refine q2 (vp (some a7)) (xn hp6) (q0 (vp (some a7)) ?_)
 obtain ⟨v6,hv5,h⟩:=h
 refine q2 v6.v (xl (isAgg49 _) hv5) (q0 (vi t1) (q0 (vi (q6.wrap (t1 - 1))) ?_))
 obtain ⟨a8,hv4,h⟩:=h
 refine q2 (vp (some a8)) (xi (runUnderlying49 _) (sizeOf127 _) hv4) (q0 (vp (some (a8.add 6))) ?_)
 obtain ⟨v7,hv3,h⟩:=h
 refine q2 (vi v7) (xl (isAgg78 _) hv3) ?_
 refine sc call133 (h.mono ?_)
 rintro e w4 ⟨rfl,h⟩
 refine ⟨_,rfl,?_⟩
 refine ln (rg (q0 (vp w1) (q0 (vp w1) ?_)))
 obtain ⟨a9,hp7,h⟩:=h
 refine q2 (vp (some a9)) (xn hp7) (q0 (vp (some (a9.add 2))) ?_)
 obtain ⟨v8,hv2,h⟩:=h
 refine q2 v8.v (xl (isAgg54 _) hv2) (q0 (vi t1) (vR (O:=(.cells #[(vi t1)] 78)) (fun p=>(Sl.mk (some p) 1 1).v) (zJ rfl) (zK (vs:=#[(0,(vi t1))]) (by kernel_rfl) (by kernel_rfl)) ?_))
 intro p1 w5 hn3
 have h:=h p1 w5 hn3
 obtain ⟨s1,w6,hv1,h⟩:=h
 refine st (v:=s1.v) (zJ rfl) (vS (args:=#[v8.v,(Sl.mk (some p1) 1 1).v]) (by kernel_rfl) (fun _=>rfl) hv1) ?_
 obtain ⟨a10,hp8,h⟩:=h
 refine q2 (vp (some a10)) (xn hp8) (q0 (vp (some (a10.add 2))) ?_)
 obtain ⟨hp9,h⟩:=h
 refine ss (zT (a:=(a10.add 2)) (v:=s1.v) (by kernel_rfl) (by kernel_rfl) rfl (sizeOf54 _) hp9) ?_
 intro w7 hn2
 have h:=h w7 hn2
 refine zD (jFP (.inr rfl) results133 ?_)
 exact ⟨rfl,h⟩
 refine rg (q0 (vp w1) ?_)
 obtain ⟨a11,hp10,h⟩:=h
 refine q2 (vp (some a11)) (xn hp10) (q0 (vp (some a11)) ?_)
 obtain ⟨v9,hv16,h⟩:=h
 refine q2 (vp v9) (xl (isAgg53 _) hv16) (q0 (vi t1) ?_)
 refine sc call122 (h.mono ?_)
 rintro e w8 ⟨r1,rfl,h⟩
 refine ⟨_,rfl,?_⟩
 refine q0 (vb (!r1)) (q0 (vb (!r1)) ?_)
 rcases bte (!r1) with hg1 | hg1
 have h:=h.1 hg1
 refine sk (yD 11 hg1) (sk (yD 11 hg1) (sk (yD 11 hg1) (sk (yD 11 hg1) (sk (yD 11 hg1) (sk (yD 11 hg1) (sk (yD 11 hg1) (q2 (vb true) (xT hg1) (ln ?_))))))))
 exact ⟨true,hm,h⟩
 have h:=h.2 hg1
 refine q1 (vp w1) (wy 11 hg1) ?_
 obtain ⟨a12,hp11,h⟩:=h
 refine stp (v:=(vp (some a12))) (wy 11 hg1) (xn hp11) (q1 (vp (some (a12.add 1))) (wy 11 hg1) ?_)
 obtain ⟨v10,hv15,h⟩:=h
 refine stp (v:=v10.v) (wy 11 hg1) (xl (isAgg199 _) hv15) (q1 (vi t1) (wy 11 hg1) ?_)
 obtain ⟨a13,hv14,h⟩:=h
 refine stp (v:=(vp (some a13))) (wy 11 hg1) (xi (runUnderlying199 _) (sizeOf4 _) hv14) ?_
 obtain ⟨v11,hv13,h⟩:=h
 refine stp (v:=(vb v11)) (wy 11 hg1) (xl (isAgg4 _) hv13) (q2 (vb v11) (xF hg1) (ln ?_))
 exact ⟨v11,hm,h⟩
def m_N2 (p1:Option Addr) (t1:Int) (w0:World) (K:Sl→WP):Prop :=∃a1:Addr,p1=some a1∧∃v1:Sl,w0.cell? a1=some v1.v∧∃s1:Sl,∃w1:World,(Instr.makeSlice 199 (vi (q6.wrap ((v1.len:Int)+1))) (vi (q6.wrap ((v1.len:Int)+1)))).run prog w0=.ok s1.v w1∧∀(p2:Addr) (w2:World),New w1 (.cells #[(vp p1),s1.v,Sl.nil.v] 201) p2 w2→Calls prog 133 #[(vp (some p2)),(vi t1)] w2 (fun e w3=>e=.returned (.tuple #[])∧∃v2:Sl,w3.cell? (p2.add 2)=some v2.v∧K v2 w3)
theorem w_N2 (p1:Option Addr) (t1:Int) (w0:World) (K:Sl→WP) (h:m_N2 p1 t1 w0 K) :
  Calls prog 69 #[(vp p1),(vi t1)] w0 (fun e w'=>∃r1:Sl,e=.returned r1.v∧K r1 w'):=by
 unfold m_N2 at h
 refine cw (args:=[(vp p1),(vi t1)]) func69 ntmps69 (eg (q0 Sl.nil.v (ln (eg (q0 (vp p1) (q0 (vp p1) ?_))))))
 obtain ⟨a1,hp1,h⟩:=h
 refine q2 (vp (some a1)) (xn hp1) (q0 (vp (some a1)) ?_)
 obtain ⟨v1,hv3,h⟩:=h
 refine q2 v1.v (xl (isAgg49 _) hv3) (q0 (vi (v1.len:Int)) (q0 (vi (q6.wrap ((v1.len:Int)+1))) ?_))
 obtain ⟨s1,w1,hv2,h⟩:=h
 refine st (v:=s1.v) (zJ rfl) (jEE (by kernel_rfl) (by kernel_rfl) hv2) (q0 (.agg #[(vp p1),s1.v,Sl.nil.v]) (sn (O:=(.cells #[(vp p1),s1.v,Sl.nil.v] 201)) xb ?_))
 intro p2 w2 hn1
 have h:=h p2 w2 hn1
 refine q0 (vp (some p2)) (ln (eg (q0 (vp (some p2)) (q0 (vi t1) ?_))))
 refine sc call133 (h.mono ?_)
 rintro e w3 ⟨rfl,h⟩
 refine ⟨_,rfl,?_⟩
 refine ln (eg (q0 (vp (some p2)) (q0 (vp (some p2)) (q0 (vp (some (p2.add 2))) ?_))))
 obtain ⟨v2,hv1,h⟩:=h
 refine q2 v2.v (xl (isAgg54 _) hv1) (q0 v2.v (ln (er (rs1 results69 (v:=v2.v) ?_))))
 exact ⟨v2,rfl,h⟩
def s_A1 (aD aE:Int) (aF aG:Int) (aH:ByteArray) (aI:Sl):Int×Int×Int×Int×ByteArray×Int×Int :=(aD,aE,aF,aG,aH,0,0)
theorem pw_A1 (aD aE:Int) (aF aG:Int) (aH:ByteArray) (aI:Sl) (w0:World) :
  Calls prog 213 #[(.agg #[(vi aD),(vi aE),(vi aF),(vu aG),(vs aH),aI.v])] w0 (fun e w'=>(e=.returned (.agg #[(vi aD),(vi aE),(vi aF),(vu aG),(vs aH),(vi 0),(vi 0)]))∧Pure w0 w'):=by
 refine cw (args:=[(.agg #[(vi aD),(vi aE),(vi aF),(vu aG),(vs aH),aI.v])]) func213 ntmps213 ?_
 have hs:=Hst.start w0
 have hb:=HB.nil None w0
 refine eg (sn (O:=(.cells #[(vi aD),(vi aE),(vi aF),(vu aG),(vs aH),aI.v] 76)) xb ?_)
 intro p1 w1 hn1
 obtain ⟨H1,hs,hb⟩:=hs.alloc hb hn1
 refine sn (O:=(.cells #[(vi 0),(vi 0),(vi 0),(vu 0),ve,(vi 0),(vi 0)] 127)) (zO (zeroValue127 _) rfl) ?_
 intro p2 w2 hn2
 obtain ⟨H2,hs,hb⟩:=hs.alloc hb hn2
 refine ln (eg (q0 (vp (some p1)) (q2 (vi aD) (xl (isAgg3 _) (hb.c0 1 (gS gZ))) (q0 (vp (some (p1.add 1))) (q2 (vi aE) (xl (isAgg3 _) (hb.c 1 1 (gS gZ))) (q0 (vp (some (p1.add 2))) (q2 (vi aF) (xl (isAgg3 _) (hb.c 1 2 (gS gZ))) (q0 (vp (some (p1.add 3))) (q2 (vu aG) (xl (isAgg23 _) (hb.c 1 3 (gS gZ))) ?_)))))))))
 refine q0 (vp (some (p1.add 4))) (q2 (vs aH) (xl (isAgg9 _) (hb.c 1 4 (gS gZ))) (q0 (.agg #[(vi aD),(vi aE),(vi aF),(vu aG),(vs aH),(vi 0),(vi 0)]) (uA (zJ rfl) (xo p2 [(vi aD),(vi aE),(vi aF),(vu aG),(vs aH),(vi 0),(vi 0)] (sizeOf127 _) (hb.k0 0 7 gZ)) ?_)))
 intro w3 hn3
 obtain ⟨hs,hb⟩:=hb.s0 (l':=[(p2,[(vi aD),(vi aE),(vi aF),(vu aG),(vs aH),(vi 0),(vi 0)],127),(p1,[(vi aD),(vi aE),(vi aF),(vu aG),(vs aH),aI.v],76)]) 0 [(vi aD),(vi aE),(vi aF),(vu aG),(vs aH),(vi 0),(vi 0)] hs hn3 gZ
 refine ln (er (uW (.inl rfl) (vs:=[(.agg #[(vi aD),(vi aE),(vi aF),(vu aG),(vs aH),(vi 0),(vi 0)])]) (v:=(.agg #[(vi aD),(vi aE),(vi aF),(vu aG),(vs aH),(vi 0),(vi 0)])) results213 ⟨(rva (isAgg127 _) (sizeOf127 _) (hb.r0 0 7 gZ)),trivial⟩ (by kernel_rfl) ?_))
 exact ⟨by kernel_rfl,(Ext.refl (F:=None) _).hst hs⟩
theorem p_A1 (aD aE:Int) (aF aG:Int) (aH:ByteArray) (aI:Sl) (w0:World):Calls prog 213 #[(.agg #[(.int .i64 aD),(.int .i64 aE),(.int .i64 aF),(.int .u64 aG),(.string aH),aI.v])] w0 (fun e w'=>e=.returned (.agg #[(.int .i64 (s_A1 aD aE aF aG aH aI).1),(.int .i64 (s_A1 aD aE aF aG aH aI).2.1),(.int .i64 (s_A1 aD aE aF aG aH aI).2.2.1),(.int .u64 (s_A1 aD aE aF aG aH aI).2.2.2.1),(.string (s_A1 aD aE aF aG aH aI).2.2.2.2.1),(.int .i64 (s_A1 aD aE aF aG aH aI).2.2.2.2.2.1),(.int .i64 (s_A1 aD aE aF aG aH aI).2.2.2.2.2.2)])∧Pure w0 w'):=pw_A1 aD aE aF aG aH aI w0
def m_V_l2 (aI:Sl) (deep1:Int) (seen1:Option Addr) (e1 i1:Int) (w0:World) (Hl1:NP) (wl1:World) (Kc2:Int→Int→NP→WP) (K:Int→WP):Prop :=Br ((e1 == 0) && (decide (i1<(aI.len:Int)))) (∃a3:Addr,At aI i1 6 a3∧∀(H4:NP) (w11:World),Hst w0 Hl1 wl1 H4 w11→∃aO aP:Int,∃aQ aR:Int,∃aS:ByteArray,∃bB:Sl,Row w11 a3 [(vi aO),(vi aP),(vi aQ),(vu aR),(vs aS),bB.v]∧Calls prog 212 #[(.agg #[(vi aO),(vi aP),(vi aQ),(vu aR),(vs aS),bB.v]),(vi (q6.wrap (deep1+1))),(vp seen1)] w11 (fun e w12=>∃r1:Int,e=.returned (vi r1)∧Kept H4 w11 w12∧Kc2 r1 (q6.wrap (i1+1)) H4 w12)) (∀(H4:NP) (w11:World),Hst w0 Hl1 wl1 H4 w11→K e1 w11)
def m_V_j1 (aD aE:Int) (aF aG:Int) (aH:ByteArray) (aI:Sl) (deep1:Int) (seen1:Option Addr) (x1:Bool) (w0:World) (H:NP) (w:World) (K:Int→WP):Prop :=Br x1 (K 52 w) (∃a1:Addr,seen1=some a1∧∃v1:Int,w.cell? a1=some (vi v1)∧∃a2:Addr,seen1=some a2∧CanW w a2∧¬ H a2.block∧∀w2:World,w2=w.setCell a2 (vi (q6.wrap (v1+1)))→∀y1:Bool,y1=((((s_J aD aE aF aG aH 0 0):Int) != 53) && (((aI.len:Int):Int) != (s_A aD)))→∀(H3:NP) (w10:World),Hst w0 H w2 H3 w10→∃(I1:Int→Int→NP→WP) (mu1:Int→Int→World→Nat),I1 (cond y1 53 (s_J aD aE aF aG aH 0 0)) 0 H3 w10∧∀(e1 i1:Int) (Hl1:NP) (wl1:World),Hst w0 Hl1 wl1 Hl1 wl1→I1 e1 i1 Hl1 wl1→m_V_l2 aI deep1 seen1 e1 i1 w0 Hl1 wl1 (fun y'0 y'1 H' w'=>I1 y'0 y'1 H' w'∧mu1 y'0 y'1 w'<mu1 e1 i1 wl1) K)
def m_V (aD aE:Int) (aF aG:Int) (aH:ByteArray) (aI:Sl) (deep1:Int) (seen1:Option Addr) (w0:World) (K:Int→WP):Prop :=∃a4:Addr,seen1=some a4∧∀(H1:NP) (w1:World),Hst w0 None w0 H1 w1→∃v2:Int,w1.cell? a4=some (vi v2)∧∀(H5:NP) (w13:World),Hst w0 H1 w1 H5 w13→m_V_j1 aD aE aF aG aH aI deep1 seen1 ((decide (v2≥4096)) || (decide (deep1≥64))) w0 H5 w13 K
theorem w_V (aD aE:Int) (aF aG:Int) (aH:ByteArray) (aI:Sl) (deep1:Int) (seen1:Option Addr) (w0:World) (K:Int→WP) (h:m_V aD aE aF aG aH aI deep1 seen1 w0 K) :
  Calls prog 212 #[(.agg #[(vi aD),(vi aE),(vi aF),(vu aG),(vs aH),aI.v]),(vi deep1),(vp seen1)] w0 (fun e w'=>∃r2:Int,e=.returned (vi r2)∧K r2 w'):=by
 unfold m_V at h
 refine cw (args:=[(.agg #[(vi aD),(vi aE),(vi aF),(vu aG),(vs aH),aI.v]),(vi deep1),(vp seen1)]) func212 ntmps212 ?_
 have hs:=Hst.start w0
 have hb:=HB.nil None w0
 refine eg (sn (O:=(.cells #[(vi aD),(vi aE),(vi aF),(vu aG),(vs aH),aI.v] 76)) xb ?_)
 intro p1 w1 hn1
 obtain ⟨H1,hs,hb⟩:=hs.alloc hb hn1
 refine q0 (vi 0) (ln (zA (zA ?_)))
 refine vI (fun ρ w=>∃x1:Bool,∃H:NP,Has ρ [(1,(vi deep1)),(2,(vp seen1)),(3,(vp (some p1))),(16,(vb x1))]∧Hst w0 H w H w∧HB H w [(p1,[(vi aD),(vi aE),(vi aF),(vu aG),(vs aH),aI.v],76)]∧m_V_j1 aD aE aF aG aH aI deep1 seen1 x1 w0 H w K) ?_ ?_
 rintro ρ w ⟨x1,H,hH,hs,hb,h⟩
 unfold m_V_j1 at h
 refine vC hH ?_
 refine zB (t:=x1) (by kernel_rfl) (fun hc1=>?_) (fun hc1=>?_)
 have h:=h.1 hc1
 refine eg (q0 (vi 52) (ln (er (vL (rs1 results212 (v:=(vi 52)) ?_)))))
 exact ⟨52,rfl,h⟩
 have h:=h.2 hc1
 refine zC (zN (eg (q0 (vp seen1) (q0 (vp seen1) ?_))))
 obtain ⟨a1,hp1,h⟩:=h
 refine q2 (vp (some a1)) (xn hp1) ?_
 obtain ⟨v1,hv3,h⟩:=h
 refine q2 (vi v1) (xl (isAgg3 _) hv3) (q0 (vi (q6.wrap (v1+1))) ?_)
 obtain ⟨a2,hp2,h⟩:=h
 refine q2 (vp (some a2)) (xn hp2) ?_
 obtain ⟨hp3,hnh,h⟩:=h
 refine ss (zT (a:=a2) (v:=(vi (q6.wrap (v1+1)))) (by kernel_rfl) (by kernel_rfl) rfl (sizeOf3 _) hp3) ?_
 intro w2 hn2
 have h:=h w2 hn2
 have hk:=Kept.sc hnh hn2
 obtain ⟨hs,hb⟩:=hk.hh hs hb
 refine ln (eg (q2 (.agg #[(vi aD),(vi aE),(vi aF),(vu aG),(vs aH),aI.v]) (xa p1 [(vi aD),(vi aE),(vi aF),(vu aG),(vs aH),aI.v] (isAgg76 _) (sizeOf76 _) (hb.r0 0 6 gZ)) ?_))
 refine sc call213 ((p_A1 aD aE aF aG aH aI w2).mono ?_)
 rintro e w3 ⟨he,hE⟩
 refine ⟨(.agg #[(vi aD),(vi aE),(vi aF),(vu aG),(vs aH),(vi 0),(vi 0)]),he.trans (by kernel_rfl),?_⟩
 have hs:=hs.pure hE
 have hb:=hb.pure hE
 refine sc call130 ((p_J aD aE aF aG aH 0 0 w3).mono ?_)
 rintro e w4 ⟨he,hE⟩
 refine ⟨(vi (s_J aD aE aF aG aH 0 0)),he.trans (by kernel_rfl),?_⟩
 have hs:=hs.pure hE
 have hb:=hb.pure hE
 refine q0 (vi (s_J aD aE aF aG aH 0 0)) (ln (zA (zA ?_)))
 refine vO (fun ρ wJ=>∃b1'0 y1:Bool,∃HJ:NP,((((s_J aD aE aF aG aH 0 0):Int) != 53)=b1'0)∧(y1=(b1'0 && (((aI.len:Int):Int) != (s_A aD))))∧Hst w0 H w2 HJ wJ∧HB HJ wJ [(p1,[(vi aD),(vi aE),(vi aF),(vu aG),(vs aH),aI.v],76)]∧Has ρ [(1,(vi deep1)),(2,(vp seen1)),(3,(vp (some p1))),(7,(vi (s_J aD aE aF aG aH 0 0))),(36,(vb y1))]) ?_ ?_
 refine vB (fun x=>∃H',Hst w0 H w2 H' x∧HB H' x [(p1,[(vi aD),(vi aE),(vi aF),(vu aG),(vs aH),aI.v],76)]) [8] [] (by kernel_rfl) (by kernel_rfl) (by kernel_rfl) (by kernel_rfl) ⟨_,hs.drew,hb.drew⟩ ?_
 intro w8 hw8
 have hs:Hst w0 H w2 H w8:=by rw [hw8];exact hs.drew
 have hb:HB H w8 [(p1,[(vi aD),(vi aE),(vi aF),(vu aG),(vs aH),aI.v],76)]:=by rw [hw8];exact hb.drew
 refine qx 0 (vi (s_J aD aE aF aG aH 0 0)) Kp0 (qx 1 (vb (((s_J aD aE aF aG aH 0 0):Int) != 53)) Kp1 (qx 2 (vb (((s_J aD aE aF aG aH 0 0):Int) != 53)) Kp2 (qg 3 ?_)))
 rcases bte (((s_J aD aE aF aG aH 0 0):Int) != 53) with hg2 | hg2
 refine sz (v:=(vp (some (p1.add 5)))) Kp3 (wy 28 hg2) (fun _ _=>(by kernel_rfl)) (qg 4 (sz (v:=aI.v) Kp4 (wy 28 hg2) (fun w' hw'=>(by obtain ⟨H',hs',hb'⟩:=hw';exact (xl (isAgg74 _) (hb'.cell 0 5 gZ (by kernel_rfl))))) (qw 5 (vi (aI.len:Int)) Kp5 (wy 28 hg2) (qw 6 (vp (some p1)) Kp6 (wy 28 hg2) (qg 7 (sz (v:=(vi aD)) Kp7 (wy 28 hg2) (fun w' hw'=>(by obtain ⟨H',hs',hb'⟩:=hw';exact (xl (isAgg3 _) (hb'.cell0 0 gZ (by kernel_rfl))))) (lg 8 ?_)))))))
 refine jLD Kp8 (wy 28 hg2) (by kernel_rfl) (xc call73) ((p_A aD w8).mono ?_)
 rintro e w9 ⟨he,hE⟩
 have hs:=hs.pure hE
 have hb:=hb.pure hE
 refine ⟨(vi (s_A aD)),he.trans (by kernel_rfl),.inr ⟨_,hs,hb⟩,?_⟩
 refine qw 9 (vb (((aI.len:Int):Int) != (s_A aD))) Kp9 (wy 28 hg2) (qz 10 (vb (((aI.len:Int):Int) != (s_A aD))) (zS (S8 (zG (zG zR)))) (fun _ _=>(xT hg2)) (wn (zN ?_)))
 exact ⟨true,_,_,hg2,rfl,hs,hb,hm⟩
 refine jAQ Kp3 (vM rfl (yD 28 hg2) rfl) (qn 4 Kp4 (vM rfl (yD 28 hg2) rfl) (qn 5 Kp5 (vM rfl (yD 28 hg2) rfl) (qn 6 Kp6 (vM rfl (yD 28 hg2) rfl) (qn 7 Kp7 (vM rfl (yD 28 hg2) rfl) (lg 8 (jAQ Kp8 (vM rfl (yD 28 hg2) rfl) (qn 9 Kp9 (vM rfl (yD 28 hg2) rfl) (qz 10 (vb false) (zS (S8 (zG (zG zR)))) (fun _ _=>(xF hg2)) (wn (zN ?_))))))))))
 exact ⟨false,_,_,hg2,rfl,hs,hb,hm⟩
 rintro ρ w7 ⟨b1'0,y1,H2,he0,hy1,hs,hb,hH⟩
 subst he0
 have h:=h y1 hy1
 refine vH hH ?_
 refine zN ?_
 refine vO (fun ρ wJ=>∃b2'0:Bool,∃HJ:NP,(y1=b2'0)∧Hst w0 H w2 HJ wJ∧HB HJ wJ [(p1,[(vi aD),(vi aE),(vi aF),(vu aG),(vs aH),aI.v],76)]∧Has ρ [(1,(vi deep1)),(2,(vp seen1)),(3,(vp (some p1))),(7,(vi (cond b2'0 53 (s_J aD aE aF aG aH 0 0))))]) ?_ ?_
 refine zB (t:=y1) (by kernel_rfl) (fun hc3=>?_) (fun hc3=>?_)
 refine rg (q0 (vi 53) (ln ?_))
 exact ⟨true,_,hc3,hs,hb,hm⟩
 refine zC (zN ?_)
 exact ⟨false,_,hc3,hs,hb,hm⟩
 rintro ρ w10 ⟨b2'0,H3,he0,hs,hb,hH⟩
 subst he0
 refine vH hH ?_
 refine zN (zA (eg (q0 (vi 0) (ln (zQ ?_)))))
 have h:=h H3 w10 hs
 have hs:=hs.here
 obtain ⟨I1,mu1,h0,hr⟩:=h
 refine qI (σ:=Int×Int×NP×World) (fun s ρ w=>w=s.2.2.2∧Has ρ [(1,(vi deep1)),(2,(vp seen1)),(3,(vp (some p1))),(7,(vi s.1)),(8,(vi s.2.1))]∧Hst w0 s.2.2.1 w s.2.2.1 w∧HB s.2.2.1 w [(p1,[(vi aD),(vi aE),(vi aF),(vu aG),(vs aH),aI.v],76)]∧I1 s.1 s.2.1 s.2.2.1 s.2.2.2) (fun s=>mu1 s.1 s.2.1 s.2.2.2) ((cond y1 53 (s_J aD aE aF aG aH 0 0)),0,H3,w10) ⟨rfl,hm,hs,hb,h0⟩ ?_
 rintro ⟨e1,i1,Hl1,wl1⟩ ρ w ⟨hw,hH,hs,hb,hI⟩
 obtain rfl:wl1=w:=(show w=wl1 from hw).symm
 have hH:Has ρ [(1,(vi deep1)),(2,(vp seen1)),(3,(vp (some p1))),(7,(vi e1)),(8,(vi i1))]:=hH
 have hs:Hst w0 Hl1 wl1 Hl1 wl1:=hs
 have hb:HB Hl1 wl1 [(p1,[(vi aD),(vi aE),(vi aF),(vu aG),(vs aH),aI.v],76)]:=hb
 have h:=hr e1 i1 Hl1 wl1 hs hI
 unfold m_V_l2 at h
 refine vC hH ?_
 refine zA (zA ?_)
 refine vO (fun ρ wJ=>∃b3'0:Bool,∃HJ:NP,((e1 == 0)=b3'0)∧Hst w0 Hl1 wl1 HJ wJ∧HB HJ wJ [(p1,[(vi aD),(vi aE),(vi aF),(vu aG),(vs aH),aI.v],76)]∧Has ρ [(1,(vi deep1)),(2,(vp seen1)),(3,(vp (some p1))),(7,(vi e1)),(8,(vi i1)),(45,(vb (b3'0 && (decide (i1<(aI.len:Int))))))]) ?_ ?_
 refine rg (q0 (vi e1) (q0 (vb (e1 == 0)) (q0 (vb (e1 == 0)) ?_)))
 rcases bte (e1 == 0) with hg4 | hg4
 refine q1 (vi i1) (wy 39 hg4) (q1 (vp (some (p1.add 5))) (wy 39 hg4) (stp (v:=aI.v) (wy 39 hg4) (xl (isAgg74 _) (hb.c 0 5 gZ)) (q1 (vi (aI.len:Int)) (wy 39 hg4) (q1 (vb (decide (i1<(aI.len:Int)))) (wy 39 hg4) (q2 (vb (decide (i1<(aI.len:Int)))) (xT hg4) (ln ?_))))))
 exact ⟨true,_,hg4,hs,hb,hm⟩
 refine sk (yD 39 hg4) (sk (yD 39 hg4) (sk (yD 39 hg4) (sk (yD 39 hg4) (sk (yD 39 hg4) (q2 (vb false) (xF hg4) (ln ?_))))))
 exact ⟨false,_,hg4,hs,hb,hm⟩
 rintro ρ w11 ⟨b3'0,H4,he0,hs,hb,hH⟩
 subst he0
 refine vH hH ?_
 refine zN ?_
 refine zB (t:=((e1 == 0) && (decide (i1<(aI.len:Int))))) (by kernel_rfl) (fun hc4=>?_) (fun hc4=>?_)
 have h:=h.1 hc4
 refine zC (zN (zA (zQ (rg (q0 (vp (some (p1.add 5))) (q2 aI.v (xl (isAgg74 _) (hb.c 0 5 gZ)) (q0 (vi i1) ?_)))))))
 obtain ⟨a3,hv2,h⟩:=h
 refine q2 (vp (some a3)) (xi (runUnderlying74 _) (sizeOf76 _) hv2) ?_
 have h:=h H4 w11 hs
 have hs:=hs.here
 obtain ⟨aO,aP,aQ,aR,aS,bB,hv1,h⟩:=h
 refine q2 (.agg #[(vi aO),(vi aP),(vi aQ),(vu aR),(vs aS),bB.v]) (xa a3 [(vi aO),(vi aP),(vi aQ),(vu aR),(vs aS),bB.v] (isAgg76 _) (sizeOf76 _) hv1) (q0 (vi deep1) (q0 (vi (q6.wrap (deep1+1))) (q0 (vp seen1) ?_)))
 refine sc call212 (h.mono ?_)
 rintro e w12 ⟨r1,rfl,hk,h⟩
 refine ⟨_,rfl,?_⟩
 obtain ⟨hs,hb⟩:=hk.hh hs hb
 refine q0 (vi r1) (zD (tJ (zN (rg (q0 (vi i1) (q0 (vi (q6.wrap (i1+1))) (q0 (vi (q6.wrap (i1+1))) (ln ?_))))))))
 exact ⟨(r1,(q6.wrap (i1+1)),H4,w12),⟨rfl,hm,hs,hb,h.1⟩,h.2⟩
 have h:=h.2 hc4
 refine qE (tN (tN (tP (zN (eg (q0 (vi e1) (q0 (vi e1) (ln (er ?_)))))))))
 have h:=h H4 w11 hs
 have hs:=hs.here
 refine rs1 results212 (v:=(vi e1)) ?_
 exact ⟨e1,rfl,h⟩
 refine rg (q0 (vp seen1) ?_)
 obtain ⟨a4,hp4,h⟩:=h
 refine q2 (vp (some a4)) (xn hp4) ?_
 have h:=h H1 w1 hs
 have hs:=hs.here
 obtain ⟨v2,hv4,h⟩:=h
 refine q2 (vi v2) (xl (isAgg3 _) hv4) (q0 (vb (decide (v2≥4096))) (q0 (vb (decide (v2≥4096))) ?_))
 refine zL 3 (fun ρ wJ=>∃b4'0:Bool,∃HJ:NP,((decide (v2≥4096))=b4'0)∧Hst w0 H1 w1 HJ wJ∧HB HJ wJ [(p1,[(vi aD),(vi aE),(vi aF),(vu aG),(vs aH),aI.v],76)]∧Has ρ [(1,(vi deep1)),(2,(vp seen1)),(3,(vp (some p1))),(16,(vb (b4'0 || (decide (deep1≥64)))))]) ?_ ?_
 rintro ρ w13 ⟨b4'0,H5,he0,hs,hb,hH⟩
 subst he0
 refine zU hH ?_
 refine zD ?_
 have h:=h H5 w13 hs
 have hs:=hs.here
 refine zN ?_
 exact ⟨((decide (v2≥4096)) || (decide (deep1≥64))),H5,hm,hs,hb,h⟩
 rcases bte (decide (v2≥4096)) with hg6 | hg6
 refine sk (yD 13 hg6) (sk (yD 13 hg6) (q2 (vb true) (xT hg6) (zD ?_)))
 exact ⟨true,_,hg6,hs,hb,hm⟩
 refine q1 (vi deep1) (wy 13 hg6) (q1 (vb (decide (deep1≥64))) (wy 13 hg6) (q2 (vb (decide (deep1≥64))) (xF hg6) (zD ?_)))
 exact ⟨false,_,hg6,hs,hb,hm⟩
def m_O2 (aD aE:Int) (aF aG:Int) (aH:ByteArray) (aI:Sl) (w0:World) (K:Int→WP):Prop :=∀(H1:NP) (w1:World),Hst w0 None w0 H1 w1→∀(p2:Addr) (w2:World),New w1 (.cells #[(vi 0)] 3) p2 w2→CanW w2 p2∧¬ H1 p2.block∧∀w3:World,w3=w2.setCell p2 (vi 0)→Calls prog 212 #[(.agg #[(vi aD),(vi aE),(vi aF),(vu aG),(vs aH),aI.v]),(vi 0),(vp (some p2))] w3 (fun e w4=>∃r1:Int,e=.returned (vi r1)∧Kept H1 w3 w4∧K r1 w4)
theorem w_O2 (aD aE:Int) (aF aG:Int) (aH:ByteArray) (aI:Sl) (w0:World) (K:Int→WP) (h:m_O2 aD aE aF aG aH aI w0 K) :
  Calls prog 154 #[(.agg #[(vi aD),(vi aE),(vi aF),(vu aG),(vs aH),aI.v])] w0 (fun e w'=>∃r2:Int,e=.returned (vi r2)∧K r2 w'):=by
 unfold m_O2 at h
 refine cw (args:=[(.agg #[(vi aD),(vi aE),(vi aF),(vu aG),(vs aH),aI.v])]) func154 ntmps154 ?_
 have hs:=Hst.start w0
 have hb:=HB.nil None w0
 refine eg (sn (O:=(.cells #[(vi aD),(vi aE),(vi aF),(vu aG),(vs aH),aI.v] 76)) xb ?_)
 intro p1 w1 hn1
 obtain ⟨H1,hs,hb⟩:=hs.alloc hb hn1
 refine q0 (vi 0) (ln (eg ?_))
 have h:=h H1 w1 hs
 have hs:=hs.here
 refine sn (O:=(.cells #[(vi 0)] 3)) (zO (zeroValue3 _) rfl) ?_
 intro p2 w2 hn3
 have h:=h p2 w2 hn3
 have hs:=hs.again (Ext.new (F:=None) hn3).keptP
 have hb:=hb.kept (Ext.new (F:=None) hn3).keptP
 obtain ⟨hp1,hnh,h⟩:=h
 refine ss (zT (a:=p2) (v:=(vi 0)) (by kernel_rfl) (by kernel_rfl) rfl (sizeOf3 _) hp1) ?_
 intro w3 hn2
 have h:=h w3 hn2
 have hk:=Kept.sc hnh hn2
 obtain ⟨hs,hb⟩:=hk.hh hs hb
 refine ln (eg (q2 (.agg #[(vi aD),(vi aE),(vi aF),(vu aG),(vs aH),aI.v]) (xa p1 [(vi aD),(vi aE),(vi aF),(vu aG),(vs aH),aI.v] (isAgg76 _) (sizeOf76 _) (hb.r0 0 6 gZ)) ?_))
 refine sc call212 (h.mono ?_)
 rintro e w4 ⟨r1,rfl,hk,h⟩
 refine ⟨_,rfl,?_⟩
 obtain ⟨hs,hb⟩:=hk.hh hs hb
 refine q0 (vi r1) (ln (er (rs1 results154 (v:=(vi r1)) ?_)))
 exact ⟨r1,rfl,h⟩
def m_E1_l1 (p1:Option Addr) (aI:Sl) (i1 aA:Int) (aB aC aK:Int) (aJ:ByteArray) (aL aM:Int) (w0:World) (Hl1:NP) (wl1:World) (Kc1:Int→Int→Int→Int→Int→ByteArray→Int→Int→NP→WP) (K:Int→Int→WP):Prop :=Br (decide (i1<(aI.len:Int))) (∃a1:Addr,At aI i1 6 a1∧∃aO aP:Int,∃aQ aR:Int,∃aS:ByteArray,∃bB:Sl,Row wl1 a1 [(vi aO),(vi aP),(vi aQ),(vu aR),(vs aS),bB.v]∧Calls prog 155 #[(vp p1),(.agg #[(vi aO),(vi aP),(vi aQ),(vu aR),(vs aS),bB.v])] wl1 (fun e w5=>∃r1 r2:Int,e=.returned (.tuple #[(vi r1),(vi r2)])∧Kept Hl1 wl1 w5∧Br (r2 != 0) (K 0 r2 w5) (∀(H3:NP) (w8:World),Hst w0 Hl1 w5 H3 w8→Kc1 (q6.wrap (i1+1)) aA aB aC aK aJ (cond (i1 == 0) r1 aL) (cond (i1 == 0) aM r1) H3 w8))) (Calls prog 68 #[(vp p1),(.agg #[(vi aA),(vi aB),(vi aC),(vu aK),(vs aJ),(vi aL),(vi aM)])] wl1 (fun e w11=>∃r3 r4:Int,e=.returned (.tuple #[(vi r3),(vi r4)])∧Kept Hl1 wl1 w11∧K r3 r4 w11))
def m_E1 (p1:Option Addr) (aD aE:Int) (aF aG:Int) (aH:ByteArray) (aI:Sl) (w0:World) (K:Int→Int→WP):Prop :=∀(H2:NP) (w4:World),Hst w0 None w0 H2 w4→∃(I1:Int→Int→Int→Int→Int→ByteArray→Int→Int→NP→WP) (mu1:Int→Int→Int→Int→Int→ByteArray→Int→Int→World→Nat),I1 0 aD aE aF aG aH 0 0 H2 w4∧∀(i1 aA:Int) (aB aC aK:Int) (aJ:ByteArray) (aL aM:Int) (Hl1:NP) (wl1:World),Hst w0 Hl1 wl1 Hl1 wl1→I1 i1 aA aB aC aK aJ aL aM Hl1 wl1→m_E1_l1 p1 aI i1 aA aB aC aK aJ aL aM w0 Hl1 wl1 (fun y'0 y'1 y'2 y'3 y'4 y'5 y'6 y'7 H' w'=>I1 y'0 y'1 y'2 y'3 y'4 y'5 y'6 y'7 H' w'∧mu1 y'0 y'1 y'2 y'3 y'4 y'5 y'6 y'7 w'<mu1 i1 aA aB aC aK aJ aL aM wl1) K
theorem w_E1 (p1:Option Addr) (aD aE:Int) (aF aG:Int) (aH:ByteArray) (aI:Sl) (w0:World) (K:Int→Int→WP) (h:m_E1 p1 aD aE aF aG aH aI w0 K) :
  Calls prog 155 #[(vp p1),(.agg #[(vi aD),(vi aE),(vi aF),(vu aG),(vs aH),aI.v])] w0 (fun e w'=>∃r5 r6:Int,e=.returned (.tuple #[(vi r5),(vi r6)])∧K r5 r6 w'):=by
 unfold m_E1 at h
 refine cw (args:=[(vp p1),(.agg #[(vi aD),(vi aE),(vi aF),(vu aG),(vs aH),aI.v])]) func155 ntmps155 ?_
 have hs:=Hst.start w0
 have hb:=HB.nil None w0
 refine eg (sn (O:=(.cells #[(vi aD),(vi aE),(vi aF),(vu aG),(vs aH),aI.v] 76)) xb ?_)
 intro p2 w1 hn1
 obtain ⟨H1,hs,hb⟩:=hs.alloc hb hn1
 refine q0 (vi 0) (q0 (vi 0) (ln (eg (q2 (.agg #[(vi aD),(vi aE),(vi aF),(vu aG),(vs aH),aI.v]) (xa p2 [(vi aD),(vi aE),(vi aF),(vu aG),(vs aH),aI.v] (isAgg76 _) (sizeOf76 _) (hb.r0 0 6 gZ)) ?_))))
 refine sc call213 ((p_A1 aD aE aF aG aH aI w1).mono ?_)
 rintro e w2 ⟨he,hE⟩
 refine ⟨(.agg #[(vi aD),(vi aE),(vi aF),(vu aG),(vs aH),(vi 0),(vi 0)]),he.trans (by kernel_rfl),?_⟩
 have hs:=hs.pure hE
 have hb:=hb.pure hE
 refine sn (O:=(.cells #[(vi 0),(vi 0),(vi 0),(vu 0),ve,(vi 0),(vi 0)] 127)) (zO (zeroValue127 _) rfl) ?_
 intro p3 w3 hn2
 obtain ⟨H2,hs,hb⟩:=hs.alloc hb hn2
 refine ss (xo p3 [(vi aD),(vi aE),(vi aF),(vu aG),(vs aH),(vi 0),(vi 0)] (sizeOf127 _) (hb.k0 0 7 gZ)) ?_
 intro w4 hn3
 obtain ⟨hs,hb⟩:=hb.s0 (l':=[(p3,[(vi aD),(vi aE),(vi aF),(vu aG),(vs aH),(vi 0),(vi 0)],127),(p2,[(vi aD),(vi aE),(vi aF),(vu aG),(vs aH),aI.v],76)]) 0 [(vi aD),(vi aE),(vi aF),(vu aG),(vs aH),(vi 0),(vi 0)] hs hn3 gZ
 refine ln (zA (eg (q0 (vi 0) (ln (zQ ?_)))))
 have h:=h H2 w4 hs
 have hs:=hs.here
 obtain ⟨I1,mu1,h0,hr⟩:=h
 refine qI (σ:=Int×Int×Int×Int×Int×ByteArray×Int×Int×NP×World) (fun s ρ w=>w=s.2.2.2.2.2.2.2.2.2∧Has ρ [(0,(vp p1)),(3,(vp (some p2))),(6,(vp (some p3))),(7,(vi s.1))]∧Hst w0 s.2.2.2.2.2.2.2.2.1 w s.2.2.2.2.2.2.2.2.1 w∧HB s.2.2.2.2.2.2.2.2.1 w [(p3,[(vi s.2.1),(vi s.2.2.1),(vi s.2.2.2.1),(vu s.2.2.2.2.1),(vs s.2.2.2.2.2.1),(vi s.2.2.2.2.2.2.1),(vi s.2.2.2.2.2.2.2.1)],127),(p2,[(vi aD),(vi aE),(vi aF),(vu aG),(vs aH),aI.v],76)]∧I1 s.1 s.2.1 s.2.2.1 s.2.2.2.1 s.2.2.2.2.1 s.2.2.2.2.2.1 s.2.2.2.2.2.2.1 s.2.2.2.2.2.2.2.1 s.2.2.2.2.2.2.2.2.1 s.2.2.2.2.2.2.2.2.2) (fun s=>mu1 s.1 s.2.1 s.2.2.1 s.2.2.2.1 s.2.2.2.2.1 s.2.2.2.2.2.1 s.2.2.2.2.2.2.1 s.2.2.2.2.2.2.2.1 s.2.2.2.2.2.2.2.2.2) (0,aD,aE,aF,aG,aH,0,0,H2,w4) ⟨rfl,hm,hs,hb,h0⟩ ?_
 rintro ⟨i1,aA,aB,aC,aK,aJ,aL,aM,Hl1,wl1⟩ ρ w ⟨hw,hH,hs,hb,hI⟩
 obtain rfl:wl1=w:=(show w=wl1 from hw).symm
 have hH:Has ρ [(0,(vp p1)),(3,(vp (some p2))),(6,(vp (some p3))),(7,(vi i1))]:=hH
 have hs:Hst w0 Hl1 wl1 Hl1 wl1:=hs
 have hb:HB Hl1 wl1 [(p3,[(vi aA),(vi aB),(vi aC),(vu aK),(vs aJ),(vi aL),(vi aM)],127),(p2,[(vi aD),(vi aE),(vi aF),(vu aG),(vs aH),aI.v],76)]:=hb
 have h:=hr i1 aA aB aC aK aJ aL aM Hl1 wl1 hs hI
 unfold m_E1_l1 at h
 refine vC hH ?_
 refine zA (eg (q0 (vi i1) (q0 (vp (some (p2.add 5))) (q2 aI.v (xl (isAgg74 _) (hb.c 1 5 (gS gZ))) (q0 (vi (aI.len:Int)) (q0 (vb (decide (i1<(aI.len:Int)))) (ln ?_)))))))
 refine zB (t:=(decide (i1<(aI.len:Int)))) (by kernel_rfl) (fun hc1=>?_) (fun hc1=>?_)
 have h:=h.1 hc1
 refine zC (zN (zA (zQ (eg (q0 (vp p1) (q0 (vp (some (p2.add 5))) (q2 aI.v (xl (isAgg74 _) (hb.c 1 5 (gS gZ))) (q0 (vi i1) ?_))))))))
 obtain ⟨a1,hv2,h⟩:=h
 refine q2 (vp (some a1)) (xi (runUnderlying74 _) (sizeOf76 _) hv2) ?_
 obtain ⟨aO,aP,aQ,aR,aS,bB,hv1,h⟩:=h
 refine q2 (.agg #[(vi aO),(vi aP),(vi aQ),(vu aR),(vs aS),bB.v]) (xa a1 [(vi aO),(vi aP),(vi aQ),(vu aR),(vs aS),bB.v] (isAgg76 _) (sizeOf76 _) hv1) ?_
 refine sc call155 (h.mono ?_)
 rintro e w5 ⟨r1,r2,rfl,hk,h⟩
 refine ⟨_,rfl,?_⟩
 obtain ⟨hs,hb⟩:=hk.hh hs hb
 refine q0 (.tuple #[(vi r1),(vi r2)]) (q0 (vi r1) (q0 (vi r2) (q0 (vi r1) (q0 (vi r2) (ln (zA (eg (q0 (vi r2) (q0 (vb (r2 != 0)) ?_)))))))))
 refine ln ?_
 refine zB (t:=(r2 != 0)) (by kernel_rfl) (fun hc2=>?_) (fun hc2=>?_)
 have h:=h.1 hc2
 refine eg (q0 (vi r2) (q0 (vi 0) (q0 (vi r2) (ln (er (vL (uK (vL (vL ?_)))))))))
 refine uK (vL (xW (.inl rfl) results155 (v:=(vi 0)) (by kernel_rfl) (v':=(vi r2)) (by kernel_rfl) ?_))
 exact ⟨0,r2,rfl,h⟩
 have h:=h.2 hc2
 refine zC (zN (eg (q0 (vi i1) (q0 (vb (i1 == 0)) (ln ?_)))))
 refine vO (fun ρ wJ=>∃b1'0:Bool,∃HJ:NP,((i1 == 0)=b1'0)∧Hst w0 Hl1 w5 HJ wJ∧HB HJ wJ [(p3,[(vi aA),(vi aB),(vi aC),(vu aK),(vs aJ),(vi (cond b1'0 r1 aL)),(vi (cond b1'0 aM r1))],127),(p2,[(vi aD),(vi aE),(vi aF),(vu aG),(vs aH),aI.v],76)]∧Has ρ [(0,(vp p1)),(3,(vp (some p2))),(6,(vp (some p3))),(7,(vi i1))]) ?_ ?_
 refine zB (t:=(i1 == 0)) (by kernel_rfl) (fun hc4=>?_) (fun hc4=>?_)
 refine rg (q0 (vi r1) (q0 (vp (some (p3.add 5))) (uA (zJ rfl) (zT (a:=(p3.add 5)) (v:=(vi r1)) (by kernel_rfl) (by kernel_rfl) rfl (sizeOf78 _) (hb.canW 0 5 gZ (by kernel_rfl))) ?_)))
 intro w9 hn6
 have hsb:Hst w0 Hl1 w5 Hl1 w9∧HB Hl1 w9 [(p3,[(vi aA),(vi aB),(vi aC),(vu aK),(vs aJ),(vi r1),(vi aM)],127),(p2,[(vi aD),(vi aE),(vi aF),(vu aG),(vs aH),aI.v],76)]:=by
  rw [hn6];exact hb.set (i:=0) 5 (v:=(vi r1)) hs gZ (by kernel_rfl)
 obtain ⟨hs,hb⟩:=hsb
 refine ln ?_
 exact ⟨true,_,hc4,hs,hb,hm⟩
 refine rg (q0 (vi r1) (q0 (vp (some (p3.add 6))) (uA (zJ rfl) (zT (a:=(p3.add 6)) (v:=(vi r1)) (by kernel_rfl) (by kernel_rfl) rfl (sizeOf78 _) (hb.canW 0 6 gZ (by kernel_rfl))) ?_)))
 intro w10 hn7
 have hsb:Hst w0 Hl1 w5 Hl1 w10∧HB Hl1 w10 [(p3,[(vi aA),(vi aB),(vi aC),(vu aK),(vs aJ),(vi aL),(vi r1)],127),(p2,[(vi aD),(vi aE),(vi aF),(vu aG),(vs aH),aI.v],76)]:=by
  rw [hn7];exact hb.set (i:=0) 6 (v:=(vi r1)) hs gZ (by kernel_rfl)
 obtain ⟨hs,hb⟩:=hsb
 refine ln ?_
 exact ⟨false,_,hc4,hs,hb,hm⟩
 rintro ρ w8 ⟨b1'0,H3,he0,hs,hb,hH⟩
 subst he0
 refine vH hH ?_
 refine tJ (zN (rg (q0 (vi i1) (q0 (vi (q6.wrap (i1+1))) (q0 (vi (q6.wrap (i1+1))) (zD ?_))))))
 have h:=h H3 w8 hs
 have hs:=hs.here
 refine zN ?_
 exact ⟨((q6.wrap (i1+1)),aA,aB,aC,aK,aJ,(cond (i1 == 0) r1 aL),(cond (i1 == 0) aM r1),H3,w8),⟨rfl,hm,hs,hb,h.1⟩,h.2⟩
 have h:=h.2 hc1
 refine qE (tN (tN (tP (zN (eg (q0 (vp p1) (q2 (.agg #[(vi aA),(vi aB),(vi aC),(vu aK),(vs aJ),(vi aL),(vi aM)]) (xa p3 [(vi aA),(vi aB),(vi aC),(vu aK),(vs aJ),(vi aL),(vi aM)] (isAgg127 _) (sizeOf127 _) (hb.r0 0 7 gZ)) ?_)))))))
 refine sc call68 (h.mono ?_)
 rintro e w11 ⟨r3,r4,rfl,hk,h⟩
 refine ⟨_,rfl,?_⟩
 obtain ⟨hs,hb⟩:=hk.hh hs hb
 refine q0 (vi r3) (q0 (vi r4) (q0 (vi r3) (q0 (vi r4) (ln (er (xW (.inl rfl) results155 (v:=(vi r3)) (by kernel_rfl) (v':=(vi r4)) (by kernel_rfl) ?_))))))
 exact ⟨r3,r4,rfl,h⟩
def m_S1 (p1:Option Addr) (n1:Int) (w0:World) (K:WP):Prop :=∃a1:Addr,p1=some a1∧∃v1:Sl,w0.cell? a1=some v1.v∧∃s1:Sl,(Instr.sliceAt 49 v1.v none (some (vi n1)) none).run prog w0=.ok s1.v w0∧∃a2:Addr,p1=some a2∧CanW w0 a2∧∀w1:World,w1=w0.setCell a2 s1.v→∃a3:Addr,p1=some a3∧∃v2:Sl,w1.cell? (a3.add 1)=some v2.v∧∃s2:Sl,(Instr.sliceAt 50 v2.v none (some (vi n1)) none).run prog w1=.ok s2.v w1∧∃a4:Addr,p1=some a4∧CanW w1 (a4.add 1)∧∀w2:World,w2=w1.setCell (a4.add 1) s2.v→∃a5:Addr,p1=some a5∧∃v3:Sl,w2.cell? (a5.add 2)=some v3.v∧∃s3:Sl,(Instr.sliceAt 50 v3.v none (some (vi n1)) none).run prog w2=.ok s3.v w2∧∃a6:Addr,p1=some a6∧CanW w2 (a6.add 2)∧∀w3:World,w3=w2.setCell (a6.add 2) s3.v→K w3
theorem w_S1 (p1:Option Addr) (n1:Int) (w0:World) (K:WP) (h:m_S1 p1 n1 w0 K) :
  Calls prog 156 #[(vp p1),(vi n1)] w0 (fun e w'=>e=.returned (.tuple #[])∧K  w'):=by
 unfold m_S1 at h
 refine cw (args:=[(vp p1),(vi n1)]) func156 ntmps156 (eg (q0 (vp p1) (q0 (vp p1) ?_)))
 obtain ⟨a1,hp1,h⟩:=h
 refine q2 (vp (some a1)) (xn hp1) (q0 (vp (some a1)) ?_)
 obtain ⟨v1,hv6,h⟩:=h
 refine q2 v1.v (xl (isAgg49 _) hv6) (q0 (vi n1) ?_)
 obtain ⟨s1,hv5,h⟩:=h
 refine q2 s1.v (tQ (by kernel_rfl) (by kernel_rfl) (by kernel_rfl) (by kernel_rfl) hv5) ?_
 obtain ⟨a2,hp2,h⟩:=h
 refine q2 (vp (some a2)) (xn hp2) (q0 (vp (some a2)) ?_)
 obtain ⟨hp3,h⟩:=h
 refine ss (zT (a:=a2) (v:=s1.v) (by kernel_rfl) (by kernel_rfl) rfl (sizeOf49 _) hp3) ?_
 intro w1 hn1
 have h:=h w1 hn1
 refine ln (eg (q0 (vp p1) (q0 (vp p1) ?_)))
 obtain ⟨a3,hp4,h⟩:=h
 refine q2 (vp (some a3)) (xn hp4) (q0 (vp (some (a3.add 1))) ?_)
 obtain ⟨v2,hv4,h⟩:=h
 refine q2 v2.v (xl (isAgg50 _) hv4) (q0 (vi n1) ?_)
 obtain ⟨s2,hv3,h⟩:=h
 refine q2 s2.v (tQ (by kernel_rfl) (by kernel_rfl) (by kernel_rfl) (by kernel_rfl) hv3) ?_
 obtain ⟨a4,hp5,h⟩:=h
 refine q2 (vp (some a4)) (xn hp5) (q0 (vp (some (a4.add 1))) ?_)
 obtain ⟨hp6,h⟩:=h
 refine ss (zT (a:=(a4.add 1)) (v:=s2.v) (by kernel_rfl) (by kernel_rfl) rfl (sizeOf50 _) hp6) ?_
 intro w2 hn2
 have h:=h w2 hn2
 refine ln (rg (q0 (vp p1) (q0 (vp p1) ?_)))
 obtain ⟨a5,hp7,h⟩:=h
 refine q2 (vp (some a5)) (xn hp7) (q0 (vp (some (a5.add 2))) ?_)
 obtain ⟨v3,hv2,h⟩:=h
 refine q2 v3.v (xl (isAgg50 _) hv2) (q0 (vi n1) ?_)
 obtain ⟨s3,hv1,h⟩:=h
 refine q2 s3.v (tQ (by kernel_rfl) (by kernel_rfl) (by kernel_rfl) (by kernel_rfl) hv1) ?_
 obtain ⟨a6,hp8,h⟩:=h
 refine q2 (vp (some a6)) (xn hp8) (q0 (vp (some (a6.add 2))) ?_)
 obtain ⟨hp9,h⟩:=h
 refine ss (zT (a:=(a6.add 2)) (v:=s3.v) (by kernel_rfl) (by kernel_rfl) rfl (sizeOf50 _) hp9) ?_
 intro w3 hn3
 have h:=h w3 hn3
 refine zD (jFP (.inr rfl) results156 ?_)
 exact ⟨rfl,h⟩
def m_T1 (p1:Option Addr) (aD aE:Int) (aF aG:Int) (aH:ByteArray) (aI:Sl) (w0:World) (K:Int→Int→WP):Prop :=∀(H1:NP) (w1:World),Hst w0 None w0 H1 w1→Calls prog 154 #[(.agg #[(vi aD),(vi aE),(vi aF),(vu aG),(vs aH),aI.v])] w1 (fun e w2=>∃r1:Int,e=.returned (vi r1)∧Kept H1 w1 w2∧Br (r1 != 0) (K 0 r1 w2) (∃a1:Addr,p1=some a1∧∃v1:Sl,w2.cell? a1=some v1.v∧Calls prog 155 #[(vp p1),(.agg #[(vi aD),(vi aE),(vi aF),(vu aG),(vs aH),aI.v])] w2 (fun e w3=>∃r2 r3:Int,e=.returned (.tuple #[(vi r2),(vi r3)])∧Kept H1 w2 w3∧Br (r3 != 0) (Calls prog 156 #[(vp p1),(vi (v1.len:Int))] w3 (fun e w4=>e=.returned (.tuple #[])∧Kept H1 w3 w4∧K r2 r3 w4)) (K r2 r3 w3))))
theorem w_T1 (p1:Option Addr) (aD aE:Int) (aF aG:Int) (aH:ByteArray) (aI:Sl) (w0:World) (K:Int→Int→WP) (h:m_T1 p1 aD aE aF aG aH aI w0 K) :
  Calls prog 100 #[(vp p1),(.agg #[(vi aD),(vi aE),(vi aF),(vu aG),(vs aH),aI.v])] w0 (fun e w'=>∃r4 r5:Int,e=.returned (.tuple #[(vi r4),(vi r5)])∧K r4 r5 w'):=by
 unfold m_T1 at h
 refine cw (args:=[(vp p1),(.agg #[(vi aD),(vi aE),(vi aF),(vu aG),(vs aH),aI.v])]) func100 ntmps100 ?_
 have hs:=Hst.start w0
 have hb:=HB.nil None w0
 refine eg (sn (O:=(.cells #[(vi aD),(vi aE),(vi aF),(vu aG),(vs aH),aI.v] 76)) xb ?_)
 intro p2 w1 hn1
 obtain ⟨H1,hs,hb⟩:=hs.alloc hb hn1
 refine q0 (vi 0) (q0 (vi 0) (ln (eg (q2 (.agg #[(vi aD),(vi aE),(vi aF),(vu aG),(vs aH),aI.v]) (xa p2 [(vi aD),(vi aE),(vi aF),(vu aG),(vs aH),aI.v] (isAgg76 _) (sizeOf76 _) (hb.r0 0 6 gZ)) ?_))))
 have h:=h H1 w1 hs
 have hs:=hs.here
 refine sc call154 (h.mono ?_)
 rintro e w2 ⟨r1,rfl,hk,h⟩
 refine ⟨_,rfl,?_⟩
 obtain ⟨hs,hb⟩:=hk.hh hs hb
 refine q0 (vi r1) (ln (zA (eg (q0 (vi r1) (q0 (vb (r1 != 0)) (ln ?_))))))
 refine zB (t:=(r1 != 0)) (by kernel_rfl) (fun hc1=>?_) (fun hc1=>?_)
 have h:=h.1 hc1
 refine eg (q0 (vi r1) (q0 (vi 0) (q0 (vi r1) (ln (er (vL (xW (.inl rfl) results100 (v:=(vi 0)) (by kernel_rfl) (v':=(vi r1)) (by kernel_rfl) ?_)))))))
 exact ⟨0,r1,rfl,h⟩
 have h:=h.2 hc1
 refine zC (zN (eg (q0 (vp p1) ?_)))
 obtain ⟨a1,hp1,h⟩:=h
 refine q2 (vp (some a1)) (xn hp1) (q0 (vp (some a1)) ?_)
 obtain ⟨v1,hv1,h⟩:=h
 refine q2 v1.v (xl (isAgg49 _) hv1) (q0 (vi (v1.len:Int)) (q0 (vi (v1.len:Int)) (ln (eg (q0 (vp p1) (q2 (.agg #[(vi aD),(vi aE),(vi aF),(vu aG),(vs aH),aI.v]) (xa p2 [(vi aD),(vi aE),(vi aF),(vu aG),(vs aH),aI.v] (isAgg76 _) (sizeOf76 _) (hb.r0 0 6 gZ)) ?_))))))
 refine sc call155 (h.mono ?_)
 rintro e w3 ⟨r2,r3,rfl,hk,h⟩
 refine ⟨_,rfl,?_⟩
 obtain ⟨hs,hb⟩:=hk.hh hs hb
 refine q0 (.tuple #[(vi r2),(vi r3)]) (q0 (vi r2) (q0 (vi r3) (q0 (vi r2) (q0 (vi r3) (ln (zA (eg (q0 (vi r3) (q0 (vb (r3 != 0)) ?_)))))))))
 refine ln ?_
 refine zB (t:=(r3 != 0)) (by kernel_rfl) (fun hc2=>?_) (fun hc2=>?_)
 have h:=h.1 hc2
 refine rg (q0 (vp p1) (q0 (vi (v1.len:Int)) ?_))
 refine sc call156 (h.mono ?_)
 rintro e w4 ⟨rfl,hk,h⟩
 refine ⟨_,rfl,?_⟩
 obtain ⟨hs,hb⟩:=hk.hh hs hb
 refine ln (eg (q0 (vi r2) (q0 (vi r3) (q0 (vi r2) (q0 (vi r3) (ln (er (xW (.inl rfl) results100 (v:=(vi r2)) (by kernel_rfl) (v':=(vi r3)) (by kernel_rfl) ?_))))))))
 exact ⟨r2,r3,rfl,h⟩
 have h:=h.2 hc2
 refine zC (zN (eg (q0 (vi r2) (q0 (vi r3) (q0 (vi r2) (q0 (vi r3) (ln (er (xW (.inl rfl) results100 (v:=(vi r2)) (by kernel_rfl) (v':=(vi r3)) (by kernel_rfl) ?_)))))))))
 exact ⟨r2,r3,rfl,h⟩
end Go.Proofs
end
section
open Go Go.SE
open Go.IntKind renaming i64 → q6
namespace Go.Proofs
open Tryz
set_option maxRecDepth 100000
set_option maxHeartbeats 4000000
attribute [local irreducible] wpL wpX opE wpE Calls
def s_C1 (kind1:Int):Bool :=(((((kind1 == 1) || (kind1 == 6)) || (kind1 == 7)) || (kind1 == 8)) || (kind1 == 9))
theorem pw_C1 (kind1:Int) (w0:World) :
  Calls prog 126 #[(vi kind1)] w0 (fun e w'=>(e=.returned (vb (((((kind1 == 1) || (kind1 == 6)) || (kind1 == 7)) || (kind1 == 8)) || (kind1 == 9))))∧Pure w0 w'):=by
 refine cw (args:=[(vi kind1)]) func126 ntmps126 (eg (q0 (vb false) (ln (zA ?_))))
 refine vO (fun ρ wJ=>w0=wJ∧Has ρ [(2,(vb (((((kind1 == 1) || (kind1 == 6)) || (kind1 == 7)) || (kind1 == 8)) || (kind1 == 9))))]) ?_ ?_
 refine rg (q0 (vi kind1) (q0 (vb (kind1 == 1)) (q0 (vb (kind1 == 1)) ?_)))
 refine zL 3 (fun ρ wJ=>∃b6'0:Bool,((kind1 == 1)=b6'0)∧w0=wJ∧Has ρ [(0,(vi kind1)),(8,(vb (b6'0 || (kind1 == 6))))]) ?_ ?_
 rintro ρ w6 ⟨b6'0,he0,hw,hH⟩
 subst he0
 subst hw
 refine zU hH ?_
 refine q0 (vb ((kind1 == 1) || (kind1 == 6))) ?_
 refine zL 3 (fun ρ wJ=>∃b7'0:Bool,(((kind1 == 1) || (kind1 == 6))=b7'0)∧w0=wJ∧Has ρ [(0,(vi kind1)),(12,(vb (b7'0 || (kind1 == 7))))]) ?_ ?_
 rintro ρ w7 ⟨b7'0,he0,hw,hH⟩
 subst he0
 subst hw
 refine zU hH ?_
 refine q0 (vb (((kind1 == 1) || (kind1 == 6)) || (kind1 == 7))) ?_
 refine zL 3 (fun ρ wJ=>∃b8'0:Bool,((((kind1 == 1) || (kind1 == 6)) || (kind1 == 7))=b8'0)∧w0=wJ∧Has ρ [(0,(vi kind1)),(16,(vb (b8'0 || (kind1 == 8))))]) ?_ ?_
 rintro ρ w8 ⟨b8'0,he0,hw,hH⟩
 subst he0
 subst hw
 refine zU hH ?_
 refine q0 (vb ((((kind1 == 1) || (kind1 == 6)) || (kind1 == 7)) || (kind1 == 8))) ?_
 refine zL 3 (fun ρ wJ=>∃b9'0:Bool,(((((kind1 == 1) || (kind1 == 6)) || (kind1 == 7)) || (kind1 == 8))=b9'0)∧w0=wJ∧Has ρ [(20,(vb (b9'0 || (kind1 == 9))))]) ?_ ?_
 rintro ρ w9 ⟨b9'0,he0,hw,hH⟩
 subst he0
 subst hw
 refine zU hH ?_
 refine q0 (vb (((((kind1 == 1) || (kind1 == 6)) || (kind1 == 7)) || (kind1 == 8)) || (kind1 == 9))) (ln ?_)
 exact ⟨rfl,hm⟩
 rcases bte ((((kind1 == 1) || (kind1 == 6)) || (kind1 == 7)) || (kind1 == 8)) with hg16 | hg16
 refine sk (yD 17 hg16) (sk (yD 17 hg16) (q2 (vb true) (xT hg16) (zD ?_)))
 exact ⟨true,hg16,rfl,hm⟩
 refine q1 (vi kind1) (wy 17 hg16) (q1 (vb (kind1 == 9)) (wy 17 hg16) (q2 (vb (kind1 == 9)) (xF hg16) (zD ?_)))
 exact ⟨false,hg16,rfl,hm⟩
 rcases bte (((kind1 == 1) || (kind1 == 6)) || (kind1 == 7)) with hg14 | hg14
 refine sk (yD 13 hg14) (sk (yD 13 hg14) (q2 (vb true) (xT hg14) (zD ?_)))
 exact ⟨true,hg14,rfl,hm⟩
 refine q1 (vi kind1) (wy 13 hg14) (q1 (vb (kind1 == 8)) (wy 13 hg14) (q2 (vb (kind1 == 8)) (xF hg14) (zD ?_)))
 exact ⟨false,hg14,rfl,hm⟩
 rcases bte ((kind1 == 1) || (kind1 == 6)) with hg12 | hg12
 refine sk (yD 9 hg12) (sk (yD 9 hg12) (q2 (vb true) (xT hg12) (zD ?_)))
 exact ⟨true,hg12,rfl,hm⟩
 refine q1 (vi kind1) (wy 9 hg12) (q1 (vb (kind1 == 7)) (wy 9 hg12) (q2 (vb (kind1 == 7)) (xF hg12) (zD ?_)))
 exact ⟨false,hg12,rfl,hm⟩
 rcases bte (kind1 == 1) with hg10 | hg10
 refine sk (yD 5 hg10) (sk (yD 5 hg10) (q2 (vb true) (xT hg10) (zD ?_)))
 exact ⟨true,hg10,rfl,hm⟩
 refine q1 (vi kind1) (wy 5 hg10) (q1 (vb (kind1 == 6)) (wy 5 hg10) (q2 (vb (kind1 == 6)) (xF hg10) (zD ?_)))
 exact ⟨false,hg10,rfl,hm⟩
 rintro ρ w5 ⟨hw,hH⟩
 subst hw
 refine vH hH ?_
 refine zN (er (rs1 results126 (v:=(vb (((((kind1 == 1) || (kind1 == 6)) || (kind1 == 7)) || (kind1 == 8)) || (kind1 == 9)))) ?_))
 exact ⟨by kernel_rfl,Ext.refl _⟩
theorem p_C1 (kind1:Int) (w0:World):Calls prog 126 #[(.int .i64 kind1)] w0 (fun e w'=>e=.returned (.bool (s_C1 kind1))∧Pure w0 w'):=pw_C1 kind1 w0
def m_P2 (p1:Sl) (w0:World) (K:(Option Addr)→WP):Prop :=Calls prog 215 #[p1.v] w0 (fun e w1=>∃r1:Sl,e=.returned r1.v∧∀(p2:Addr) (w2:World),New w1 (.cells #[r1.v,(vi 0),(vi 0),(vi 0)] 299) p2 w2→K (some p2) w2)
theorem w_P2 (p1:Sl) (w0:World) (K:(Option Addr)→WP) (h:m_P2 p1 w0 K) :
  Calls prog 158 #[p1.v] w0 (fun e w'=>∃r2:Option Addr,e=.returned (vp r2)∧K r2 w'):=by
 unfold m_P2 at h
 refine cw (args:=[p1.v]) func158 ntmps158 (eg (q0 (vp none) (ln (eg (q0 p1.v ?_)))))
 refine sc call215 (h.mono ?_)
 rintro e w1 ⟨r1,rfl,h⟩
 refine ⟨_,rfl,?_⟩
 refine q0 (.agg #[r1.v,(vi 0),(vi 0),(vi 0)]) (sn (O:=(.cells #[r1.v,(vi 0),(vi 0),(vi 0)] 299)) xb ?_)
 intro p2 w2 hn1
 have h:=h p2 w2 hn1
 refine q0 (vp (some p2)) (ln (er (rs1 results158 (v:=(vp (some p2))) ?_)))
 exact ⟨(some p2),rfl,h⟩
def m_Q2  (w0:World) (K:(Option Nat)→WP):Prop :=∀(p1:Addr) (w1:World),New w0 (.cells #[(.nilFunc:Value),(.nilFunc:Value)] 263) p1 w1→(∀j,j<2→CanW w1 (p1.add j))∧∀w2:World,w2=storeRow w1 p1 [(.func (.func 216) #[] #[]),(.func (.func 218) #[] #[])]→∀(p2:Addr) (w3:World),New w2 (.cells #[(.nilFunc:Value),(.nilFunc:Value)] 263) p2 w3→(∀j,j<2→CanW w3 (p2.add j))∧∀w4:World,w4=storeRow w3 p2 [(.func (.func 220) #[] #[]),(.func (.func 221) #[] #[])]→∀(p3:Addr) (w5:World),New w4 (.cells #[(.nilFunc:Value),(.nilFunc:Value)] 263) p3 w5→(∀j,j<2→CanW w5 (p3.add j))∧∀w6:World,w6=storeRow w5 p3 [(.func (.func 222) #[] #[]),(.func (.func 223) #[] #[])]→∀(p4:Addr) (w7:World),New w6 (.cells #[(.nilFunc:Value),(.nilFunc:Value)] 263) p4 w7→(∀j,j<2→CanW w7 (p4.add j))∧∀w8:World,w8=storeRow w7 p4 [(.func (.func 224) #[] #[]),(.func (.func 226) #[] #[])]→∀(p5:Addr) (w9:World),New w8 (.cells #[(.nilFunc:Value),(.nilFunc:Value)] 263) p5 w9→(∀j,j<2→CanW w9 (p5.add j))∧∀w10:World,w10=storeRow w9 p5 [(.func (.func 228) #[] #[]),(.func (.func 229) #[] #[])]→∀(p6:Addr) (w11:World),New w10 (.cells #[(.nilFunc:Value),(.nilFunc:Value)] 263) p6 w11→(∀j,j<2→CanW w11 (p6.add j))∧∀w12:World,w12=storeRow w11 p6 [(.func (.func 230) #[] #[]),(.func (.func 231) #[] #[])]→∀(p7:Addr) (w13:World),New w12 (.map #[] 0) p7 w13→∃vput1:Value,∃vget1:Value,Row w13 p1 [vput1,vget1]∧∀(p8:Addr) (w14:World),New w13 (.cells #[vput1,vget1] 263) p8 w14→∃w15:World,(Instr.mapUpdate 230 (.map (some p7.block)) (vi 1) (Sl.mk (some p8) 1 1).v).run prog w14=.ok () w15∧∃vput2:Value,∃vget2:Value,Row w15 p3 [vput2,vget2]∧∀(p9:Addr) (w16:World),New w15 (.cells #[vput2,vget2] 263) p9 w16→∃w17:World,(Instr.mapUpdate 230 (.map (some p7.block)) (vi 2) (Sl.mk (some p9) 1 1).v).run prog w16=.ok () w17∧∃vput3:Value,∃vget3:Value,Row w17 p4 [vput3,vget3]∧∀(p10:Addr) (w18:World),New w17 (.cells #[vput3,vget3] 263) p10 w18→∃w19:World,(Instr.mapUpdate 230 (.map (some p7.block)) (vi 3) (Sl.mk (some p10) 1 1).v).run prog w18=.ok () w19∧∃vput4:Value,∃vget4:Value,Row w19 p5 [vput4,vget4]∧∃vput5:Value,∃vget5:Value,Row w19 p6 [vput5,vget5]∧∀(p11:Addr) (w20:World),New w19 (.cells #[vput4,vget4,vput5,vget5] 263) p11 w20→∃w21:World,(Instr.mapUpdate 230 (.map (some p7.block)) (vi 4) (Sl.mk (some p11) 2 2).v).run prog w20=.ok () w21∧∃vput6:Value,∃vget6:Value,Row w21 p5 [vput6,vget6]∧∀(p12:Addr) (w22:World),New w21 (.cells #[vput6,vget6] 263) p12 w22→∃w23:World,(Instr.mapUpdate 230 (.map (some p7.block)) (vi 5) (Sl.mk (some p12) 1 1).v).run prog w22=.ok () w23∧∃vput7:Value,∃vget7:Value,Row w23 p1 [vput7,vget7]∧∀(p13:Addr) (w24:World),New w23 (.cells #[vput7,vget7] 263) p13 w24→∃w25:World,(Instr.mapUpdate 230 (.map (some p7.block)) (vi 6) (Sl.mk (some p13) 1 1).v).run prog w24=.ok () w25∧∃vput8:Value,∃vget8:Value,Row w25 p1 [vput8,vget8]∧∃vput9:Value,∃vget9:Value,Row w25 p5 [vput9,vget9]∧∀(p14:Addr) (w26:World),New w25 (.cells #[vput8,vget8,vput9,vget9] 263) p14 w26→∃w27:World,(Instr.mapUpdate 230 (.map (some p7.block)) (vi 7) (Sl.mk (some p14) 2 2).v).run prog w26=.ok () w27∧∃vput10:Value,∃vget10:Value,Row w27 p1 [vput10,vget10]∧∃vput11:Value,∃vget11:Value,Row w27 p2 [vput11,vget11]∧∃vput12:Value,∃vget12:Value,Row w27 p5 [vput12,vget12]∧∀(p15:Addr) (w28:World),New w27 (.cells #[vput10,vget10,vput11,vget11,vput12,vget12] 263) p15 w28→∃w29:World,(Instr.mapUpdate 230 (.map (some p7.block)) (vi 8) (Sl.mk (some p15) 3 3).v).run prog w28=.ok () w29∧∃vput13:Value,∃vget13:Value,Row w29 p1 [vput13,vget13]∧∃vput14:Value,∃vget14:Value,Row w29 p2 [vput14,vget14]∧∃vput15:Value,∃vget15:Value,Row w29 p5 [vput15,vget15]∧∀(p16:Addr) (w30:World),New w29 (.cells #[vput13,vget13,vput14,vget14,vput15,vget15] 263) p16 w30→∃w31:World,(Instr.mapUpdate 230 (.map (some p7.block)) (vi 9) (Sl.mk (some p16) 3 3).v).run prog w30=.ok () w31∧K (some p7.block) w31
theorem w_Q2  (w0:World) (K:(Option Nat)→WP) (h:m_Q2  w0 K) :
  Calls prog 159 #[] w0 (fun e w'=>∃r1:Option Nat,e=.returned (.map r1)∧K r1 w'):=by
 unfold m_Q2 at h
 refine cw (args:=[]) func159 ntmps159 (eg (q0 (.map none) (ln (eg (q0 (.agg #[(.func (.func 216) #[] #[]),(.func (.func 218) #[] #[])]) (sn (O:=(.cells #[(.nilFunc:Value),(.nilFunc:Value)] 263)) (zO (zeroValue263 _) rfl) ?_))))))
 intro p1 w1 hn22
 have h:=h p1 w1 hn22
 obtain ⟨hp1,h⟩:=h
 refine ss (xo p1 [(.func (.func 216) #[] #[]),(.func (.func 218) #[] #[])] (sizeOf263 _) hp1) ?_
 intro w2 hn1
 have h:=h w2 hn1
 refine ln (eg (q0 (.agg #[(.func (.func 220) #[] #[]),(.func (.func 221) #[] #[])]) (sn (O:=(.cells #[(.nilFunc:Value),(.nilFunc:Value)] 263)) (zO (zeroValue263 _) rfl) ?_)))
 intro p2 w3 hn21
 have h:=h p2 w3 hn21
 obtain ⟨hp2,h⟩:=h
 refine ss (xo p2 [(.func (.func 220) #[] #[]),(.func (.func 221) #[] #[])] (sizeOf263 _) hp2) ?_
 intro w4 hn2
 have h:=h w4 hn2
 refine ln (eg (q0 (.agg #[(.func (.func 222) #[] #[]),(.func (.func 223) #[] #[])]) (sn (O:=(.cells #[(.nilFunc:Value),(.nilFunc:Value)] 263)) (zO (zeroValue263 _) rfl) ?_)))
 intro p3 w5 hn20
 have h:=h p3 w5 hn20
 obtain ⟨hp3,h⟩:=h
 refine ss (xo p3 [(.func (.func 222) #[] #[]),(.func (.func 223) #[] #[])] (sizeOf263 _) hp3) ?_
 intro w6 hn3
 have h:=h w6 hn3
 refine ln (eg (q0 (.agg #[(.func (.func 224) #[] #[]),(.func (.func 226) #[] #[])]) (sn (O:=(.cells #[(.nilFunc:Value),(.nilFunc:Value)] 263)) (zO (zeroValue263 _) rfl) ?_)))
 intro p4 w7 hn19
 have h:=h p4 w7 hn19
 obtain ⟨hp4,h⟩:=h
 refine ss (xo p4 [(.func (.func 224) #[] #[]),(.func (.func 226) #[] #[])] (sizeOf263 _) hp4) ?_
 intro w8 hn4
 have h:=h w8 hn4
 refine ln (eg (q0 (.agg #[(.func (.func 228) #[] #[]),(.func (.func 229) #[] #[])]) (sn (O:=(.cells #[(.nilFunc:Value),(.nilFunc:Value)] 263)) (zO (zeroValue263 _) rfl) ?_)))
 intro p5 w9 hn18
 have h:=h p5 w9 hn18
 obtain ⟨hp5,h⟩:=h
 refine ss (xo p5 [(.func (.func 228) #[] #[]),(.func (.func 229) #[] #[])] (sizeOf263 _) hp5) ?_
 intro w10 hn5
 have h:=h w10 hn5
 refine ln (eg (q0 (.agg #[(.func (.func 230) #[] #[]),(.func (.func 231) #[] #[])]) (sn (O:=(.cells #[(.nilFunc:Value),(.nilFunc:Value)] 263)) (zO (zeroValue263 _) rfl) ?_)))
 intro p6 w11 hn17
 have h:=h p6 w11 hn17
 obtain ⟨hp6,h⟩:=h
 refine ss (xo p6 [(.func (.func 230) #[] #[]),(.func (.func 231) #[] #[])] (sizeOf263 _) hp6) ?_
 intro w12 hn6
 have h:=h w12 hn6
 refine ln (eg (vR (O:=(.map #[] 0)) (fun p=>.map (some p.block)) (zJ rfl) (by kernel_rfl) ?_))
 intro p7 w13 hn16
 have h:=h p7 w13 hn16
 obtain ⟨vput1,vget1,hv24,h⟩:=h
 refine q2 (.agg #[vput1,vget1]) (xa p1 [vput1,vget1] (isAgg263 _) (sizeOf263 _) hv24) (vR (O:=(.cells #[vput1,vget1] 263)) (fun p=>(Sl.mk (some p) 1 1).v) (zJ rfl) (zK (vs:=#[(0,(.agg #[vput1,vget1]))]) (by kernel_rfl) (by kernel_rfl)) ?_)
 intro p8 w14 hn15
 have h:=h p8 w14 hn15
 obtain ⟨w15,hv23,h⟩:=h
 refine yZ (zJ rfl) (uX (by kernel_rfl) (by kernel_rfl) (by kernel_rfl) hv23) ?_
 obtain ⟨vput2,vget2,hv22,h⟩:=h
 refine q2 (.agg #[vput2,vget2]) (xa p3 [vput2,vget2] (isAgg263 _) (sizeOf263 _) hv22) (vR (O:=(.cells #[vput2,vget2] 263)) (fun p=>(Sl.mk (some p) 1 1).v) (zJ rfl) (zK (vs:=#[(0,(.agg #[vput2,vget2]))]) (by kernel_rfl) (by kernel_rfl)) ?_)
 intro p9 w16 hn14
 have h:=h p9 w16 hn14
 obtain ⟨w17,hv21,h⟩:=h
 refine yZ (zJ rfl) (uX (by kernel_rfl) (by kernel_rfl) (by kernel_rfl) hv21) ?_
 obtain ⟨vput3,vget3,hv20,h⟩:=h
 refine q2 (.agg #[vput3,vget3]) (xa p4 [vput3,vget3] (isAgg263 _) (sizeOf263 _) hv20) (vR (O:=(.cells #[vput3,vget3] 263)) (fun p=>(Sl.mk (some p) 1 1).v) (zJ rfl) (zK (vs:=#[(0,(.agg #[vput3,vget3]))]) (by kernel_rfl) (by kernel_rfl)) ?_)
 intro p10 w18 hn13
 have h:=h p10 w18 hn13
 obtain ⟨w19,hv19,h⟩:=h
 refine yZ (zJ rfl) (uX (by kernel_rfl) (by kernel_rfl) (by kernel_rfl) hv19) ?_
 obtain ⟨vput4,vget4,hv18,h⟩:=h
 refine q2 (.agg #[vput4,vget4]) (xa p5 [vput4,vget4] (isAgg263 _) (sizeOf263 _) hv18) ?_
 obtain ⟨vput5,vget5,hv17,h⟩:=h
 refine q2 (.agg #[vput5,vget5]) (xa p6 [vput5,vget5] (isAgg263 _) (sizeOf263 _) hv17) (vR (O:=(.cells #[vput4,vget4,vput5,vget5] 263)) (fun p=>(Sl.mk (some p) 2 2).v) (zJ rfl) (zK (vs:=#[(0,(.agg #[vput4,vget4])),(1,(.agg #[vput5,vget5]))]) (by kernel_rfl) (by kernel_rfl)) ?_)
 intro p11 w20 hn12
 have h:=h p11 w20 hn12
 obtain ⟨w21,hv16,h⟩:=h
 refine yZ (zJ rfl) (uX (by kernel_rfl) (by kernel_rfl) (by kernel_rfl) hv16) ?_
 obtain ⟨vput6,vget6,hv15,h⟩:=h
 refine q2 (.agg #[vput6,vget6]) (xa p5 [vput6,vget6] (isAgg263 _) (sizeOf263 _) hv15) (vR (O:=(.cells #[vput6,vget6] 263)) (fun p=>(Sl.mk (some p) 1 1).v) (zJ rfl) (zK (vs:=#[(0,(.agg #[vput6,vget6]))]) (by kernel_rfl) (by kernel_rfl)) ?_)
 intro p12 w22 hn11
 have h:=h p12 w22 hn11
 obtain ⟨w23,hv14,h⟩:=h
 refine yZ (zJ rfl) (uX (by kernel_rfl) (by kernel_rfl) (by kernel_rfl) hv14) ?_
 obtain ⟨vput7,vget7,hv13,h⟩:=h
 refine q2 (.agg #[vput7,vget7]) (xa p1 [vput7,vget7] (isAgg263 _) (sizeOf263 _) hv13) (vR (O:=(.cells #[vput7,vget7] 263)) (fun p=>(Sl.mk (some p) 1 1).v) (zJ rfl) (zK (vs:=#[(0,(.agg #[vput7,vget7]))]) (by kernel_rfl) (by kernel_rfl)) ?_)
 intro p13 w24 hn10
 have h:=h p13 w24 hn10
 obtain ⟨w25,hv12,h⟩:=h
 refine yZ (zJ rfl) (uX (by kernel_rfl) (by kernel_rfl) (by kernel_rfl) hv12) ?_
 obtain ⟨vput8,vget8,hv11,h⟩:=h
 refine q2 (.agg #[vput8,vget8]) (xa p1 [vput8,vget8] (isAgg263 _) (sizeOf263 _) hv11) ?_
 obtain ⟨vput9,vget9,hv10,h⟩:=h
 refine q2 (.agg #[vput9,vget9]) (xa p5 [vput9,vget9] (isAgg263 _) (sizeOf263 _) hv10) (vR (O:=(.cells #[vput8,vget8,vput9,vget9] 263)) (fun p=>(Sl.mk (some p) 2 2).v) (zJ rfl) (zK (vs:=#[(0,(.agg #[vput8,vget8])),(1,(.agg #[vput9,vget9]))]) (by kernel_rfl) (by kernel_rfl)) ?_)
 intro p14 w26 hn9
 have h:=h p14 w26 hn9
 obtain ⟨w27,hv9,h⟩:=h
 refine yZ (zJ rfl) (uX (by kernel_rfl) (by kernel_rfl) (by kernel_rfl) hv9) ?_
 obtain ⟨vput10,vget10,hv8,h⟩:=h
 refine q2 (.agg #[vput10,vget10]) (xa p1 [vput10,vget10] (isAgg263 _) (sizeOf263 _) hv8) ?_
 obtain ⟨vput11,vget11,hv7,h⟩:=h
 refine q2 (.agg #[vput11,vget11]) (xa p2 [vput11,vget11] (isAgg263 _) (sizeOf263 _) hv7) ?_
 obtain ⟨vput12,vget12,hv6,h⟩:=h
 refine q2 (.agg #[vput12,vget12]) (xa p5 [vput12,vget12] (isAgg263 _) (sizeOf263 _) hv6) (vR (O:=(.cells #[vput10,vget10,vput11,vget11,vput12,vget12] 263)) (fun p=>(Sl.mk (some p) 3 3).v) (zJ rfl) (zK (vs:=#[(0,(.agg #[vput10,vget10])),(1,(.agg #[vput11,vget11])),(2,(.agg #[vput12,vget12]))]) (by kernel_rfl) (by kernel_rfl)) ?_)
 intro p15 w28 hn8
 have h:=h p15 w28 hn8
 obtain ⟨w29,hv5,h⟩:=h
 refine yZ (zJ rfl) (uX (by kernel_rfl) (by kernel_rfl) (by kernel_rfl) hv5) ?_
 obtain ⟨vput13,vget13,hv4,h⟩:=h
 refine q2 (.agg #[vput13,vget13]) (xa p1 [vput13,vget13] (isAgg263 _) (sizeOf263 _) hv4) ?_
 obtain ⟨vput14,vget14,hv3,h⟩:=h
 refine q2 (.agg #[vput14,vget14]) (xa p2 [vput14,vget14] (isAgg263 _) (sizeOf263 _) hv3) ?_
 obtain ⟨vput15,vget15,hv2,h⟩:=h
 refine q2 (.agg #[vput15,vget15]) (xa p5 [vput15,vget15] (isAgg263 _) (sizeOf263 _) hv2) (vR (O:=(.cells #[vput13,vget13,vput14,vget14,vput15,vget15] 263)) (fun p=>(Sl.mk (some p) 3 3).v) (zJ rfl) (zK (vs:=#[(0,(.agg #[vput13,vget13])),(1,(.agg #[vput14,vget14])),(2,(.agg #[vput15,vget15]))]) (by kernel_rfl) (by kernel_rfl)) ?_)
 intro p16 w30 hn7
 have h:=h p16 w30 hn7
 obtain ⟨w31,hv1,h⟩:=h
 refine yZ (zJ rfl) (uX (by kernel_rfl) (by kernel_rfl) (by kernel_rfl) hv1) (q0 (.map (some p7.block)) (q0 (.map (some p7.block)) (ln (er (rs1 results159 (v:=(.map (some p7.block))) ?_)))))
 exact ⟨(some p7.block),rfl,h⟩
def m_R2 (r1:Option Addr) (w0:World) (K:Int→WP):Prop :=Br (Option.isNone r1) (K 0 w0) (∃a1:Addr,r1=some a1∧∀(w1:World),Hst w0 None w0 None w1→∃v1:Sl,w1.cell? a1=some v1.v∧∃a2:Addr,r1=some a2∧∃v2:Int,w1.cell? (a2.add 1)=some (vi v2)∧K (q6.wrap ((v1.len:Int) - v2)) w1)
theorem w_R2 (r1:Option Addr) (w0:World) (K:Int→WP) (h:m_R2 r1 w0 K) :
  Calls prog 160 #[(vp r1)] w0 (fun e w'=>∃r2:Int,e=.returned (vi r2)∧K r2 w'):=by
 unfold m_R2 at h
 refine cw (args:=[(vp r1)]) func160 ntmps160 ?_
 have hs:=Hst.start w0
 have hb:=HB.nil None w0
 refine eg (q0 (vi 0) (ln (zA (eg (q0 (vp r1) (q2 (vb (Option.isNone r1)) (qL (by kernel_rfl) rfl underlying228) (ln ?_)))))))
 refine zB (t:=(Option.isNone r1)) (by kernel_rfl) (fun hc1=>?_) (fun hc1=>?_)
 have h:=h.1 hc1
 refine eg (q0 (vi 0) (ln (er (vL (rs1 results160 (v:=(vi 0)) ?_)))))
 exact ⟨0,rfl,h⟩
 have h:=h.2 hc1
 refine zC (zN (zA (qO (by kernel_rfl) (by kernel_rfl) (by kernel_rfl) (by kernel_rfl) ?_)))
 intro w1 hw1
 have hs:Hst w0 None w0 None w1:=by rw [hw1];exact hs.drew
 have hb:HB None w1 []:=by rw [hw1];exact hb.drew
 refine qq 0 (vp r1) Kp0 (qg 1 ?_)
 obtain ⟨a1,hp1,h⟩:=h
 refine sxQ (v:=(vp (some a1))) Kp1 (zJ rfl) rfl (xn hp1) (qq 2 (vp (some a1)) Kp2 (qg 3 ?_))
 have h:=h w1 hs
 have hs:=hs.here
 obtain ⟨v1,hv2,h⟩:=h
 refine sxQ (v:=v1.v) Kp3 (zJ rfl) rfl (xl (isAgg65 _) hv2) (qq 4 (vi (v1.len:Int)) Kp4 (qq 5 (vp r1) Kp5 (qg 6 ?_)))
 obtain ⟨a2,hp2,h⟩:=h
 refine sxQ (v:=(vp (some a2))) Kp6 (zJ rfl) rfl (xn hp2) (qq 7 (vp (some (a2.add 1))) Kp7 (qg 8 ?_))
 obtain ⟨v2,hv1,h⟩:=h
 refine sxQ (v:=(vi v2)) Kp8 (zJ rfl) rfl (xl (isAgg3 _) hv1) (qq 9 (vi (q6.wrap ((v1.len:Int) - v2))) Kp9 (qq 10 (vi (q6.wrap ((v1.len:Int) - v2))) (zS (S8 (zG (zG zR)))) (wn (zN (er (rs1 results160 (v:=(vi (q6.wrap ((v1.len:Int) - v2)))) ?_))))))
 exact ⟨(q6.wrap ((v1.len:Int) - v2)),rfl,h⟩
def m_S2 (r1:Option Addr) (w0:World) (K:Int→WP):Prop :=Br (Option.isNone r1) (K 0 w0) (∃a1:Addr,r1=some a1∧∃v1:Int,w0.cell? (a1.add 1)=some (vi v1)∧K v1 w0)
theorem w_S2 (r1:Option Addr) (w0:World) (K:Int→WP) (h:m_S2 r1 w0 K) :
  Calls prog 161 #[(vp r1)] w0 (fun e w'=>∃r2:Int,e=.returned (vi r2)∧K r2 w'):=by
 unfold m_S2 at h
 refine cw (args:=[(vp r1)]) func161 ntmps161 (eg (q0 (vi 0) (ln (zA (eg (q0 (vp r1) (q2 (vb (Option.isNone r1)) (qL (by kernel_rfl) rfl underlying228) (zD ?_))))))))
 refine zN ?_
 refine zB (t:=(Option.isNone r1)) (by kernel_rfl) (fun hc1=>?_) (fun hc1=>?_)
 have h:=h.1 hc1
 refine eg (q0 (vi 0) (ln (er (vL (rs1 results161 (v:=(vi 0)) ?_)))))
 exact ⟨0,rfl,h⟩
 have h:=h.2 hc1
 refine zC (zN (eg (q0 (vp r1) ?_)))
 obtain ⟨a1,hp1,h⟩:=h
 refine q2 (vp (some a1)) (xn hp1) (q0 (vp (some (a1.add 1))) ?_)
 obtain ⟨v1,hv1,h⟩:=h
 refine q2 (vi v1) (xl (isAgg3 _) hv1) (q0 (vi v1) (ln (er (rs1 results161 (v:=(vi v1)) ?_))))
 exact ⟨v1,rfl,h⟩
def m_T2 (r1:Option Addr) (w0:World) (K:Int→WP):Prop :=∀(p1:Addr) (w1:World),New w0 (.cells #[(vp r1)] 228) p1 w1→∀(p2:Addr) (w2:World),New w1 (.cells #[(.int .u8 0)] 5) p2 w2→∃v1:Option Addr,w2.cell? p1=some (vp v1)∧Calls prog 288 #[(vp v1),(.func (.func 292) #[] #[(vp (some p1)),(vp (some p2))])] w2 (fun e w3=>e=.returned (.tuple #[])∧∃v2:Int,w3.cell? p2=some (.int .u8 v2)∧CanW w3 p2∧∀w4:World,w4=w3.setCell p2 (.int .u8 v2)→∃aE:Int,w4.cell? p2=some (.int .u8 aE)∧K aE w4)
theorem w_T2 (r1:Option Addr) (w0:World) (K:Int→WP) (h:m_T2 r1 w0 K) :
  Calls prog 232 #[(vp r1)] w0 (fun e w'=>∃r2:Int,e=.returned (.int .u8 r2)∧K r2 w'):=by
 unfold m_T2 at h
 refine cw (args:=[(vp r1)]) func232 ntmps232 (eg (sn (O:=(.cells #[(vp r1)] 228)) xb ?_))
 intro p1 w1 hn3
 have h:=h p1 w1 hn3
 refine sn (O:=(.cells #[(.int .u8 0)] 5)) (zO (zeroValue5 _) rfl) ?_
 intro p2 w2 hn2
 have h:=h p2 w2 hn2
 refine ln (eg ?_)
 obtain ⟨v1,hv3,h⟩:=h
 refine q2 (vp v1) (xl (isAgg228 _) hv3) (q0 (.func (.func 292) #[] #[(vp (some p1)),(vp (some p2))]) ?_)
 refine sc call288 (h.mono ?_)
 rintro e w3 ⟨rfl,h⟩
 refine ⟨_,rfl,?_⟩
 refine ln (eg ?_)
 obtain ⟨v2,hv2,h⟩:=h
 refine q2 (.int .u8 v2) (xl (isAgg5 _) hv2) ?_
 obtain ⟨hp1,h⟩:=h
 refine ss (zT (a:=p2) (v:=(.int .u8 v2)) (by kernel_rfl) (by kernel_rfl) rfl (sizeOf5 _) hp1) ?_
 intro w4 hn1
 have h:=h w4 hn1
 refine ln (er ?_)
 obtain ⟨aE,hv1,h⟩:=h
 refine uW (.inl rfl) (vs:=[(.int .u8 aE)]) (v:=(.int .u8 aE)) results232 ⟨(RV.cell1 (A:=p2) (by kernel_rfl) (isAgg5 _) hv1),trivial⟩ (by kernel_rfl) ?_
 exact ⟨aE,rfl,h⟩
def m_U2 (r1:Option Addr) (w0:World) (K:Int→Int→WP):Prop :=Br (Option.isNone r1) (K 0 0 w0) (∃a1:Addr,r1=some a1∧∀(w1:World),Hst w0 None w0 None w1→∃v1:Int,w1.cell? (a1.add 2)=some (vi v1)∧∃a2:Addr,r1=some a2∧∃v2:Int,w1.cell? (a2.add 3)=some (vi v2)∧K v1 v2 w1)
theorem w_U2 (r1:Option Addr) (w0:World) (K:Int→Int→WP) (h:m_U2 r1 w0 K) :
  Calls prog 233 #[(vp r1)] w0 (fun e w'=>∃r2 r3:Int,e=.returned (.tuple #[(vi r2),(vi r3)])∧K r2 r3 w'):=by
 unfold m_U2 at h
 refine cw (args:=[(vp r1)]) func233 ntmps233 ?_
 have hs:=Hst.start w0
 have hb:=HB.nil None w0
 refine eg (q0 (vi 0) (q0 (vi 0) (ln (zA (eg (q0 (vp r1) (q2 (vb (Option.isNone r1)) (qL (by kernel_rfl) rfl underlying228) (zD ?_))))))))
 refine zN ?_
 refine zB (t:=(Option.isNone r1)) (by kernel_rfl) (fun hc1=>?_) (fun hc1=>?_)
 have h:=h.1 hc1
 refine eg (q0 (vi 0) (q0 (vi 0) (ln (er (vL (xW (.inl rfl) results233 (v:=(vi 0)) (by kernel_rfl) (v':=(vi 0)) (by kernel_rfl) ?_))))))
 exact ⟨0,0,rfl,h⟩
 have h:=h.2 hc1
 refine zC (zN (zA (qO (by kernel_rfl) (by kernel_rfl) (by kernel_rfl) (by kernel_rfl) ?_)))
 intro w1 hw1
 have hs:Hst w0 None w0 None w1:=by rw [hw1];exact hs.drew
 have hb:HB None w1 []:=by rw [hw1];exact hb.drew
 refine qq 0 (vp r1) Kp0 (qg 1 ?_)
 obtain ⟨a1,hp1,h⟩:=h
 refine sxQ (v:=(vp (some a1))) Kp1 (zJ rfl) rfl (xn hp1) (qq 2 (vp (some (a1.add 2))) Kp2 (qg 3 ?_))
 have h:=h w1 hs
 have hs:=hs.here
 obtain ⟨v1,hv2,h⟩:=h
 refine sxQ (v:=(vi v1)) Kp3 (zJ rfl) rfl (xl (isAgg33 _) hv2) (qq 4 (vp r1) Kp4 (qg 5 ?_))
 obtain ⟨a2,hp2,h⟩:=h
 refine sxQ (v:=(vp (some a2))) Kp5 (zJ rfl) rfl (xn hp2) (qq 6 (vp (some (a2.add 3))) Kp6 (qg 7 ?_))
 obtain ⟨v2,hv1,h⟩:=h
 refine sxQ (v:=(vi v2)) Kp7 (zJ rfl) rfl (xl (isAgg3 _) hv1) (qq 8 (vi v1) Kp8 (qq 9 (vi v2) Kp9 (wn (zN (er (xW (.inl rfl) results233 (v:=(vi v1)) (by kernel_rfl) (v':=(vi v2)) (by kernel_rfl) ?_))))))
 exact ⟨v1,v2,rfl,h⟩
def s_M (n1:Int):Int :=(cond (decide (n1>2147483647)) (-1) (q6.wrap n1))
theorem pw_M (n1:Int) (w0:World) :
  Calls prog 234 #[(vu n1)] w0 (fun e w'=>∃b'0:Bool,((decide (n1>2147483647))=b'0)∧(e=.returned (vi (cond b'0 (-1) (q6.wrap n1))))∧Pure w0 w'):=by
 refine cw (args:=[(vu n1)]) func234 ntmps234 (eg (q0 (vi 0) (ln (zA (eg (q0 (vu n1) (q0 (vb (decide (n1>2147483647))) (zD ?_))))))))
 refine zN ?_
 refine zB (t:=(decide (n1>2147483647))) (by kernel_rfl) (fun hc1=>?_) (fun hc1=>?_)
 refine eg (q0 (vi (-1)) (ln (er (vL (rs1 results234 (v:=(vi (-1))) ?_)))))
 exact ⟨true,hc1,by kernel_rfl,Ext.refl _⟩
 refine zC (zN (eg (q0 (vu n1) (q0 (vi (q6.wrap n1)) (q0 (vi (q6.wrap n1)) (ln (er (rs1 results234 (v:=(vi (q6.wrap n1))) ?_))))))))
 exact ⟨false,hc1,by kernel_rfl,Ext.refl _⟩
theorem p_M (n1:Int) (w0:World):Calls prog 234 #[(.int .u64 n1)] w0 (fun e w'=>e=.returned (.int .i64 (s_M n1))∧Pure w0 w'):=by
 refine (pw_M n1 w0).mono ?_;rintro e w' ⟨b'0,e0,h,E⟩;subst e0;exact ⟨h,E⟩
def s_Q (aC aA:Int) (aD aF:Int) (aG:ByteArray) (aH aI:Int):Int :=(cond (((((decide (aA<0)) || (decide (aA≥16))) || (decide (aD<0))) || (decide (aD≥16))) || (((aC == 8) || (aC == 9)) && (aA == aD))) 50 0)
theorem pw_Q (aC aA:Int) (aD aF:Int) (aG:ByteArray) (aH aI:Int) (w0:World) :
  Calls prog 235 #[(.agg #[(vi aC),(vi aA),(vi aD),(vu aF),(vs aG),(vi aH),(vi aI)])] w0 (fun e w'=>∃b'0:Bool,((((((decide (aA<0)) || (decide (aA≥16))) || (decide (aD<0))) || (decide (aD≥16))) || (((aC == 8) || (aC == 9)) && (aA == aD)))=b'0)∧(e=.returned (vi (cond b'0 50 0)))∧Pure w0 w'):=by
 refine cw (args:=[(.agg #[(vi aC),(vi aA),(vi aD),(vu aF),(vs aG),(vi aH),(vi aI)])]) func235 ntmps235 ?_
 have hs:=Hst.start w0
 have hb:=HB.nil None w0
 refine eg (sn (O:=(.cells #[(vi aC),(vi aA),(vi aD),(vu aF),(vs aG),(vi aH),(vi aI)] 127)) xb ?_)
 intro p1 w1 hn1
 obtain ⟨H1,hs,hb⟩:=hs.alloc hb hn1
 refine q0 (vi 0) (ln (zA ?_))
 refine vO (fun ρ wJ=>∃HJ:NP,Hst w0 None w0 HJ wJ∧HB HJ wJ [(p1,[(vi aC),(vi aA),(vi aD),(vu aF),(vs aG),(vi aH),(vi aI)],127)]∧Has ρ [(1,(vp (some p1))),(3,(vb ((aC == 8) || (aC == 9))))]) ?_ ?_
 refine rg (q0 (vp (some p1)) (q2 (vi aC) (xl (isAgg3 _) (hb.c0 0 gZ)) (q0 (vb (aC == 8)) (q0 (vb (aC == 8)) ?_))))
 refine zL 4 (fun ρ wJ=>∃b3'0:Bool,∃HJ:NP,((aC == 8)=b3'0)∧Hst w0 None w0 HJ wJ∧HB HJ wJ [(p1,[(vi aC),(vi aA),(vi aD),(vu aF),(vs aG),(vi aH),(vi aI)],127)]∧Has ρ [(1,(vp (some p1))),(11,(vb (b3'0 || (aC == 9))))]) ?_ ?_
 rintro ρ w4 ⟨b3'0,H4,he0,hs,hb,hH⟩
 subst he0
 refine zU hH ?_
 refine q0 (vb ((aC == 8) || (aC == 9))) (ln ?_)
 exact ⟨_,hs,hb,hm⟩
 rcases bte (aC == 8) with hg4 | hg4
 refine sk (yD 7 hg4) (sk (yD 7 hg4) (sk (yD 7 hg4) (q2 (vb true) (xT hg4) (zD ?_))))
 exact ⟨true,_,hg4,hs,hb,hm⟩
 refine q1 (vp (some p1)) (wy 7 hg4) (stp (v:=(vi aC)) (wy 7 hg4) (xl (isAgg3 _) (hb.c0 0 gZ)) (q1 (vb (aC == 9)) (wy 7 hg4) (q2 (vb (aC == 9)) (xF hg4) (zD ?_))))
 exact ⟨false,_,hg4,hs,hb,hm⟩
 rintro ρ w3 ⟨H3,hs,hb,hH⟩
 refine vH hH ?_
 refine zN (zA (zA ?_))
 refine vO (fun ρ wJ=>∃b8'0:Bool,∃HJ:NP,(((((decide (aA<0)) || (decide (aA≥16))) || (decide (aD<0))) || (decide (aD≥16)))=b8'0)∧Hst w0 None w0 HJ wJ∧HB HJ wJ [(p1,[(vi aC),(vi aA),(vi aD),(vu aF),(vs aG),(vi aH),(vi aI)],127)]∧Has ρ [(39,(vb (b8'0 || (((aC == 8) || (aC == 9)) && (aA == aD)))))]) ?_ ?_
 refine rg (q0 (vp (some (p1.add 1))) (q2 (vi aA) (xl (isAgg3 _) (hb.c 0 1 gZ)) (q0 (vb (decide (aA<0))) (q0 (vb (decide (aA<0))) ?_))))
 refine zL 4 (fun ρ wJ=>∃b9'0:Bool,∃HJ:NP,((decide (aA<0))=b9'0)∧Hst w0 None w0 HJ wJ∧HB HJ wJ [(p1,[(vi aC),(vi aA),(vi aD),(vu aF),(vs aG),(vi aH),(vi aI)],127)]∧Has ρ [(1,(vp (some p1))),(3,(vb ((aC == 8) || (aC == 9)))),(19,(vb (b9'0 || (decide (aA≥16)))))]) ?_ ?_
 rintro ρ w10 ⟨b9'0,H10,he0,hs,hb,hH⟩
 subst he0
 refine zU hH ?_
 refine q0 (vb ((decide (aA<0)) || (decide (aA≥16)))) ?_
 refine zL 4 (fun ρ wJ=>∃b10'0:Bool,∃HJ:NP,(((decide (aA<0)) || (decide (aA≥16)))=b10'0)∧Hst w0 None w0 HJ wJ∧HB HJ wJ [(p1,[(vi aC),(vi aA),(vi aD),(vu aF),(vs aG),(vi aH),(vi aI)],127)]∧Has ρ [(1,(vp (some p1))),(3,(vb ((aC == 8) || (aC == 9)))),(24,(vb (b10'0 || (decide (aD<0)))))]) ?_ ?_
 rintro ρ w11 ⟨b10'0,H11,he0,hs,hb,hH⟩
 subst he0
 refine zU hH ?_
 refine q0 (vb (((decide (aA<0)) || (decide (aA≥16))) || (decide (aD<0)))) ?_
 refine zL 4 (fun ρ wJ=>∃b11'0:Bool,∃HJ:NP,((((decide (aA<0)) || (decide (aA≥16))) || (decide (aD<0)))=b11'0)∧Hst w0 None w0 HJ wJ∧HB HJ wJ [(p1,[(vi aC),(vi aA),(vi aD),(vu aF),(vs aG),(vi aH),(vi aI)],127)]∧Has ρ [(1,(vp (some p1))),(3,(vb ((aC == 8) || (aC == 9)))),(29,(vb (b11'0 || (decide (aD≥16)))))]) ?_ ?_
 rintro ρ w12 ⟨b11'0,H12,he0,hs,hb,hH⟩
 subst he0
 refine zU hH ?_
 refine q0 (vb ((((decide (aA<0)) || (decide (aA≥16))) || (decide (aD<0))) || (decide (aD≥16)))) ?_
 rcases bte ((((decide (aA<0)) || (decide (aA≥16))) || (decide (aD<0))) || (decide (aD≥16))) with hg20 | hg20
 refine sk (yD 30 hg20) (sk (yD 30 hg20) (sm (sm (sm (sm (sm (sk (yD 30 hg20) (q2 (vb true) (xT hg20) (ln ?_)))))))))
 exact ⟨true,_,hg20,hs,hb,hm⟩
 refine q1 (vb ((aC == 8) || (aC == 9))) (wy 30 hg20) (q1 (vb ((aC == 8) || (aC == 9))) (wy 30 hg20) ?_)
 refine zL 6 (fun ρ wJ=>∃b12'0:Bool,∃HJ:NP,(((aC == 8) || (aC == 9))=b12'0)∧Hst w0 None w0 HJ wJ∧HB HJ wJ [(p1,[(vi aC),(vi aA),(vi aD),(vu aF),(vs aG),(vi aH),(vi aI)],127)]∧Has ρ [(30,(vb ((((decide (aA<0)) || (decide (aA≥16))) || (decide (aD<0))) || (decide (aD≥16))))),(38,(vb (b12'0 && (aA == aD))))]) ?_ ?_
 rintro ρ w13 ⟨b12'0,H13,he0,hs,hb,hH⟩
 subst he0
 refine zU hH ?_
 refine q2 (vb (((aC == 8) || (aC == 9)) && (aA == aD))) (xF hg20) (ln ?_)
 exact ⟨false,_,hg20,hs,hb,hm⟩
 rcases bte ((aC == 8) || (aC == 9)) with hg22 | hg22
 refine q1 (vp (some (p1.add 1))) (wy 32 hg22) (stp (v:=(vi aA)) (wy 32 hg22) (xl (isAgg3 _) (hb.c 0 1 gZ)) (q1 (vp (some (p1.add 2))) (wy 32 hg22) (stp (v:=(vi aD)) (wy 32 hg22) (xl (isAgg3 _) (hb.c 0 2 gZ)) (q1 (vb (aA == aD)) (wy 32 hg22) (stp (v:=(vb (aA == aD))) (wy 30 hg20) (xT hg22) (zD ?_))))))
 exact ⟨true,_,hg22,hs,hb,hm⟩
 refine sk (yD 32 hg22) (sk (yD 32 hg22) (sk (yD 32 hg22) (sk (yD 32 hg22) (sk (yD 32 hg22) (stp (v:=(vb false)) (wy 30 hg20) (xF hg22) (zD ?_))))))
 exact ⟨false,_,hg22,hs,hb,hm⟩
 rcases bte (((decide (aA<0)) || (decide (aA≥16))) || (decide (aD<0))) with hg19 | hg19
 refine sk (yD 25 hg19) (sk (yD 25 hg19) (sk (yD 25 hg19) (q2 (vb true) (xT hg19) (zD ?_))))
 exact ⟨true,_,hg19,hs,hb,hm⟩
 refine q1 (vp (some (p1.add 2))) (wy 25 hg19) (stp (v:=(vi aD)) (wy 25 hg19) (xl (isAgg3 _) (hb.c 0 2 gZ)) (q1 (vb (decide (aD≥16))) (wy 25 hg19) (q2 (vb (decide (aD≥16))) (xF hg19) (zD ?_))))
 exact ⟨false,_,hg19,hs,hb,hm⟩
 rcases bte ((decide (aA<0)) || (decide (aA≥16))) with hg17 | hg17
 refine sk (yD 20 hg17) (sk (yD 20 hg17) (sk (yD 20 hg17) (q2 (vb true) (xT hg17) (zD ?_))))
 exact ⟨true,_,hg17,hs,hb,hm⟩
 refine q1 (vp (some (p1.add 2))) (wy 20 hg17) (stp (v:=(vi aD)) (wy 20 hg17) (xl (isAgg3 _) (hb.c 0 2 gZ)) (q1 (vb (decide (aD<0))) (wy 20 hg17) (q2 (vb (decide (aD<0))) (xF hg17) (zD ?_))))
 exact ⟨false,_,hg17,hs,hb,hm⟩
 rcases bte (decide (aA<0)) with hg15 | hg15
 refine sk (yD 15 hg15) (sk (yD 15 hg15) (sk (yD 15 hg15) (q2 (vb true) (xT hg15) (zD ?_))))
 exact ⟨true,_,hg15,hs,hb,hm⟩
 refine q1 (vp (some (p1.add 1))) (wy 15 hg15) (stp (v:=(vi aA)) (wy 15 hg15) (xl (isAgg3 _) (hb.c 0 1 gZ)) (q1 (vb (decide (aA≥16))) (wy 15 hg15) (q2 (vb (decide (aA≥16))) (xF hg15) (zD ?_))))
 exact ⟨false,_,hg15,hs,hb,hm⟩
 rintro ρ w9 ⟨b8'0,H9,he0,hs,hb,hH⟩
 subst he0
 refine vH hH ?_
 refine zN ?_
 refine zB (t:=(((((decide (aA<0)) || (decide (aA≥16))) || (decide (aD<0))) || (decide (aD≥16))) || (((aC == 8) || (aC == 9)) && (aA == aD)))) (by kernel_rfl) (fun hc1=>?_) (fun hc1=>?_)
 refine eg (q0 (vi 50) (ln (er (vL (rs1 results235 (v:=(vi 50)) ?_)))))
 exact ⟨true,hc1,by kernel_rfl,(Ext.refl (F:=None) _).hst hs⟩
 refine zC (zN (eg (q0 (vi 0) (ln (er (rs1 results235 (v:=(vi 0)) ?_))))))
 exact ⟨false,hc1,by kernel_rfl,(Ext.refl (F:=None) _).hst hs⟩
theorem p_Q (aC aA:Int) (aD aF:Int) (aG:ByteArray) (aH aI:Int) (w0:World):Calls prog 235 #[(.agg #[(.int .i64 aC),(.int .i64 aA),(.int .i64 aD),(.int .u64 aF),(.string aG),(.int .i64 aH),(.int .i64 aI)])] w0 (fun e w'=>e=.returned (.int .i64 (s_Q aC aA aD aF aG aH aI))∧Pure w0 w'):=by
 refine (pw_Q aC aA aD aF aG aH aI w0).mono ?_;rintro e w' ⟨b'0,e0,h,E⟩;subst e0;exact ⟨h,E⟩
def m_G_j4 (aE:Option Addr) (p1:Addr) (H:NP) (w:World) (K:Int→WP):Prop :=∃aW aX:Int,∃aY aZ:Int,∃bA:ByteArray,∃bB bC:Int,Row w p1 [(vi aW),(vi aX),(vi aY),(vu aZ),(vs bA),(vi bB),(vi bC)]∧Calls prog 112 #[(vp aE),(.agg #[(vi aW),(vi aX),(vi aY),(vu aZ),(vs bA),(vi bB),(vi bC)])] w (fun e w14=>∃r8:Int,∃r9:Bool,e=.returned (.tuple #[(vi r8),(vb r9)])∧Kept H w w14∧Br r9 (K 72 w14) (∃bD bE:Int,∃bF bG:Int,∃bH:ByteArray,∃bI bJ:Int,Row w14 p1 [(vi bD),(vi bE),(vi bF),(vu bG),(vs bH),(vi bI),(vi bJ)]∧Calls prog 109 #[(vp aE),(.agg #[(vi bD),(vi bE),(vi bF),(vu bG),(vs bH),(vi bI),(vi bJ)])] w14 (fun e w15=>∃r10 r11:Int,e=.returned (.tuple #[(vi r10),(vi r11)])∧Kept H w14 w15∧K r11 w15)))
def m_G_j3 (aE:Option Addr) (p1:Addr) (H:NP) (w:World) (K:Int→WP):Prop :=∃v7:Int,w.cell? (p1.add 11)=some (vi v7)∧Br (decide (v7>1)) (∃v8:Int,w.cell? (p1.add 10)=some (vu v8)∧CanW w (p1.add 6)∧¬ H (p1.add 6).block∧∀w16:World,w16=w.setCell (p1.add 6) (vi (q6.wrap (IntKind.u64.wrap (v8+1))))→m_G_j4 aE p1 H w16 K) (m_G_j4 aE p1 H w K)
def m_G_j2 (aE:Option Addr) (p1:Addr) (x2:Bool) (H:NP) (w:World) (K:Int→WP):Prop :=Br x2 (K 71 w) (∃v6:Int,w.cell? (p1.add 11)=some (vi v6)∧Br (decide (v6>0)) (∃v9:Int,w.cell? (p1.add 9)=some (vu v9)∧CanW w (p1.add 5)∧¬ H (p1.add 5).block∧∀w17:World,w17=w.setCell (p1.add 5) (vi (q6.wrap (IntKind.u64.wrap (v9+1))))→m_G_j3 aE p1 H w17 K) (m_G_j3 aE p1 H w K))
def m_G_j5 (aE:Option Addr) (p1:Addr) (r7:Int) (x3:Bool) (H:NP) (w:World) (K:Int→WP):Prop :=Br x3 (m_G_j2 aE p1 true H w K) (∃v11:Int,w.cell? (p1.add 11)=some (vi v11)∧Br (decide (v11>1)) (∃v12:Int,w.cell? (p1.add 10)=some (vu v12)∧m_G_j2 aE p1 (decide (v12≥(IntKind.u64.wrap r7))) H w K) (m_G_j2 aE p1 false H w K))
def m_G_l1 (aE:Option Addr) (r1:Option Addr) (p1:Addr) (v2:Sl) (x1:Int) (w0:World) (Hl1:NP) (wl1:World) (Kc1:Int→NP→WP) (K:Int→WP):Prop :=Br (decide (x1<(v2.len:Int))) (∃a1:Addr,At v2 x1 2 a1∧∃vput1:Value,∃vget1:Value,Row wl1 a1 [vput1,vget1]∧∀(p2:Addr) (w3:World),New wl1 (.cells #[(.nilFunc:Value),(.nilFunc:Value)] 263) p2 w3→([vput1,vget1].all qY=true∧∀j,j<2→CanW w3 (p2.add j))∧¬ Hl1 p2.block∧∀w4:World,w4=storeRow w3 p2 [vput1,vget1]→∃v3:Value,w4.cell? (p2.add 1)=some v3∧∃(f1:FuncId) (fs1 cs1:Array Value),v3=.func (.func f1) fs1 cs1∧(∀args w,(callFunc f1 args).run prog w=.ok (.enter f1 args) w)∧Calls prog f1 (fs1++#[(vp r1),(vp (some p1))]++cs1) w4 (fun e w5=>e=.returned (.tuple #[])∧Kept Hl1 w4 w5∧Kc1 (q6.wrap (x1+1)) Hl1 w5)) (Calls prog 233 #[(vp r1)] wl1 (fun e w6=>∃r3 r4:Int,e=.returned (.tuple #[(vi r3),(vi r4)])∧Kept Hl1 wl1 w6∧Br (r3 != 0) (K r3 w6) (∃C1:WP,C1 w6.drew∧∀w7,w7=w6.drew→∃v4:Int,w7.cell? (p1.add 7)=some (vu v4)∧∃v5:Int,(∀w',C1 w'→w'.cell? (p1.add 8)=some (vu v5))∧Calls prog 234 #[(vu v4)] w7 (fun e w8=>∃r5:Int,e=.returned (vi r5)∧C1 w8∧Kept Hl1 w7 w8∧Calls prog 234 #[(vu v5)] w8 (fun e w9=>∃r6:Int,e=.returned (vi r6)∧C1 w9∧Kept Hl1 w8 w9∧CanW w9 (p1.add 1)∧¬ Hl1 (p1.add 1).block∧∀w10:World,w10=w9.setCell (p1.add 1) (vi r5)→C1 w10∧CanW w10 (p1.add 2)∧¬ Hl1 (p1.add 2).block∧∀w11:World,w11=w10.setCell (p1.add 2) (vi r6)→∃aB aO:Int,∃aN aM:Int,∃aL:ByteArray,∃aK aJ:Int,Row w11 p1 [(vi aB),(vi aO),(vi aN),(vu aM),(vs aL),(vi aK),(vi aJ)]∧Br (((s_Q aB aO aN aM aL aK aJ):Int) != 0) (∀(w12:World),Hst w0 Hl1 w11 Hl1 w12→K (s_Q aB aO aN aM aL aK aJ) w12) (∀(w12:World),Hst w0 Hl1 w11 Hl1 w12→Calls prog 103 #[(vp aE)] w12 (fun e w13=>∃r7:Int,e=.returned (vi r7)∧Kept Hl1 w12 w13∧∃v10:Int,w13.cell? (p1.add 11)=some (vi v10)∧Br (decide (v10>0)) (∃v13:Int,w13.cell? (p1.add 9)=some (vu v13)∧m_G_j5 aE p1 r7 (decide (v13≥(IntKind.u64.wrap r7))) Hl1 w13 K) (m_G_j5 aE p1 r7 false Hl1 w13 K))))))))
def m_G (aE:Option Addr) (r1:Option Addr) (kinds1:Option Nat) (w0:World) (K:Int→WP):Prop :=Calls prog 232 #[(vp r1)] w0 (fun e w1=>∃r2:Int,e=.returned (.int .u8 r2)∧Kept None w0 w1∧∀(p1:Addr) (w2:World),New w1 (.cells #[(vi (q6.wrap r2)),(vi 0),(vi 0),(vu 0),ve,(vi 0),(vi 0),(vu 0),(vu 0),(vu 0),(vu 0),(vi 0)] 303) p1 w2→∃v1:Int,w2.cell? p1=some (vi v1)∧∃v2:Sl,∃ok1:Bool,(Instr.lookup 230 (.map kinds1) (vi v1) true).run prog w2=.ok (.tuple #[v2.v,(vb ok1)]) w2∧Br (!ok1) (K 70 w2) (∃(I1:Int→NP→WP) (mu1:Int→World→Nat),I1 0 None w2∧∀(x1:Int) (Hl1:NP) (wl1:World),Hst w0 Hl1 wl1 Hl1 wl1→I1 x1 Hl1 wl1→m_G_l1 aE r1 p1 v2 x1 w0 Hl1 wl1 (fun y'0 H' w'=>I1 y'0 H' w'∧mu1 y'0 w'<mu1 x1 wl1) K))
theorem w_G (aE:Option Addr) (r1:Option Addr) (kinds1:Option Nat) (w0:World) (K:Int→WP) (h:m_G aE r1 kinds1 w0 K) :
  Calls prog 162 #[(vp aE),(vp r1),(.map kinds1)] w0 (fun e w'=>∃r12:Int,e=.returned (vi r12)∧K r12 w'):=by
 unfold m_G at h
 refine cw (args:=[(vp aE),(vp r1),(.map kinds1)]) func162 ntmps162 ?_
 have hs:=Hst.start w0
 have hb:=HB.nil None w0
 refine eg (q0 (vi 0) (ln (eg (q0 (vp r1) ?_))))
 refine sc call232 (h.mono ?_)
 rintro e w1 ⟨r2,rfl,hk,h⟩
 refine ⟨_,rfl,?_⟩
 obtain ⟨hs,hb⟩:=hk.hh hs hb
 refine q0 (vi (q6.wrap r2)) (q0 (.agg #[(vi (q6.wrap r2)),(vi 0),(vi 0),(vu 0),ve,(vi 0),(vi 0)]) (q0 (.agg #[(vi (q6.wrap r2)),(vi 0),(vi 0),(vu 0),ve,(vi 0),(vi 0),(vu 0),(vu 0),(vu 0),(vu 0),(vi 0)]) (sn (O:=(.cells #[(vi (q6.wrap r2)),(vi 0),(vi 0),(vu 0),ve,(vi 0),(vi 0),(vu 0),(vu 0),(vu 0),(vu 0),(vi 0)] 303)) xb ?_)))
 intro p1 w2 hn7
 have h:=h p1 w2 hn7
 have hs:=hs.again (Ext.new (F:=None) hn7).keptP
 have hb:=hb.kept (Ext.new (F:=None) hn7).keptP
 refine q0 (vp (some p1)) (ln (eg (q0 (.map kinds1) (q0 (vp (some p1)) (q0 (vp (some p1)) (q0 (vp (some p1)) (q0 (vp (some p1)) ?_)))))))
 obtain ⟨v1,hv18,h⟩:=h
 refine q2 (vi v1) (xl (isAgg3 _) hv18) ?_
 obtain ⟨v2,ok1,hv17,h⟩:=h
 refine q2 (.tuple #[v2.v,(vb ok1)]) (qT (by kernel_rfl) (by kernel_rfl) hv17) (q0 (.tuple #[v2.v,(vb ok1)]) (q0 v2.v (q0 (vb ok1) (q0 v2.v (q0 (vb ok1) (ln (zA (eg (q0 (vb ok1) ?_)))))))))
 refine q0 (vb (!ok1)) (ln ?_)
 refine zB (t:=(!ok1)) (by kernel_rfl) (fun hc1=>?_) (fun hc1=>?_)
 have h:=h.1 hc1
 refine eg (q0 (vi 70) (ln (er (vL (rs1 results162 (v:=(vi 70)) ?_)))))
 exact ⟨70,rfl,h⟩
 have h:=h.2 hc1
 refine zC (zN (zA (eg (q0 v2.v (q0 (vi (v2.len:Int)) (q0 (vi 0) (ln (zQ ?_))))))))
 obtain ⟨I1,mu1,h0,hr⟩:=h
 refine qI (σ:=Int×NP×World) (fun s ρ w=>w=s.2.2∧Has ρ [(0,(vp aE)),(1,(vp r1)),(7,(vp (some p1))),(38,v2.v),(39,(vi (v2.len:Int))),(40,(vi s.1))]∧Hst w0 s.2.1 w s.2.1 w∧HB s.2.1 w []∧I1 s.1 s.2.1 s.2.2) (fun s=>mu1 s.1 s.2.2) (0,None,w2) ⟨rfl,hm,hs,hb,h0⟩ ?_
 rintro ⟨x1,Hl1,wl1⟩ ρ w ⟨hw,hH,hs,hb,hI⟩
 obtain rfl:wl1=w:=(show w=wl1 from hw).symm
 have hH:Has ρ [(0,(vp aE)),(1,(vp r1)),(7,(vp (some p1))),(38,v2.v),(39,(vi (v2.len:Int))),(40,(vi x1))]:=hH
 have hs:Hst w0 Hl1 wl1 Hl1 wl1:=hs
 have hb:HB Hl1 wl1 []:=hb
 have h:=hr x1 Hl1 wl1 hs hI
 unfold m_G_l1 at h
 refine vC hH ?_
 refine eg (q0 (vb (decide (x1<(v2.len:Int)))) (ln (zA ?_)))
 refine zB (t:=(decide (x1<(v2.len:Int)))) (by kernel_rfl) (fun hc2=>?_) (fun hc2=>?_)
 have h:=h.1 hc2
 refine zC (zN (zA (zQ (eg ?_))))
 obtain ⟨a1,hv3,h⟩:=h
 refine q2 (vp (some a1)) (xi (runUnderlying259 _) (sizeOf263 _) hv3) ?_
 obtain ⟨vput1,vget1,hv2,h⟩:=h
 refine q2 (.agg #[vput1,vget1]) (xa a1 [vput1,vget1] (isAgg263 _) (sizeOf263 _) hv2) (sn (O:=(.cells #[(.nilFunc:Value),(.nilFunc:Value)] 263)) (zO (zeroValue263 _) rfl) ?_)
 intro p2 w3 hn2
 have h:=h p2 w3 hn2
 have hs:=hs.again (Ext.new (F:=None) hn2).keptP
 have hb:=hb.kept (Ext.new (F:=None) hn2).keptP
 obtain ⟨hp1,hnh,h⟩:=h
 refine ss (jMI (a:=p2) (vs:=[vput1,vget1]) (by kernel_rfl) (by kernel_rfl) hp1.1 (sizeOf263 _) rfl hp1.2) ?_
 intro w4 hn1
 have h:=h w4 hn1
 have hk:Kept Hl1 w3 w4:=by rw [hn1];exact Kept.storeRow hnh
 obtain ⟨hs,hb⟩:=hk.hh hs hb
 refine ln (rg (q0 (vp (some (p2.add 1))) ?_))
 obtain ⟨v3,hv1,h⟩:=h
 refine q2 v3 (xl (isAgg261 _) hv1) (q0 (vp r1) (q0 (vp (some p1)) ?_))
 obtain ⟨f1,fs1,cs1,hp2,h⟩:=h
 obtain ⟨hf1,h⟩:=h
 refine vG (zJ rfl) (lB (fs:=fs1) (caps:=cs1) (args:=#[(vp r1),(vp (some p1))]) (by kernel_rfl) hp2 hf1 (by kernel_rfl) rfl) (h.mono ?_)
 rintro e w5 ⟨rfl,hk,h⟩
 refine ⟨_,rfl,?_⟩
 obtain ⟨hs,hb⟩:=hk.hh hs hb
 refine zD (tJ (zN (rg (q0 (vi (q6.wrap (x1+1))) (q0 (vi (q6.wrap (x1+1))) (ln ?_))))))
 exact ⟨((q6.wrap (x1+1)),Hl1,w5),⟨rfl,hm,hs,hb,h.1⟩,h.2⟩
 have h:=h.2 hc2
 refine qE (tN (tN (tP (zN (zA (eg (q0 (vp r1) ?_)))))))
 refine sc call233 (h.mono ?_)
 rintro e w6 ⟨r3,r4,rfl,hk,h⟩
 refine ⟨_,rfl,?_⟩
 obtain ⟨hs,hb⟩:=hk.hh hs hb
 refine q0 (.tuple #[(vi r3),(vi r4)]) (q0 (vi r3) (q0 (vi r4) (q0 (vi r3) (q0 (vi r4) (ln (eg (q0 (vi r3) (q0 (vb (r3 != 0)) (zD ?_)))))))))
 refine zN ?_
 refine zB (t:=(r3 != 0)) (by kernel_rfl) (fun hc3=>?_) (fun hc3=>?_)
 have h:=h.1 hc3
 refine eg (q0 (vi r3) (q0 (vi r3) (ln (er (vL (rs1 results162 (v:=(vi r3)) ?_))))))
 exact ⟨r3,rfl,h⟩
 have h:=h.2 hc3
 refine zC (zN (zA ?_))
 obtain ⟨C1,hC,h⟩:=h
 refine vB C1 [6,11,15,19] [19] (by kernel_rfl) (by kernel_rfl) (by kernel_rfl) (by kernel_rfl) hC ?_
 intro w7 hw7
 have h:=h w7 hw7
 have hs:Hst w0 Hl1 w6 Hl1 w7:=by rw [hw7];exact hs.drew
 have hb:HB Hl1 w7 []:=by rw [hw7];exact hb.drew
 have hs:=hs.here
 refine qx 0 (vp (some p1)) Kp0 (qx 1 (vp (some p1)) Kp1 (qx 2 (vp (some p1)) Kp2 (qx 3 (vp (some p1)) Kp3 (qx 4 (vp (some (p1.add 7))) Kp4 (qg 5 ?_)))))
 obtain ⟨v4,hv16,h⟩:=h
 refine sye Kp5 (xl (isAgg23 _) hv16) (qx 7 (vp (some p1)) Kp7 (qx 8 (vp (some p1)) Kp8 (qx 9 (vp (some (p1.add 8))) Kp9 (qg 10 ?_))))
 obtain ⟨v5,hv15,h⟩:=h
 refine sy (v:=(vu v5)) (zS (S8 (zG (zG zR)))) (fun w' hw'=>(xl (isAgg23 _) (hv15 w' hw'))) (lg 6 ?_)
 refine slc Kp6 call234 (h.mono ?_)
 rintro e w8 ⟨r5,rfl,hC,hk,h⟩
 refine ⟨_,rfl,.inr hC,?_⟩
 obtain ⟨hs,hb⟩:=hk.hh hs hb
 refine lg 11 ?_
 refine slc (zS (S8 (zG (zG (zG zR))))) call234 (h.mono ?_)
 rintro e w9 ⟨r6,rfl,hC,hk,h⟩
 refine ⟨_,rfl,.inr hC,?_⟩
 obtain ⟨hs,hb⟩:=hk.hh hs hb
 refine qx 12 (vp (some p1)) (zS (S8 (S4 zR))) (qx 13 (vp (some p1)) (zS (S8 (S4 (zG zR)))) (qx 14 (vp (some (p1.add 1))) (zS (S8 (S4 (zG (zG zR))))) (lg 15 ?_)))
 obtain ⟨hp3,hnh,h⟩:=h
 refine jSS (zS (S8 (S4 (zG (zG (zG zR)))))) (xs (v:=(vi r5)) (sizeOf3 _) hp3) ?_
 intro w10 hn3
 have h:=h w10 hn3
 refine ⟨.inr h.1,?_⟩
 have h:=h.2
 have hk:=Kept.sc hnh hn3
 obtain ⟨hs,hb⟩:=hk.hh hs hb
 refine qx 16 (vp (some p1)) (zS (S8 (S8 zR))) (qx 17 (vp (some p1)) (zS (S8 (S8 (zG zR)))) (qx 18 (vp (some (p1.add 2))) (zS (S8 (S8 (zG (zG zR))))) (lg 19 ?_)))
 obtain ⟨hp4,hnh,h⟩:=h
 refine jSS (zS (S8 (S8 (zG (zG (zG zR)))))) (xs (v:=(vi r6)) (sizeOf3 _) hp4) ?_
 intro w11 hn4
 have h:=h w11 hn4
 refine ⟨.inl (by kernel_rfl),?_⟩
 have hk:=Kept.sc hnh hn4
 obtain ⟨hs,hb⟩:=hk.hh hs hb
 refine wn (zN (zA (eg (q0 (vp (some p1)) (q0 (vp (some p1)) (q0 (vp (some p1)) ?_))))))
 obtain ⟨aB,aO,aN,aM,aL,aK,aJ,hv14,h⟩:=h
 refine q2 (.agg #[(vi aB),(vi aO),(vi aN),(vu aM),(vs aL),(vi aK),(vi aJ)]) (xa p1 [(vi aB),(vi aO),(vi aN),(vu aM),(vs aL),(vi aK),(vi aJ)] (isAgg127 _) (sizeOf127 _) hv14) ?_
 refine sc call235 ((p_Q aB aO aN aM aL aK aJ w11).mono ?_)
 rintro e w12 ⟨he,hE⟩
 refine ⟨(vi (s_Q aB aO aN aM aL aK aJ)),he.trans (by kernel_rfl),?_⟩
 have hs:=hs.pure hE
 have hb:=hb.pure hE
 refine q0 (vi (s_Q aB aO aN aM aL aK aJ)) (ln (eg (q0 (vi (s_Q aB aO aN aM aL aK aJ)) (q0 (vb (((s_Q aB aO aN aM aL aK aJ):Int) != 0)) (ln ?_)))))
 refine zB (t:=(((s_Q aB aO aN aM aL aK aJ):Int) != 0)) (by kernel_rfl) (fun hc4=>?_) (fun hc4=>?_)
 have h:=h.1 hc4
 refine eg (q0 (vi (s_Q aB aO aN aM aL aK aJ)) (q0 (vi (s_Q aB aO aN aM aL aK aJ)) (ln (er (vL ?_)))))
 have h:=h w12 hs
 have hs:=hs.here
 refine rs1 results162 (v:=(vi (s_Q aB aO aN aM aL aK aJ))) ?_
 exact ⟨(s_Q aB aO aN aM aL aK aJ),rfl,h⟩
 have h:=h.2 hc4
 refine zC (zN (eg (q0 (vp aE) ?_)))
 have h:=h w12 hs
 have hs:=hs.here
 refine sc call103 (h.mono ?_)
 rintro e w13 ⟨r7,rfl,hk,h⟩
 refine ⟨_,rfl,?_⟩
 obtain ⟨hs,hb⟩:=hk.hh hs hb
 refine q0 (vu (IntKind.u64.wrap r7)) (q0 (vu (IntKind.u64.wrap r7)) (ln (zA (zA ?_))))
 refine vI (fun ρ w=>∃x2:Bool,∃H:NP,Has ρ [(0,(vp aE)),(7,(vp (some p1))),(114,(vb x2))]∧Hst w0 H w H w∧HB H w []∧m_G_j2 aE p1 x2 H w K) ?_ ?_
 rintro ρ w ⟨x2,H,hH,hs,hb,h⟩
 unfold m_G_j2 at h
 refine vC hH ?_
 refine zB (t:=x2) (by kernel_rfl) (fun hc5=>?_) (fun hc5=>?_)
 have h:=h.1 hc5
 refine eg (q0 (vi 71) (ln (er (vL (rs1 results162 (v:=(vi 71)) ?_)))))
 exact ⟨71,rfl,h⟩
 have h:=h.2 hc5
 refine zC (zN (zA (eg (q0 (vp (some p1)) (q0 (vp (some p1)) (q0 (vp (some (p1.add 11))) ?_))))))
 obtain ⟨v6,hv9,h⟩:=h
 refine q2 (vi v6) (xl (isAgg3 _) hv9) (q0 (vb (decide (v6>0))) (ln ?_))
 refine vI (fun ρ w=>∃H:NP,Has ρ [(0,(vp aE)),(7,(vp (some p1)))]∧Hst w0 H w H w∧HB H w []∧m_G_j3 aE p1 H w K) ?_ ?_
 rintro ρ w ⟨H,hH,hs,hb,h⟩
 unfold m_G_j3 at h
 refine vC hH ?_
 refine zA (eg (q0 (vp (some p1)) (q0 (vp (some p1)) (q0 (vp (some (p1.add 11))) ?_))))
 obtain ⟨v7,hv7,h⟩:=h
 refine q2 (vi v7) (xl (isAgg3 _) hv7) (q0 (vb (decide (v7>1))) (ln ?_))
 refine vI (fun ρ w=>∃H:NP,Has ρ [(0,(vp aE)),(7,(vp (some p1)))]∧Hst w0 H w H w∧HB H w []∧m_G_j4 aE p1 H w K) ?_ ?_
 rintro ρ w ⟨H,hH,hs,hb,h⟩
 unfold m_G_j4 at h
 refine vC hH ?_
 refine zA (eg (q0 (vp aE) (q0 (vp (some p1)) (q0 (vp (some p1)) (q0 (vp (some p1)) ?_)))))
 obtain ⟨aW,aX,aY,aZ,bA,bB,bC,hv5,h⟩:=h
 refine q2 (.agg #[(vi aW),(vi aX),(vi aY),(vu aZ),(vs bA),(vi bB),(vi bC)]) (xa p1 [(vi aW),(vi aX),(vi aY),(vu aZ),(vs bA),(vi bB),(vi bC)] (isAgg127 _) (sizeOf127 _) hv5) ?_
 refine sc call112 (h.mono ?_)
 rintro e w14 ⟨r8,r9,rfl,hk,h⟩
 refine ⟨_,rfl,?_⟩
 obtain ⟨hs,hb⟩:=hk.hh hs hb
 refine q0 (.tuple #[(vi r8),(vb r9)]) (q0 (vi r8) (q0 (vb r9) (q0 (vi r8) (q0 (vb r9) (ln (eg (q0 (vb r9) (ln ?_))))))))
 refine zB (t:=r9) (by kernel_rfl) (fun hc6=>?_) (fun hc6=>?_)
 have h:=h.1 hc6
 refine eg (q0 (vi 72) (ln (er (vL (rs1 results162 (v:=(vi 72)) ?_)))))
 exact ⟨72,rfl,h⟩
 have h:=h.2 hc6
 refine zC (zN (eg (q0 (vp aE) (q0 (vp (some p1)) (q0 (vp (some p1)) (q0 (vp (some p1)) ?_))))))
 obtain ⟨bD,bE,bF,bG,bH,bI,bJ,hv4,h⟩:=h
 refine q2 (.agg #[(vi bD),(vi bE),(vi bF),(vu bG),(vs bH),(vi bI),(vi bJ)]) (xa p1 [(vi bD),(vi bE),(vi bF),(vu bG),(vs bH),(vi bI),(vi bJ)] (isAgg127 _) (sizeOf127 _) hv4) ?_
 refine sc call109 (h.mono ?_)
 rintro e w15 ⟨r10,r11,rfl,hk,h⟩
 refine ⟨_,rfl,?_⟩
 obtain ⟨hs,hb⟩:=hk.hh hs hb
 refine q0 (.tuple #[(vi r10),(vi r11)]) (q0 (vi r10) (q0 (vi r11) (q0 (vi r10) (q0 (vi r11) (ln (eg (q0 (vi r11) (q0 (vi r11) (zD ?_)))))))))
 refine zN (er (rs1 results162 (v:=(vi r11)) ?_))
 exact ⟨r11,rfl,h⟩
 refine zB (t:=(decide (v7>1))) (by kernel_rfl) (fun hc7=>?_) (fun hc7=>?_)
 have h:=h.1 hc7
 refine rg (q0 (vp (some p1)) (q0 (vp (some p1)) (q0 (vp (some p1)) (q0 (vp (some (p1.add 10))) ?_))))
 obtain ⟨v8,hv6,h⟩:=h
 refine q2 (vu v8) (xl (isAgg23 _) hv6) (q0 (vu (IntKind.u64.wrap (v8+1))) (q0 (vi (q6.wrap (IntKind.u64.wrap (v8+1)))) (q0 (vp (some p1)) (q0 (vp (some p1)) (q0 (vp (some (p1.add 6))) ?_)))))
 obtain ⟨hp5,hnh,h⟩:=h
 refine ss (zT (a:=(p1.add 6)) (v:=(vi (q6.wrap (IntKind.u64.wrap (v8+1))))) (by kernel_rfl) (by kernel_rfl) rfl (sizeOf78 _) hp5) ?_
 intro w16 hn5
 have h:=h w16 hn5
 have hk:=Kept.sc hnh hn5
 obtain ⟨hs,hb⟩:=hk.hh hs hb
 refine ln ?_
 exact ⟨H,hm,hs,hb,h⟩
 have h:=h.2 hc7
 refine zC (zN ?_)
 exact ⟨H,hm,hs,hb,h⟩
 refine zB (t:=(decide (v6>0))) (by kernel_rfl) (fun hc8=>?_) (fun hc8=>?_)
 have h:=h.1 hc8
 refine rg (q0 (vp (some p1)) (q0 (vp (some p1)) (q0 (vp (some p1)) (q0 (vp (some (p1.add 9))) ?_))))
 obtain ⟨v9,hv8,h⟩:=h
 refine q2 (vu v9) (xl (isAgg23 _) hv8) (q0 (vu (IntKind.u64.wrap (v9+1))) (q0 (vi (q6.wrap (IntKind.u64.wrap (v9+1)))) (q0 (vp (some p1)) (q0 (vp (some p1)) (q0 (vp (some (p1.add 5))) ?_)))))
 obtain ⟨hp6,hnh,h⟩:=h
 refine ss (zT (a:=(p1.add 5)) (v:=(vi (q6.wrap (IntKind.u64.wrap (v9+1))))) (by kernel_rfl) (by kernel_rfl) rfl (sizeOf78 _) hp6) ?_
 intro w17 hn6
 have h:=h w17 hn6
 have hk:=Kept.sc hnh hn6
 obtain ⟨hs,hb⟩:=hk.hh hs hb
 refine ln ?_
 exact ⟨H,hm,hs,hb,h⟩
 have h:=h.2 hc8
 refine zC (zN ?_)
 exact ⟨H,hm,hs,hb,h⟩
 refine rg (q0 (vp (some p1)) (q0 (vp (some p1)) (q0 (vp (some (p1.add 11))) ?_)))
 obtain ⟨v10,hv13,h⟩:=h
 refine q2 (vi v10) (xl (isAgg3 _) hv13) (q0 (vb (decide (v10>0))) (q0 (vb (decide (v10>0))) ?_))
 refine zL 7 (fun ρ w=>∃x3:Bool,∃H:NP,Has ρ [(0,(vp aE)),(7,(vp (some p1))),(15,(vu (IntKind.u64.wrap r7))),(99,(vb x3))]∧Hst w0 H w H w∧HB H w []∧m_G_j5 aE p1 r7 x3 H w K) ?_ ?_
 rintro ρ w ⟨x3,H,hH,hs,hb,h⟩
 unfold m_G_j5 at h
 refine zU hH ?_
 refine q0 (vb x3) ?_
 rcases bte x3 with hg1 | hg1
 have h:=h.1 hg1
 refine sk (yD 100 hg1) (sk (yD 100 hg1) (sk (yD 100 hg1) (sk (yD 100 hg1) (sk (yD 100 hg1) (sk (yD 100 hg1) (sm (sm (sm (sm (sm (sm ?_)))))))))))
 refine sk (yD 100 hg1) (q2 (vb true) (xT hg1) (ln ?_))
 exact ⟨true,H,hm,hs,hb,h⟩
 have h:=h.2 hg1
 refine q1 (vp (some p1)) (wy 100 hg1) (q1 (vp (some p1)) (wy 100 hg1) (q1 (vp (some (p1.add 11))) (wy 100 hg1) ?_))
 obtain ⟨v11,hv11,h⟩:=h
 refine stp (v:=(vi v11)) (wy 100 hg1) (xl (isAgg3 _) hv11) (q1 (vb (decide (v11>1))) (wy 100 hg1) (q1 (vb (decide (v11>1))) (wy 100 hg1) ?_))
 rcases bte (decide (v11>1)) with hg2 | hg2
 have h:=h.1 hg2
 refine q1 (vp (some p1)) (wy 106 hg2) (q1 (vp (some p1)) (wy 106 hg2) (q1 (vp (some (p1.add 10))) (wy 106 hg2) ?_))
 obtain ⟨v12,hv10,h⟩:=h
 refine stp (v:=(vu v12)) (wy 106 hg2) (xl (isAgg23 _) hv10) (q1 (vu (IntKind.u64.wrap r7)) (wy 106 hg2) (q1 (vb (decide (v12≥(IntKind.u64.wrap r7)))) (wy 106 hg2) (stp (v:=(vb (decide (v12≥(IntKind.u64.wrap r7))))) (wy 100 hg1) (xT hg2) (q2 (vb (decide (v12≥(IntKind.u64.wrap r7)))) (xF hg1) (ln ?_)))))
 exact ⟨(decide (v12≥(IntKind.u64.wrap r7))),H,hm,hs,hb,h⟩
 have h:=h.2 hg2
 refine sk (yD 106 hg2) (sk (yD 106 hg2) (sk (yD 106 hg2) (sk (yD 106 hg2) (sk (yD 106 hg2) (sk (yD 106 hg2) (stp (v:=(vb false)) (wy 100 hg1) (xF hg2) (q2 (vb false) (xF hg1) (ln ?_))))))))
 exact ⟨false,H,hm,hs,hb,h⟩
 rcases bte (decide (v10>0)) with hg3 | hg3
 have h:=h.1 hg3
 refine q1 (vp (some p1)) (wy 92 hg3) (q1 (vp (some p1)) (wy 92 hg3) (q1 (vp (some (p1.add 9))) (wy 92 hg3) ?_))
 obtain ⟨v13,hv12,h⟩:=h
 refine stp (v:=(vu v13)) (wy 92 hg3) (xl (isAgg23 _) hv12) (q1 (vu (IntKind.u64.wrap r7)) (wy 92 hg3) (q1 (vb (decide (v13≥(IntKind.u64.wrap r7)))) (wy 92 hg3) (q2 (vb (decide (v13≥(IntKind.u64.wrap r7)))) (xT hg3) (zD ?_))))
 exact ⟨(decide (v13≥(IntKind.u64.wrap r7))),Hl1,hm,hs,hb,h⟩
 have h:=h.2 hg3
 refine sk (yD 92 hg3) (sk (yD 92 hg3) (sk (yD 92 hg3) (sk (yD 92 hg3) (sk (yD 92 hg3) (sk (yD 92 hg3) (q2 (vb false) (xF hg3) (zD ?_)))))))
 exact ⟨false,Hl1,hm,hs,hb,h⟩
def m_L1_l1 (r1:Option Addr) (r2:Option Addr) (r3:Option Nat) (places1:Sl) (w0:World) (Hl1:NP) (wl1:World) (Kc1:Sl→NP→WP) (K:(Option Addr)→Int→Int→WP):Prop :=Calls prog 160 #[(vp r2)] wl1 (fun e w4=>∃r4:Int,e=.returned (vi r4)∧Kept Hl1 wl1 w4∧Br (decide (r4>0)) (Calls prog 161 #[(vp r2)] w4 (fun e w5=>∃r5:Int,e=.returned (vi r5)∧Kept Hl1 w4 w5∧Calls prog 162 #[(vp r1),(vp r2),(.map r3)] w5 (fun e w6=>∃r6:Int,e=.returned (vi r6)∧Kept Hl1 w5 w6∧Br (r6 != 0) (K none r6 r5 w6) (∀(p1:Addr) (w7:World),New w6 (.cells #[(vi r5)] 3) p1 w7→∃s1:Sl,∃w8:World,(Builtin.append_ #[50,50] 50 #[places1.v,(Sl.mk (some p1) 1 1).v]).run prog w7=.ok s1.v w8∧Kept Hl1 w7 w8∧Kc1 s1 Hl1 w8)))) (∀(p2:Addr) (w9:World),New w4 (.cells #[(vi 0)] 3) p2 w9→CanW w9 p2∧¬ Hl1 p2.block∧∀w10:World,w10=w9.setCell p2 (vi 0)→Calls prog 103 #[(vp r1)] w10 (fun e w11=>∃r7:Int,e=.returned (vi r7)∧Kept Hl1 w10 w11∧Calls prog 139 #[(vp r1),(vi r7)] w11 (fun e w12=>∃r8:Value,e=.returned r8∧Kept Hl1 w11 w12∧∃(f1:FuncId) (cs1:Array Value),r8=.func (.func f1) #[] cs1∧(∀args w,(callFunc f1 args).run prog w=.ok (.enter f1 args) w)∧∃(xs1:List (Int)) (Rd1:WP),jUJ prog f1 cs1 (fun (z2:Int)=>#[(vi z2)]) xs1 Rd1 w12∧∃(I2 Ix1:List (Int)→NP→WP),RngI w0 Rd1 I2 Ix1 (fun _ _ _=>False)∧I2 [] Hl1 w12∧(∀(pre1:List (Int)) (z2:Int) (Y1:NP) (A1:World),I2 pre1 Y1 A1→Hst w0 Y1 A1 Y1 A1→(∃post,xs1=pre1++z2 :: post)→∃v1:Int,A1.cell? p2=some (vi v1)∧Br (z2 != (q6.wrap (v1+1))) (Kept Y1 A1 A1∧Ix1 (pre1++[z2]) Y1 A1) (∃v2:Int,A1.cell? p2=some (vi v2)∧CanW A1 p2∧¬ None p2.block∧∀w14:World,w14=A1.setCell p2 (vi (q6.wrap (v2+1)))→Kept Y1 A1 w14∧I2 (pre1++[z2]) Y1 w14))∧∀(H1:NP) (w15:World),Hst w0 H1 w15 H1 w15→(∀b,Hl1 b→H1 b)→Kept Hl1 w12 w15→(I2 xs1 H1 w15∨∃pre,Ix1 pre H1 w15)→∃v3:Int,w15.cell? p2=some (vi v3)∧Br (decide (v3<(places1.len:Int))) (∀(w16:World),Hst w0 H1 w15 H1 w16→∃v4:Int,w16.cell? p2=some (vi v4)∧∃a1:Addr,At places1 v4 1 a1∧∃v5:Int,w16.cell? a1=some (vi v5)∧∀(w17:World),Hst w0 H1 w16 H1 w17→K none 73 v5 w17) (∀(w18:World),Hst w0 H1 w15 H1 w18→K r1 0 0 w18)))))
def m_L1 (b1:Sl) (w0:World) (K:(Option Addr)→Int→Int→WP):Prop :=Br (decide ((b1.len:Int)>4096)) (K none 1 0 w0) (Br (((b1.len:Int):Int) == 0) (K none 3 0 w0) (Calls prog 44 #[] w0 (fun e w1=>∃r1:Option Addr,e=.returned (vp r1)∧Kept None w0 w1∧Calls prog 158 #[b1.v] w1 (fun e w2=>∃r2:Option Addr,e=.returned (vp r2)∧Kept None w1 w2∧Calls prog 159 #[] w2 (fun e w3=>∃r3:Option Nat,e=.returned (.map r3)∧Kept None w2 w3∧∃(I1:Sl→NP→WP) (mu1:Sl→World→Nat),I1 Sl.nil None w3∧∀(places1:Sl) (Hl1:NP) (wl1:World),Hst w0 Hl1 wl1 Hl1 wl1→I1 places1 Hl1 wl1→m_L1_l1 r1 r2 r3 places1 w0 Hl1 wl1 (fun y'0 H' w'=>I1 y'0 H' w'∧mu1 y'0 w'<mu1 places1 wl1) K)))))
theorem w_L1 (b1:Sl) (w0:World) (K:(Option Addr)→Int→Int→WP) (h:m_L1 b1 w0 K) :
  Calls prog 102 #[b1.v] w0 (fun e w'=>∃r9:Option Addr,∃r10 r11:Int,e=.returned (.tuple #[(vp r9),(vi r10),(vi r11)])∧K r9 r10 r11 w'):=by
 unfold m_L1 at h
 refine cw (args:=[b1.v]) func102 ntmps102 ?_
 have hs:=Hst.start w0
 have hb:=HB.nil None w0
 refine eg (q0 (vp none) (q0 (vi 0) (q0 (vi 0) (ln (jPO rfl (fun _ _ _ h=>h) (zA (zQ (eg ?_))))))))
 refine q0 b1.v (q0 (vi (b1.len:Int)) (q0 (vb (decide ((b1.len:Int)>4096))) (q0 (vb (decide ((b1.len:Int)>4096))) (ln ?_))))
 refine zB (t:=(decide ((b1.len:Int)>4096))) (by kernel_rfl) (fun hc1=>?_) (fun hc1=>?_)
 have h:=h.1 hc1
 refine eg (q0 (vp none) (q0 (vi 1) (q0 (vi 0) (ln (er (uK (vL (jOH (.inl rfl) results102 (v:=(vp none)) (by kernel_rfl) (v':=(vi 1)) (by kernel_rfl) (v'':=(vi 0)) (by kernel_rfl) ?_))))))))
 exact ⟨none,1,0,rfl,h⟩
 have h:=h.2 hc1
 refine eg (q0 b1.v (q0 (vi (b1.len:Int)) (q0 (vb (((b1.len:Int):Int) == 0)) (q0 (vb (((b1.len:Int):Int) == 0)) (ln ?_)))))
 refine zB (t:=(((b1.len:Int):Int) == 0)) (by kernel_rfl) (fun hc2=>?_) (fun hc2=>?_)
 have h:=h.1 hc2
 refine eg (q0 (vp none) (q0 (vi 3) (q0 (vi 0) (ln (er (uK (vL (jOH (.inl rfl) results102 (v:=(vp none)) (by kernel_rfl) (v':=(vi 3)) (by kernel_rfl) (v'':=(vi 0)) (by kernel_rfl) ?_))))))))
 exact ⟨none,3,0,rfl,h⟩
 have h:=h.2 hc2
 refine zC (tJ (zN (eg ?_)))
 refine sc call44 (h.mono ?_)
 rintro e w1 ⟨r1,rfl,hk,h⟩
 refine ⟨_,rfl,?_⟩
 obtain ⟨hs,hb⟩:=hk.hh hs hb
 refine q0 (vp r1) (ln (eg (q0 b1.v ?_)))
 refine sc call158 (h.mono ?_)
 rintro e w2 ⟨r2,rfl,hk,h⟩
 refine ⟨_,rfl,?_⟩
 obtain ⟨hs,hb⟩:=hk.hh hs hb
 refine q0 (vp r2) (ln (eg ?_))
 refine sc call159 (h.mono ?_)
 rintro e w3 ⟨r3,rfl,hk,h⟩
 refine ⟨_,rfl,?_⟩
 obtain ⟨hs,hb⟩:=hk.hh hs hb
 refine q0 (.map r3) (ln (eg (q0 Sl.nil.v (ln (zA (zQ ?_))))))
 obtain ⟨I1,mu1,h0,hr⟩:=h
 refine qI (σ:=Sl×NP×World) (fun s ρ w=>w=s.2.2∧Has ρ [(5,(vp r1)),(6,(vp r2)),(7,(.map r3)),(8,s.1.v)]∧Hst w0 s.2.1 w s.2.1 w∧HB s.2.1 w []∧I1 s.1 s.2.1 s.2.2) (fun s=>mu1 s.1 s.2.2) (Sl.nil,None,w3) ⟨rfl,hm,hs,hb,h0⟩ ?_
 rintro ⟨places1,Hl1,wl1⟩ ρ w ⟨hw,hH,hs,hb,hI⟩
 obtain rfl:wl1=w:=(show w=wl1 from hw).symm
 have hH:Has ρ [(5,(vp r1)),(6,(vp r2)),(7,(.map r3)),(8,places1.v)]:=hH
 have hs:Hst w0 Hl1 wl1 Hl1 wl1:=hs
 have hb:HB Hl1 wl1 []:=hb
 have h:=hr places1 Hl1 wl1 hs hI
 unfold m_L1_l1 at h
 refine vC hH ?_
 refine zA (eg (q0 (vp r2) ?_))
 refine sc call160 (h.mono ?_)
 rintro e w4 ⟨r4,rfl,hk,h⟩
 refine ⟨_,rfl,?_⟩
 obtain ⟨hs,hb⟩:=hk.hh hs hb
 refine q0 (vb (decide (r4>0))) (ln ?_)
 refine zB (t:=(decide (r4>0))) (by kernel_rfl) (fun hc3=>?_) (fun hc3=>?_)
 have h:=h.1 hc3
 refine zC (zN (zQ (eg (q0 (vp r2) ?_))))
 refine sc call161 (h.mono ?_)
 rintro e w5 ⟨r5,rfl,hk,h⟩
 refine ⟨_,rfl,?_⟩
 obtain ⟨hs,hb⟩:=hk.hh hs hb
 refine q0 (vi r5) (ln (zA (eg (q0 (vp r1) (q0 (vp r2) (q0 (.map r3) ?_))))))
 refine sc call162 (h.mono ?_)
 rintro e w6 ⟨r6,rfl,hk,h⟩
 refine ⟨_,rfl,?_⟩
 obtain ⟨hs,hb⟩:=hk.hh hs hb
 refine q0 (vi r6) (ln (eg (q0 (vi r6) (q0 (vb (r6 != 0)) (ln ?_)))))
 refine zB (t:=(r6 != 0)) (by kernel_rfl) (fun hc4=>?_) (fun hc4=>?_)
 have h:=h.1 hc4
 refine eg (q0 (vi r6) (q0 (vi r5) (q0 (vp none) (q0 (vi r6) (q0 (vi r5) (ln (er (vL (uK ?_)))))))))
 refine vL (uK (vL (jOH (.inl rfl) results102 (v:=(vp none)) (by kernel_rfl) (v':=(vi r6)) (by kernel_rfl) (v'':=(vi r5)) (by kernel_rfl) ?_)))
 exact ⟨none,r6,r5,rfl,h⟩
 have h:=h.2 hc4
 refine zC (zN (rg (q0 places1.v (q0 (vi r5) (vR (O:=(.cells #[(vi r5)] 3)) (fun p=>(Sl.mk (some p) 1 1).v) (zJ rfl) (zK (vs:=#[(0,(vi r5))]) (by kernel_rfl) (by kernel_rfl)) ?_)))))
 intro p1 w7 hn1
 have h:=h p1 w7 hn1
 have hs:=hs.again (Ext.new (F:=None) hn1).keptP
 have hb:=hb.kept (Ext.new (F:=None) hn1).keptP
 obtain ⟨s1,w8,hv1,hk,h⟩:=h
 refine st (v:=s1.v) (zJ rfl) (vS (args:=#[places1.v,(Sl.mk (some p1) 1 1).v]) (by kernel_rfl) (fun _=>rfl) hv1) ?_
 obtain ⟨hs,hb⟩:=hk.hh hs hb
 refine q0 s1.v (zD (tJ (zN ?_)))
 exact ⟨(s1,Hl1,w8),⟨rfl,hm,hs,hb,h.1⟩,h.2⟩
 have h:=h.2 hc3
 refine qE (tN (tN (tP (zN (eg (sn (O:=(.cells #[(vi 0)] 3)) (zO (zeroValue3 _) rfl) ?_))))))
 intro p2 w9 hn4
 have h:=h p2 w9 hn4
 have hs:=hs.again (Ext.new (F:=None) hn4).keptP
 have hb:=hb.kept (Ext.new (F:=None) hn4).keptP
 obtain ⟨hp1,hnh,h⟩:=h
 refine ss (zT (a:=p2) (v:=(vi 0)) (by kernel_rfl) (by kernel_rfl) rfl (sizeOf3 _) hp1) ?_
 intro w10 hn2
 have h:=h w10 hn2
 have hk:=Kept.sc hnh hn2
 obtain ⟨hs,hb⟩:=hk.hh hs hb
 refine ln (zA (jPQ (zN (jMK (rg (q0 (vp r1) (q0 (vp r1) ?_)))))))
 refine sc call103 (h.mono ?_)
 rintro e w11 ⟨r7,rfl,hk,h⟩
 refine ⟨_,rfl,?_⟩
 obtain ⟨hs,hb⟩:=hk.hh hs hb
 refine sc call139 (h.mono ?_)
 rintro e w12 ⟨r8,rfl,hk,h⟩
 refine ⟨_,rfl,?_⟩
 obtain ⟨hs,hb⟩:=hk.hh hs hb
 refine ln ?_
 obtain ⟨f1,cs1,hv2,hf1,h⟩:=h
 obtain ⟨xs1,Rd1,hit,I2,Ix1,hRI,h0,hbody,h⟩:=h
 refine jIK (encs:=(fun (z2:Int)=>#[(vi z2)])) (Eq.trans (b:=r8) (by kernel_rfl) hv2) hf1 hit (fun _=>rfl) (by decide) hs I2 Ix1 (fun _ _ _=>False) hRI h0 ?ha ?hr ?ht
 case ha =>
  intro l z2 w19
  refine rg (q0 (vi z2) (ln ?_))
  refine ⟨rfl,?_⟩
  intro pre1 Y1 A1 hi hY hpost
  have h:=hbody pre1 z2 Y1 A1 hi hY hpost
  have hs:=Hst.start A1
  have hb:=HB.nil None A1
  refine zQ (zA (eg (q0 (vi z2) ?_)))
  obtain ⟨v1,hv4,h⟩:=h
  refine q2 (vi v1) (xl (isAgg3 _) hv4) (q0 (vi (q6.wrap (v1+1))) (q0 (vb (z2 != (q6.wrap (v1+1)))) (ln ?_)))
  refine zB (t:=(z2 != (q6.wrap (v1+1)))) (by kernel_rfl) (fun hc5=>?_) (fun hc5=>?_)
  have h:=h.1 hc5
  refine qE (tN (bl_ne rfl ?_))
  exact rd_x h
  have h:=h.2 hc5
  refine zC (zN (rg ?_))
  obtain ⟨v2,hv3,h⟩:=h
  refine q2 (vi v2) (xl (isAgg3 _) hv3) (q0 (vi (q6.wrap (v2+1))) ?_)
  obtain ⟨hp2,hnh,h⟩:=h
  refine ss (zT (a:=p2) (v:=(vi (q6.wrap (v2+1)))) (by kernel_rfl) (by kernel_rfl) rfl (sizeOf3 _) hp2) ?_
  intro w14 hn3
  have h:=h w14 hn3
  have hk:=Kept.sc hnh hn3
  obtain ⟨hs,hb⟩:=hk.hh hs hb
  refine zD (tJ ?_)
  exact rd_n h
 case hr =>
  intro D1 H1 w15 hs' hD hDe bK hk1 hio1
  have hb':=hb.behind hk1 bK hD hDe
  have hs:=hs'
  have hb:=hb'
  have h:=h H1 w15 hs bK hk1 hio1
  refine zA (eg ?_)
  obtain ⟨v3,hv8,h⟩:=h
  refine q2 (vi v3) (xl (isAgg3 _) hv8) (q0 places1.v (q0 (vi (places1.len:Int)) (q0 (vb (decide (v3<(places1.len:Int)))) (ln ?_))))
  refine zB (t:=(decide (v3<(places1.len:Int)))) (by kernel_rfl) (fun hc6=>?_) (fun hc6=>?_)
  have h:=h.1 hc6
  refine zA (qO (by kernel_rfl) (by kernel_rfl) (by kernel_rfl) (by kernel_rfl) ?_)
  intro w16 hw16
  have hs:Hst w0 H1 w15 H1 w16:=by rw [hw16];exact hs.drew
  have hb:HBZ [(D1,.deferred (some []))] H1 w16 []:=by rw [hw16];exact hb.drew
  refine qq 0 places1.v Kp0 (qg 1 ?_)
  have h:=h w16 hs
  have hs:=hs.here
  obtain ⟨v4,hv7,h⟩:=h
  refine sxQ (v:=(vi v4)) Kp1 (zJ rfl) rfl (xl (isAgg3 _) hv7) (qg 2 ?_)
  obtain ⟨a1,hv6,h⟩:=h
  refine sxQ (v:=(vp (some a1))) Kp2 (zJ rfl) rfl (xi (runUnderlying50 _) (sizeOf3 _) hv6) (qg 3 ?_)
  obtain ⟨v5,hv5,h⟩:=h
  refine sxQ (v:=(vi v5)) Kp3 (zJ rfl) rfl (xl (isAgg3 _) hv5) (qq 4 (vp none) Kp4 (qq 5 (vi 73) Kp5 (qq 6 (vi v5) Kp6 (wn (zN (er (vL (af_r hb.dead ?_))))))))
  intro w17 hw'
  have hl:=hb.leave hs hw'
  obtain ⟨hs,hb⟩:=hl
  -- behind the loop
  have h:=h w17 hs
  have hs:=hs.here
  refine jOH (.inl rfl) results102 (v:=(vp none)) (by kernel_rfl) (v':=(vi 73)) (by kernel_rfl) (v'':=(vi v5)) (by kernel_rfl) ?_
  exact ⟨none,73,v5,rfl,h⟩
  have h:=h.2 hc6
  refine zC (zN (eg (q0 (vp r1) (q0 (vp r1) (q0 (vi 0) (q0 (vi 0) (ln (er (af_r hb.dead ?_)))))))))
  intro w18 hw'
  have hl:=hb.leave hs hw'
  obtain ⟨hs,hb⟩:=hl
  -- behind the loop
  have h:=h w18 hs
  have hs:=hs.here
  refine jOH (.inl rfl) results102 (v:=(vp r1)) (by kernel_rfl) (v':=(vi 0)) (by kernel_rfl) (v'':=(vi 0)) (by kernel_rfl) ?_
  exact ⟨r1,0,0,rfl,h⟩
 case ht =>
  intro _ _ _ _ _ _ _ h
  exact h.elim
def m_V2 (p1:Option Addr) (b1:Sl) (w0:World) (K:Int→Int→Int→WP):Prop :=Br (Option.isNone p1) (K 0 2 0 w0) (Calls prog 102 #[b1.v] w0 (fun e w1=>∃r1:Option Addr,∃r2 r3:Int,e=.returned (.tuple #[(vp r1),(vi r2),(vi r3)])∧Br (r2 != 0) (K 0 r2 r3 w1) (Calls prog 103 #[(vp r1)] w1 (fun e w2=>∃r4:Int,e=.returned (vi r4)∧Calls prog 75 #[(vp p1),(vp r1),(vi r4)] w2 (fun e w3=>∃r5 r6:Int,e=.returned (.tuple #[(vi r5),(vi r6)])∧K r5 r6 0 w3)))))
theorem w_V2 (p1:Option Addr) (b1:Sl) (w0:World) (K:Int→Int→Int→WP) (h:m_V2 p1 b1 w0 K) :
  Calls prog 46 #[(vp p1),b1.v] w0 (fun e w'=>∃r7 r8 r9:Int,e=.returned (.tuple #[(vi r7),(vi r8),(vi r9)])∧K r7 r8 r9 w'):=by
 unfold m_V2 at h
 refine cw (args:=[(vp p1),b1.v]) func46 ntmps46 (eg (q0 (vi 0) (q0 (vi 0) (q0 (vi 0) (ln (zA (eg (q0 (vp p1) ?_))))))))
 refine q2 (vb (Option.isNone p1)) (qL (by kernel_rfl) rfl underlying91) (ln ?_)
 refine zB (t:=(Option.isNone p1)) (by kernel_rfl) (fun hc1=>?_) (fun hc1=>?_)
 have h:=h.1 hc1
 refine eg (q0 (vi 0) (q0 (vi 2) (q0 (vi 0) (ln (er (vL (jOH (.inl rfl) results46 (v:=(vi 0)) (by kernel_rfl) (v':=(vi 2)) (by kernel_rfl) (v'':=(vi 0)) (by kernel_rfl) ?_)))))))
 exact ⟨0,2,0,rfl,h⟩
 have h:=h.2 hc1
 refine zC (zN (eg (q0 b1.v ?_)))
 refine sc call102 (h.mono ?_)
 rintro e w1 ⟨r1,r2,r3,rfl,h⟩
 refine ⟨_,rfl,?_⟩
 refine q0 (.tuple #[(vp r1),(vi r2),(vi r3)]) (q0 (vp r1) (q0 (vi r2) (q0 (vi r3) (q0 (vp r1) (q0 (vi r2) (q0 (vi r3) (ln (zA (eg ?_)))))))))
 refine q0 (vi r2) (q0 (vb (r2 != 0)) (ln ?_))
 refine zB (t:=(r2 != 0)) (by kernel_rfl) (fun hc2=>?_) (fun hc2=>?_)
 have h:=h.1 hc2
 refine eg (q0 (vi r2) (q0 (vi r3) (q0 (vi 0) (q0 (vi r2) (q0 (vi r3) (ln (er (vL (jOH (.inl rfl) results46 (v:=(vi 0)) (by kernel_rfl) (v':=(vi r2)) (by kernel_rfl) (v'':=(vi r3)) (by kernel_rfl) ?_)))))))))
 exact ⟨0,r2,r3,rfl,h⟩
 have h:=h.2 hc2
 refine zC (zN (eg (q0 (vp p1) (q0 (vp r1) (q0 (vp r1) ?_)))))
 refine sc call103 (h.mono ?_)
 rintro e w2 ⟨r4,rfl,h⟩
 refine ⟨_,rfl,?_⟩
 refine sc call75 (h.mono ?_)
 rintro e w3 ⟨r5,r6,rfl,h⟩
 refine ⟨_,rfl,?_⟩
 refine q0 (.tuple #[(vi r5),(vi r6)]) (q0 (vi r5) (q0 (vi r6) (q0 (vi r5) (q0 (vi r6) (ln (eg (q0 (vi r5) (q0 (vi r6) (q0 (vi r5) ?_)))))))))
 refine q0 (vi r6) (q0 (vi 0) (ln (er (jOH (.inl rfl) results46 (v:=(vi r5)) (by kernel_rfl) (v':=(vi r6)) (by kernel_rfl) (v'':=(vi 0)) (by kernel_rfl) ?_))))
 exact ⟨r5,r6,0,rfl,h⟩
def m_M1_l1 (n2:Int) (out1:Sl) (wl1:World) (Kc1:Int→Sl→WP) (K:Sl→WP):Prop :=Br (decide (n2≥128)) (∃z1:Int,(Go.binOp .rem 23 (vu n2) (vu 128)).run prog wl1=.ok (vu z1) wl1∧∀(p2:Addr) (w3:World),New wl1 (.cells #[(.int .u8 (IntKind.u8.wrap (IntKind.u64.wrap (z1+128))))] 5) p2 w3→∃s2:Sl,∃w4:World,(Builtin.append_ #[65,65] 65 #[out1.v,(Sl.mk (some p2) 1 1).v]).run prog w3=.ok s2.v w4∧∃z2:Int,(Go.binOp .quo 23 (vu n2) (vu 128)).run prog w4=.ok (vu z2) w4∧Kc1 z2 s2 w4) (∀(p3:Addr) (w5:World),New wl1 (.cells #[(.int .u8 (IntKind.u8.wrap n2))] 5) p3 w5→∃s3:Sl,∃w6:World,(Builtin.append_ #[65,65] 65 #[out1.v,(Sl.mk (some p3) 1 1).v]).run prog w5=.ok s3.v w6∧K s3 w6)
def m_M1 (b1:Sl) (n1:Int) (w0:World) (K:Sl→WP):Prop :=∀(p1:Addr) (w1:World),New w0 (.cells #[] 5) p1 w1→∃s1:Sl,∃w2:World,(Builtin.append_ #[65,65] 65 #[(Sl.mk (some p1) 0 0).v,b1.v]).run prog w1=.ok s1.v w2∧∃(I1:Int→Sl→WP) (mu1:Int→Sl→World→Nat),I1 n1 s1 w2∧∀(n2:Int) (out1:Sl) (wl1:World),I1 n2 out1 wl1→m_M1_l1 n2 out1 wl1 (fun y'0 y'1 w'=>I1 y'0 y'1 w'∧mu1 y'0 y'1 w'<mu1 n2 out1 wl1) K
theorem w_M1 (b1:Sl) (n1:Int) (w0:World) (K:Sl→WP) (h:m_M1 b1 n1 w0 K) :
  Calls prog 236 #[b1.v,(vu n1)] w0 (fun e w'=>∃r1:Sl,e=.returned r1.v∧K r1 w'):=by
 unfold m_M1 at h
 refine cw (args:=[b1.v,(vu n1)]) func236 ntmps236 (eg (q0 Sl.nil.v (ln (eg (vR (O:=(.cells #[] 5)) (fun p=>(Sl.mk (some p) 0 0).v) (zJ rfl) (zK (vs:=#[]) (by kernel_rfl) (by kernel_rfl)) ?_)))))
 intro p1 w1 hn3
 have h:=h p1 w1 hn3
 refine q0 b1.v ?_
 obtain ⟨s1,w2,hv5,h⟩:=h
 refine st (v:=s1.v) (zJ rfl) (vS (args:=#[(Sl.mk (some p1) 0 0).v,b1.v]) (by kernel_rfl) (fun _=>rfl) hv5) (q0 s1.v (ln (zA (zQ ?_))))
 obtain ⟨I1,mu1,h0,hr⟩:=h
 refine qI (σ:=Int×Sl×World) (fun s ρ w=>w=s.2.2∧Has ρ [(1,(vu s.1)),(5,s.2.1.v)]∧I1 s.1 s.2.1 s.2.2) (fun s=>mu1 s.1 s.2.1 s.2.2) (n1,s1,w2) ⟨rfl,hm,h0⟩ ?_
 rintro ⟨n2,out1,wl1⟩ ρ w ⟨hw,hH,hI⟩
 obtain rfl:wl1=w:=(show w=wl1 from hw).symm
 have hH:Has ρ [(1,(vu n2)),(5,out1.v)]:=hH
 have h:=hr n2 out1 wl1 hI
 unfold m_M1_l1 at h
 refine vC hH ?_
 refine zA (eg (q0 (vu n2) (q0 (vb (decide (n2≥128))) (ln ?_))))
 refine zB (t:=(decide (n2≥128))) (by kernel_rfl) (fun hc1=>?_) (fun hc1=>?_)
 have h:=h.1 hc1
 refine zC (zN (zQ (eg (q0 out1.v (q0 (vu n2) ?_)))))
 obtain ⟨z1,hv3,h⟩:=h
 refine q2 (vu z1) (jKW (by kernel_rfl) (by kernel_rfl) (by kernel_rfl) hv3) (q0 (vu (IntKind.u64.wrap (z1+128))) (q0 (.int .u8 (IntKind.u8.wrap (IntKind.u64.wrap (z1+128)))) (vR (O:=(.cells #[(.int .u8 (IntKind.u8.wrap (IntKind.u64.wrap (z1+128))))] 5)) (fun p=>(Sl.mk (some p) 1 1).v) (zJ rfl) (zK (vs:=#[(0,(.int .u8 (IntKind.u8.wrap (IntKind.u64.wrap (z1+128)))))]) (by kernel_rfl) (by kernel_rfl)) ?_)))
 intro p2 w3 hn1
 have h:=h p2 w3 hn1
 obtain ⟨s2,w4,hv2,h⟩:=h
 refine st (v:=s2.v) (zJ rfl) (vS (args:=#[out1.v,(Sl.mk (some p2) 1 1).v]) (by kernel_rfl) (fun _=>rfl) hv2) (q0 s2.v (ln (rg (q0 (vu n2) ?_))))
 obtain ⟨z2,hv1,h⟩:=h
 refine q2 (vu z2) (jKW (by kernel_rfl) (by kernel_rfl) (by kernel_rfl) hv1) (q0 (vu z2) (zD (tJ (zN ?_))))
 exact ⟨(z2,s2,w4),⟨rfl,hm,h.1⟩,h.2⟩
 have h:=h.2 hc1
 refine qE (tN (tN (tP (zN (eg (q0 out1.v (q0 (vu n2) (q0 (.int .u8 (IntKind.u8.wrap n2)) (vR (O:=(.cells #[(.int .u8 (IntKind.u8.wrap n2))] 5)) (fun p=>(Sl.mk (some p) 1 1).v) (zJ rfl) (zK (vs:=#[(0,(.int .u8 (IntKind.u8.wrap n2)))]) (by kernel_rfl) (by kernel_rfl)) ?_)))))))))
 intro p3 w5 hn2
 have h:=h p3 w5 hn2
 obtain ⟨s3,w6,hv4,h⟩:=h
 refine st (v:=s3.v) (zJ rfl) (vS (args:=#[out1.v,(Sl.mk (some p3) 1 1).v]) (by kernel_rfl) (fun _=>rfl) hv4) (q0 s3.v (ln (er (rs1 results236 (v:=s3.v) ?_))))
 exact ⟨s3,rfl,h⟩
def m_W2 (b1:Sl) (s1:ByteArray) (w0:World) (K:Sl→WP):Prop :=Calls prog 236 #[b1.v,(vu (IntKind.u64.wrap (s1.size:Int)))] w0 (fun e w1=>∃r1:Sl,e=.returned r1.v∧∃s2:Sl,∃w2:World,(Builtin.append_ #[65,9] 65 #[r1.v,(vs s1)]).run prog w1=.ok s2.v w2∧K s2 w2)
theorem w_W2 (b1:Sl) (s1:ByteArray) (w0:World) (K:Sl→WP) (h:m_W2 b1 s1 w0 K) :
  Calls prog 237 #[b1.v,(vs s1)] w0 (fun e w'=>∃r2:Sl,e=.returned r2.v∧K r2 w'):=by
 unfold m_W2 at h
 refine cw (args:=[b1.v,(vs s1)]) func237 ntmps237 (eg (q0 Sl.nil.v (ln (eg (q0 b1.v (q0 (vs s1) (q0 (vi (s1.size:Int)) (q0 (vu (IntKind.u64.wrap (s1.size:Int))) ?_))))))))
 refine sc call236 (h.mono ?_)
 rintro e w1 ⟨r1,rfl,h⟩
 refine ⟨_,rfl,?_⟩
 refine q0 (vs s1) ?_
 obtain ⟨s2,w2,hv1,h⟩:=h
 refine st (v:=s2.v) (zJ rfl) (vS (args:=#[r1.v,(vs s1)]) (by kernel_rfl) (fun _=>rfl) hv1) (q0 s2.v (ln (er (rs1 results237 (v:=s2.v) ?_))))
 exact ⟨s2,rfl,h⟩
def m_F_j6 (s1:Sl) (i1 aB aJ:Int) (b8:Sl) (w0:World) (H:NP) (w:World) (Kc1:Sl→Int→NP→WP) (_K:Sl→WP):Prop :=Br (((s_A aB):Int) == 2) (∃a7:Addr,At s1 aJ 1 a7∧∀(w15:World),Hst w0 H w H w15→∃v5:Int,w15.cell? a7=some (vi v5)∧Calls prog 236 #[b8.v,(vu (IntKind.u64.wrap v5))] w15 (fun e w16=>∃r2:Sl,e=.returned r2.v∧Kept H w15 w16∧Kc1 r2 (q6.wrap (i1+1)) H w16)) (∀(w15:World),Hst w0 H w H w15→Kc1 b8 (q6.wrap (i1+1)) H w15)
def m_F_j5 (s1:Sl) (i1 aB:Int) (aK aJ:Int) (b7:Sl) (w0:World) (H:NP) (w:World) (Kc1:Sl→Int→NP→WP) (K:Sl→WP):Prop :=Br (decide ((s_A aB)≥1)) (∃a8:Addr,At s1 aK 1 a8∧∀(w14:World),Hst w0 H w H w14→∃v6:Int,w14.cell? a8=some (vi v6)∧Calls prog 236 #[b7.v,(vu (IntKind.u64.wrap v6))] w14 (fun e w17=>∃r3:Sl,e=.returned r3.v∧Kept H w14 w17∧m_F_j6 s1 i1 aB aJ r3 w0 H w17 Kc1 K)) (∀(w14:World),Hst w0 H w H w14→m_F_j6 s1 i1 aB aJ b7 w0 H w14 Kc1 K)
def m_F_j4 (s1:Sl) (i1 aB:Int) (aL:ByteArray) (aK aJ:Int) (b6:Sl) (w0:World) (H:NP) (w:World) (Kc1:Sl→Int→NP→WP) (K:Sl→WP):Prop :=Br (aB == 3) (Calls prog 237 #[b6.v,(vs aL)] w (fun e w18=>∃r4:Sl,e=.returned r4.v∧Kept H w w18∧m_F_j5 s1 i1 aB aK aJ r4 w0 H w18 Kc1 K)) (m_F_j5 s1 i1 aB aK aJ b6 w0 H w Kc1 K)
def m_F_j3 (s1:Sl) (i1 aB aM:Int) (aL:ByteArray) (aK aJ:Int) (b5:Sl) (w0:World) (H:NP) (w:World) (Kc1:Sl→Int→NP→WP) (K:Sl→WP):Prop :=Br (aB == 2) (Calls prog 236 #[b5.v,(vu aM)] w (fun e w19=>∃r5:Sl,e=.returned r5.v∧Kept H w w19∧m_F_j4 s1 i1 aB aL aK aJ r5 w0 H w19 Kc1 K)) (m_F_j4 s1 i1 aB aL aK aJ b5 w0 H w Kc1 K)
def m_F_j2 (s1:Sl) (i1 aB:Int) (aN aM:Int) (aL:ByteArray) (aK aJ:Int) (b3:Sl) (w0:World) (H:NP) (w:World) (Kc1:Sl→Int→NP→WP) (K:Sl→WP):Prop :=Br ((aB == 8) || (aB == 9)) (∀(H4:NP) (w13:World),Hst w0 H w H4 w13→Calls prog 236 #[b3.v,(vu (IntKind.u64.wrap aN))] w13 (fun e w20=>∃r6:Sl,e=.returned r6.v∧Kept H4 w13 w20∧m_F_j3 s1 i1 aB aM aL aK aJ r6 w0 H4 w20 Kc1 K)) (∀(H4:NP) (w13:World),Hst w0 H w H4 w13→m_F_j3 s1 i1 aB aM aL aK aJ b3 w0 H4 w13 Kc1 K)
def m_F_l1 (p1:Option Addr) (r1 s1 b1:Sl) (i1:Int) (w0:World) (Hl1:NP) (wl1:World) (Kc1:Sl→Int→NP→WP) (K:Sl→WP):Prop :=Br (decide (i1<(r1.len:Int))) (∃a2:Addr,p1=some a2∧∃v2:Sl,wl1.cell? a2=some v2.v∧¬ Hl1 a2.block∧∃a3:Addr,At r1 i1 1 a3∧∃v3:Int,wl1.cell? a3=some (vi v3)∧¬ Hl1 a3.block∧∃a4:Addr,At v2 (q6.wrap (v3 - 1)) 7 a4∧∃aB aO:Int,∃aN aM:Int,∃aL:ByteArray,∃aK aJ:Int,Row wl1 a4 [(vi aB),(vi aO),(vi aN),(vu aM),(vs aL),(vi aK),(vi aJ)]∧¬ Hl1 a4.block∧∃a5:Addr,At r1 i1 1 a5∧∀(H2:NP) (w6:World),Hst w0 Hl1 wl1 H2 w6→∃v4:Int,w6.cell? a5=some (vi v4)∧∃a6:Addr,At s1 v4 1 a6∧CanW w6 a6∧¬ H2 a6.block∧∀w9:World,w9=w6.setCell a6 (vi i1)→∀(p5:Addr) (w10:World),New w9 (.cells #[(.int .u8 (IntKind.u8.wrap aB))] 5) p5 w10→∃s2:Sl,∃w11:World,(Builtin.append_ #[65,65] 65 #[b1.v,(Sl.mk (some p5) 1 1).v]).run prog w10=.ok s2.v w11∧Kept H2 w10 w11∧Br (s_C1 aB) (∀(w12:World),Hst w0 H2 w11 H2 w12→Calls prog 236 #[s2.v,(vu (IntKind.u64.wrap aO))] w12 (fun e w21=>∃r7:Sl,e=.returned r7.v∧Kept H2 w12 w21∧m_F_j2 s1 i1 aB aN aM aL aK aJ r7 w0 H2 w21 Kc1 K)) (∀(w12:World),Hst w0 H2 w11 H2 w12→m_F_j2 s1 i1 aB aN aM aL aK aJ s2 w0 H2 w12 Kc1 K)) (K b1 wl1)
def m_F (p1:Option Addr) (t1:Int) (w0:World) (K:Sl→WP):Prop :=Calls prog 69 #[(vp p1),(vi t1)] w0 (fun e w1=>∃r1:Sl,e=.returned r1.v∧Kept None w0 w1∧∃a1:Addr,p1=some a1∧∃v1:Sl,w1.cell? a1=some v1.v∧∃s1:Sl,∃w2:World,(Instr.makeSlice 50 (vi (q6.wrap ((v1.len:Int)+1))) (vi (q6.wrap ((v1.len:Int)+1)))).run prog w1=.ok s1.v w2∧Kept None w1 w2∧∃(I1:Sl→Int→NP→WP) (mu1:Sl→Int→World→Nat),I1 Sl.nil 0 None w2∧∀(b1:Sl) (i1:Int) (Hl1:NP) (wl1:World),Hst w0 Hl1 wl1 Hl1 wl1→I1 b1 i1 Hl1 wl1→m_F_l1 p1 r1 s1 b1 i1 w0 Hl1 wl1 (fun y'0 y'1 H' w'=>I1 y'0 y'1 H' w'∧mu1 y'0 y'1 w'<mu1 b1 i1 wl1) K)
theorem w_F (p1:Option Addr) (t1:Int) (w0:World) (K:Sl→WP) (h:m_F p1 t1 w0 K) :
  Calls prog 166 #[(vp p1),(vi t1)] w0 (fun e w'=>∃r8:Sl,e=.returned r8.v∧K r8 w'):=by
 unfold m_F at h
 refine cw (args:=[(vp p1),(vi t1)]) func166 ntmps166 ?_
 have hs:=Hst.start w0
 have hb:=HB.nil None w0
 refine eg (q0 Sl.nil.v (ln (eg (q0 (vp p1) (q0 (vi t1) ?_)))))
 refine sc call69 (h.mono ?_)
 rintro e w1 ⟨r1,rfl,hk,h⟩
 refine ⟨_,rfl,?_⟩
 obtain ⟨hs,hb⟩:=hk.hh hs hb
 refine q0 r1.v (ln (eg (q0 (vp p1) ?_)))
 obtain ⟨a1,hp1,h⟩:=h
 refine q2 (vp (some a1)) (xn hp1) (q0 (vp (some a1)) ?_)
 obtain ⟨v1,hv15,h⟩:=h
 refine q2 v1.v (xl (isAgg49 _) hv15) (q0 (vi (v1.len:Int)) (q0 (vi (q6.wrap ((v1.len:Int)+1))) ?_))
 obtain ⟨s1,w2,hv14,hk,h⟩:=h
 refine st (v:=s1.v) (zJ rfl) (jEE (by kernel_rfl) (by kernel_rfl) hv14) ?_
 obtain ⟨hs,hb⟩:=hk.hh hs hb
 refine q0 s1.v (ln (eg (q0 Sl.nil.v (ln (zA (eg (q0 (vi 0) ?_)))))))
 refine ln (zQ ?_)
 obtain ⟨I1,mu1,h0,hr⟩:=h
 refine qI (σ:=Sl×Int×NP×World) (fun s ρ w=>w=s.2.2.2∧Has ρ [(0,(vp p1)),(5,r1.v),(6,s1.v),(7,s.1.v),(8,(vi s.2.1))]∧Hst w0 s.2.2.1 w s.2.2.1 w∧HB s.2.2.1 w []∧I1 s.1 s.2.1 s.2.2.1 s.2.2.2) (fun s=>mu1 s.1 s.2.1 s.2.2.2) (Sl.nil,0,None,w2) ⟨rfl,hm,hs,hb,h0⟩ ?_
 rintro ⟨b1,i1,Hl1,wl1⟩ ρ w ⟨hw,hH,hs,hb,hI⟩
 obtain rfl:wl1=w:=(show w=wl1 from hw).symm
 have hH:Has ρ [(0,(vp p1)),(5,r1.v),(6,s1.v),(7,b1.v),(8,(vi i1))]:=hH
 have hs:Hst w0 Hl1 wl1 Hl1 wl1:=hs
 have hb:HB Hl1 wl1 []:=hb
 have h:=hr b1 i1 Hl1 wl1 hs hI
 unfold m_F_l1 at h
 refine vC hH ?_
 refine zA (eg (q0 (vi i1) (q0 r1.v (q0 (vi (r1.len:Int)) (q0 (vb (decide (i1<(r1.len:Int)))) (ln ?_))))))
 refine zB (t:=(decide (i1<(r1.len:Int)))) (by kernel_rfl) (fun hc1=>?_) (fun hc1=>?_)
 have h:=h.1 hc1
 refine zC (zN (zA (zQ (zA (vB (fun x=>∃H',Hst w0 Hl1 wl1 H' x∧HB H' x []) [11,12] [12] (by kernel_rfl) (by kernel_rfl) (by kernel_rfl) (by kernel_rfl) ⟨_,hs.drew,hb.drew⟩ ?_)))))
 intro w3 hw3
 have hs:Hst w0 Hl1 wl1 Hl1 w3:=by rw [hw3];exact hs.drew
 have hb:HB Hl1 w3 []:=by rw [hw3];exact hb.drew
 refine qx 0 (vp p1) Kp0 (qg 1 ?_)
 obtain ⟨a2,hp2,h⟩:=h
 refine sy (v:=(vp (some a2))) Kp1 (fun _ _=>(xn hp2)) (qx 2 (vp (some a2)) Kp2 (qg 3 ?_))
 obtain ⟨v2,hv13,hnh,h⟩:=h
 refine sy (v:=v2.v) Kp3 (fun w' hw'=>by obtain ⟨H',hs',hb'⟩:=hw';exact (xl (isAgg49 _) (jHX hv13 hnh hs'))) ?_
 refine qx 4 r1.v Kp4 (qx 5 (vi i1) Kp5 (qg 6 ?_))
 obtain ⟨a3,hv12,h⟩:=h
 refine sy (v:=(vp (some a3))) Kp6 (fun _ _=>(xi (runUnderlying54 _) (sizeOf78 _) hv12)) (qg 7 ?_)
 obtain ⟨v3,hv11,hnh,h⟩:=h
 refine sy (v:=(vi v3)) Kp7 (fun w' hw'=>by obtain ⟨H',hs',hb'⟩:=hw';exact (xl (isAgg78 _) (jHX hv11 hnh hs'))) ?_
 refine qx 8 (vi (q6.wrap (v3 - 1))) Kp8 (qg 9 ?_)
 obtain ⟨a4,hv10,h⟩:=h
 refine sy (v:=(vp (some a4))) Kp9 (fun _ _=>(xi (runUnderlying49 _) (sizeOf127 _) hv10)) (qg 10 ?_)
 obtain ⟨aB,aO,aN,aM,aL,aK,aJ,hv9,hnh,h⟩:=h
 refine sy (v:=(.agg #[(vi aB),(vi aO),(vi aN),(vu aM),(vs aL),(vi aK),(vi aJ)])) (zS (S8 (zG (zG zR)))) (fun w' hw'=>by obtain ⟨H',hs',hb'⟩:=hw';exact (xa a4 [(vi aB),(vi aO),(vi aN),(vu aM),(vs aL),(vi aK),(vi aJ)] (isAgg127 _) (sizeOf127 _) (jQI hv9 hnh hs'))) ?_
 refine jVB (fun ρ wJ=>∃p3:Addr,∃HJ:NP,Hst w0 Hl1 wl1 HJ wJ∧HB HJ wJ [(p3,[(vi aB),(vi aO),(vi aN),(vu aM),(vs aL),(vi aK),(vi aJ)],127)]∧Has ρ [(0,(vp p1)),(5,r1.v),(6,s1.v),(7,b1.v),(8,(vi i1)),(9,(vp (some p3)))]) ?_ ?_
 refine lg 11 (jBS (O:=(.cells #[(vi 0),(vi 0),(vi 0),(vu 0),ve,(vi 0),(vi 0)] 127)) (fun p=>.pointer (some p)) (zS (S8 (zG (zG (zG zR))))) (zJ rfl) (by kernel_rfl) (zO (zeroValue127 _) rfl) ?_)
 intro p4 w7 hn3
 obtain ⟨H3,hs,hb⟩:=hs.alloc hb hn3
 refine ⟨.inr ⟨_,hs,hb.drop 1⟩,?_⟩
 refine lg 12 (uB (zS (S8 (S4 zR))) (zJ rfl) (by kernel_rfl) (xo p4 [(vi aB),(vi aO),(vi aN),(vu aM),(vs aL),(vi aK),(vi aJ)] (sizeOf127 _) (hb.k0 0 7 gZ)) ?_)
 intro w8 hn4
 obtain ⟨hs,hb⟩:=hb.s0 (l':=[(p4,[(vi aB),(vi aO),(vi aN),(vu aM),(vs aL),(vi aK),(vi aJ)],127)]) 0 [(vi aB),(vi aO),(vi aN),(vu aM),(vs aL),(vi aK),(vi aJ)] hs hn4 gZ
 refine ⟨.inl (by kernel_rfl),?_⟩
 refine wn ?_
 exact ⟨p4,_,hs,hb,hm⟩
 rintro ρ w6 ⟨p3,H2,hs,hb,hH⟩
 refine q_has hH ?_
 refine zN (eg (q0 s1.v (q0 r1.v (q0 (vi i1) ?_))))
 obtain ⟨a5,hv8,h⟩:=h
 refine q2 (vp (some a5)) (xi (runUnderlying54 _) (sizeOf78 _) hv8) ?_
 have h:=h H2 w6 hs
 have hs:=hs.here
 obtain ⟨v4,hv7,h⟩:=h
 refine q2 (vi v4) (xl (isAgg78 _) hv7) (q0 (vi i1) ?_)
 obtain ⟨a6,hv6,h⟩:=h
 refine q2 (vp (some a6)) (xi (runUnderlying50 _) (sizeOf3 _) hv6) ?_
 obtain ⟨hp3,hnh,h⟩:=h
 refine ss (zT (a:=a6) (v:=(vi i1)) (by kernel_rfl) (by kernel_rfl) rfl (sizeOf3 _) hp3) ?_
 intro w9 hn5
 have h:=h w9 hn5
 have hk:=Kept.sc hnh hn5
 obtain ⟨hs,hb⟩:=hk.hh hs hb
 refine ln (eg (q0 b1.v (q0 (vp (some p3)) (q2 (vi aB) (xl (isAgg3 _) (hb.c0 0 gZ)) (q0 (.int .u8 (IntKind.u8.wrap aB)) (vR (O:=(.cells #[(.int .u8 (IntKind.u8.wrap aB))] 5)) (fun p=>(Sl.mk (some p) 1 1).v) (zJ rfl) (zK (vs:=#[(0,(.int .u8 (IntKind.u8.wrap aB)))]) (by kernel_rfl) (by kernel_rfl)) ?_))))))
 intro p5 w10 hn6
 have h:=h p5 w10 hn6
 have hs:=hs.again (Ext.new (F:=None) hn6).keptP
 have hb:=hb.kept (Ext.new (F:=None) hn6).keptP
 obtain ⟨s2,w11,hv5,hk,h⟩:=h
 refine st (v:=s2.v) (zJ rfl) (vS (args:=#[b1.v,(Sl.mk (some p5) 1 1).v]) (by kernel_rfl) (fun _=>rfl) hv5) ?_
 obtain ⟨hs,hb⟩:=hk.hh hs hb
 refine q0 s2.v (ln (zA (eg (q0 (vp (some p3)) (q2 (vi aB) (xl (isAgg3 _) (hb.c0 0 gZ)) ?_)))))
 refine sc call126 ((p_C1 aB w11).mono ?_)
 rintro e w12 ⟨he,hE⟩
 refine ⟨(vb (s_C1 aB)),he.trans (by kernel_rfl),?_⟩
 have hs:=hs.pure hE
 have hb:=hb.pure hE
 refine ln ?_
 refine vI (fun ρ w=>∃b3:Sl,∃H:NP,Has ρ [(0,(vp p1)),(5,r1.v),(6,s1.v),(7,b3.v),(8,(vi i1)),(9,(vp (some p3)))]∧Hst w0 H w H w∧HB H w [(p3,[(vi aB),(vi aO),(vi aN),(vu aM),(vs aL),(vi aK),(vi aJ)],127)]∧m_F_j2 s1 i1 aB aN aM aL aK aJ b3 w0 H w (fun y'0 y'1 H' w'=>I1 y'0 y'1 H' w'∧mu1 y'0 y'1 w'<mu1 b1 i1 wl1) K) ?_ ?_
 rintro ρ w ⟨b3,H,hH,hs,hb,h⟩
 unfold m_F_j2 at h
 refine vC hH ?_
 refine zA (zA ?_)
 refine vO (fun ρ wJ=>∃b4'0:Bool,∃HJ:NP,((aB == 8)=b4'0)∧Hst w0 H w HJ wJ∧HB HJ wJ [(p3,[(vi aB),(vi aO),(vi aN),(vu aM),(vs aL),(vi aK),(vi aJ)],127)]∧Has ρ [(0,(vp p1)),(5,r1.v),(6,s1.v),(7,b3.v),(8,(vi i1)),(9,(vp (some p3))),(65,(vb (b4'0 || (aB == 9))))]) ?_ ?_
 refine rg (q0 (vp (some p3)) (q2 (vi aB) (xl (isAgg3 _) (hb.c0 0 gZ)) (q0 (vb (aB == 8)) (q0 (vb (aB == 8)) ?_))))
 rcases bte (aB == 8) with hg2 | hg2
 refine sk (yD 61 hg2) (sk (yD 61 hg2) (sk (yD 61 hg2) (q2 (vb true) (xT hg2) (ln ?_))))
 exact ⟨true,_,hg2,hs,hb,hm⟩
 refine q1 (vp (some p3)) (wy 61 hg2) (stp (v:=(vi aB)) (wy 61 hg2) (xl (isAgg3 _) (hb.c0 0 gZ)) (q1 (vb (aB == 9)) (wy 61 hg2) (q2 (vb (aB == 9)) (xF hg2) (ln ?_))))
 exact ⟨false,_,hg2,hs,hb,hm⟩
 rintro ρ w13 ⟨b4'0,H4,he0,hs,hb,hH⟩
 subst he0
 refine vH hH ?_
 refine zN ?_
 refine vI (fun ρ w=>∃b5:Sl,∃H:NP,Has ρ [(0,(vp p1)),(5,r1.v),(6,s1.v),(7,b5.v),(8,(vi i1)),(9,(vp (some p3)))]∧Hst w0 H w H w∧HB H w [(p3,[(vi aB),(vi aO),(vi aN),(vu aM),(vs aL),(vi aK),(vi aJ)],127)]∧m_F_j3 s1 i1 aB aM aL aK aJ b5 w0 H w (fun y'0 y'1 H' w'=>I1 y'0 y'1 H' w'∧mu1 y'0 y'1 w'<mu1 b1 i1 wl1) K) ?_ ?_
 rintro ρ w ⟨b5,H,hH,hs,hb,h⟩
 unfold m_F_j3 at h
 refine vC hH ?_
 refine zA (eg (q0 (vp (some p3)) (q2 (vi aB) (xl (isAgg3 _) (hb.c0 0 gZ)) (q0 (vb (aB == 2)) (ln ?_)))))
 refine vI (fun ρ w=>∃b6:Sl,∃H:NP,Has ρ [(0,(vp p1)),(5,r1.v),(6,s1.v),(7,b6.v),(8,(vi i1)),(9,(vp (some p3)))]∧Hst w0 H w H w∧HB H w [(p3,[(vi aB),(vi aO),(vi aN),(vu aM),(vs aL),(vi aK),(vi aJ)],127)]∧m_F_j4 s1 i1 aB aL aK aJ b6 w0 H w (fun y'0 y'1 H' w'=>I1 y'0 y'1 H' w'∧mu1 y'0 y'1 w'<mu1 b1 i1 wl1) K) ?_ ?_
 rintro ρ w ⟨b6,H,hH,hs,hb,h⟩
 unfold m_F_j4 at h
 refine vC hH ?_
 refine zA (eg (q0 (vp (some p3)) (q2 (vi aB) (xl (isAgg3 _) (hb.c0 0 gZ)) (q0 (vb (aB == 3)) (ln ?_)))))
 refine vI (fun ρ w=>∃b7:Sl,∃H:NP,Has ρ [(0,(vp p1)),(5,r1.v),(6,s1.v),(7,b7.v),(8,(vi i1)),(9,(vp (some p3)))]∧Hst w0 H w H w∧HB H w [(p3,[(vi aB),(vi aO),(vi aN),(vu aM),(vs aL),(vi aK),(vi aJ)],127)]∧m_F_j5 s1 i1 aB aK aJ b7 w0 H w (fun y'0 y'1 H' w'=>I1 y'0 y'1 H' w'∧mu1 y'0 y'1 w'<mu1 b1 i1 wl1) K) ?_ ?_
 rintro ρ w ⟨b7,H,hH,hs,hb,h⟩
 unfold m_F_j5 at h
 refine vC hH ?_
 refine zA (eg (q0 (vp (some p3)) (q2 (vi aB) (xl (isAgg3 _) (hb.c0 0 gZ)) ?_)))
 refine sc call73 ((p_A aB w).mono ?_)
 rintro e w14 ⟨he,hE⟩
 refine ⟨(vi (s_A aB)),he.trans (by kernel_rfl),?_⟩
 have hs:=hs.pure hE
 have hb:=hb.pure hE
 refine q0 (vb (decide ((s_A aB)≥1))) (ln ?_)
 refine vI (fun ρ w=>∃b8:Sl,∃H:NP,Has ρ [(0,(vp p1)),(5,r1.v),(6,s1.v),(7,b8.v),(8,(vi i1)),(9,(vp (some p3)))]∧Hst w0 H w H w∧HB H w [(p3,[(vi aB),(vi aO),(vi aN),(vu aM),(vs aL),(vi aK),(vi aJ)],127)]∧m_F_j6 s1 i1 aB aJ b8 w0 H w (fun y'0 y'1 H' w'=>I1 y'0 y'1 H' w'∧mu1 y'0 y'1 w'<mu1 b1 i1 wl1) K) ?_ ?_
 rintro ρ w ⟨b8,H,hH,hs,hb,h⟩
 unfold m_F_j6 at h
 refine vC hH ?_
 refine eg (q0 (vp (some p3)) (q2 (vi aB) (xl (isAgg3 _) (hb.c0 0 gZ)) ?_))
 refine sc call73 ((p_A aB w).mono ?_)
 rintro e w15 ⟨he,hE⟩
 refine ⟨(vi (s_A aB)),he.trans (by kernel_rfl),?_⟩
 have hs:=hs.pure hE
 have hb:=hb.pure hE
 refine q0 (vb (((s_A aB):Int) == 2)) (ln ?_)
 refine zB (t:=(((s_A aB):Int) == 2)) (by kernel_rfl) (fun hc2=>?_) (fun hc2=>?_)
 have h:=h.1 hc2
 refine rg (q0 b8.v (q0 s1.v (q0 (vp (some (p3.add 6))) (q2 (vi aJ) (xl (isAgg78 _) (hb.c 0 6 gZ)) ?_))))
 obtain ⟨a7,hv2,h⟩:=h
 refine q2 (vp (some a7)) (xi (runUnderlying50 _) (sizeOf3 _) hv2) ?_
 have h:=h w15 hs
 have hs:=hs.here
 obtain ⟨v5,hv1,h⟩:=h
 refine q2 (vi v5) (xl (isAgg3 _) hv1) (q0 (vu (IntKind.u64.wrap v5)) ?_)
 refine sc call236 (h.mono ?_)
 rintro e w16 ⟨r2,rfl,hk,h⟩
 refine ⟨_,rfl,?_⟩
 obtain ⟨hs,hb⟩:=hk.hh hs hb
 refine q0 r2.v (zD (tJ (zN (rg (q0 (vi i1) (q0 (vi (q6.wrap (i1+1))) (q0 (vi (q6.wrap (i1+1))) (ln ?_))))))))
 exact ⟨(r2,(q6.wrap (i1+1)),H,w16),⟨rfl,hm,hs,hb.drop 1,h.1⟩,h.2⟩
 have h:=h.2 hc2
 refine zC (tJ (zN (rg (q0 (vi i1) (q0 (vi (q6.wrap (i1+1))) (q0 (vi (q6.wrap (i1+1))) (zD ?_)))))))
 have h:=h w15 hs
 have hs:=hs.here
 refine zN ?_
 exact ⟨(b8,(q6.wrap (i1+1)),H,w15),⟨rfl,hm,hs,hb.drop 1,h.1⟩,h.2⟩
 refine zB (t:=(decide ((s_A aB)≥1))) (by kernel_rfl) (fun hc3=>?_) (fun hc3=>?_)
 have h:=h.1 hc3
 refine rg (q0 b7.v (q0 s1.v (q0 (vp (some (p3.add 5))) (q2 (vi aK) (xl (isAgg78 _) (hb.c 0 5 gZ)) ?_))))
 obtain ⟨a8,hv4,h⟩:=h
 refine q2 (vp (some a8)) (xi (runUnderlying50 _) (sizeOf3 _) hv4) ?_
 have h:=h w14 hs
 have hs:=hs.here
 obtain ⟨v6,hv3,h⟩:=h
 refine q2 (vi v6) (xl (isAgg3 _) hv3) (q0 (vu (IntKind.u64.wrap v6)) ?_)
 refine sc call236 (h.mono ?_)
 rintro e w17 ⟨r3,rfl,hk,h⟩
 refine ⟨_,rfl,?_⟩
 obtain ⟨hs,hb⟩:=hk.hh hs hb
 refine q0 r3.v (ln ?_)
 exact ⟨r3,H,hm,hs,hb,h⟩
 have h:=h.2 hc3
 refine zC ?_
 have h:=h w14 hs
 have hs:=hs.here
 refine zN ?_
 exact ⟨b7,H,hm,hs,hb,h⟩
 refine zB (t:=(aB == 3)) (by kernel_rfl) (fun hc4=>?_) (fun hc4=>?_)
 have h:=h.1 hc4
 refine rg (q0 b6.v (q0 (vp (some (p3.add 4))) (q2 (vs aL) (xl (isAgg9 _) (hb.c 0 4 gZ)) ?_)))
 refine sc call237 (h.mono ?_)
 rintro e w18 ⟨r4,rfl,hk,h⟩
 refine ⟨_,rfl,?_⟩
 obtain ⟨hs,hb⟩:=hk.hh hs hb
 refine q0 r4.v (ln ?_)
 exact ⟨r4,H,hm,hs,hb,h⟩
 have h:=h.2 hc4
 refine zC (zN ?_)
 exact ⟨b6,H,hm,hs,hb,h⟩
 refine zB (t:=(aB == 2)) (by kernel_rfl) (fun hc5=>?_) (fun hc5=>?_)
 have h:=h.1 hc5
 refine rg (q0 b5.v (q0 (vp (some (p3.add 3))) (q2 (vu aM) (xl (isAgg23 _) (hb.c 0 3 gZ)) ?_)))
 refine sc call236 (h.mono ?_)
 rintro e w19 ⟨r5,rfl,hk,h⟩
 refine ⟨_,rfl,?_⟩
 obtain ⟨hs,hb⟩:=hk.hh hs hb
 refine q0 r5.v (ln ?_)
 exact ⟨r5,H,hm,hs,hb,h⟩
 have h:=h.2 hc5
 refine zC (zN ?_)
 exact ⟨b5,H,hm,hs,hb,h⟩
 refine zB (t:=((aB == 8) || (aB == 9))) (by kernel_rfl) (fun hc6=>?_) (fun hc6=>?_)
 have h:=h.1 hc6
 refine rg (q0 b3.v (q0 (vp (some (p3.add 2))) (q2 (vi aN) (xl (isAgg3 _) (hb.c 0 2 gZ)) (q0 (vu (IntKind.u64.wrap aN)) ?_))))
 have h:=h H4 w13 hs
 have hs:=hs.here
 refine sc call236 (h.mono ?_)
 rintro e w20 ⟨r6,rfl,hk,h⟩
 refine ⟨_,rfl,?_⟩
 obtain ⟨hs,hb⟩:=hk.hh hs hb
 refine q0 r6.v (ln ?_)
 exact ⟨r6,H4,hm,hs,hb,h⟩
 have h:=h.2 hc6
 refine zC ?_
 have h:=h H4 w13 hs
 have hs:=hs.here
 refine zN ?_
 exact ⟨b3,H4,hm,hs,hb,h⟩
 refine zB (t:=(s_C1 aB)) (by kernel_rfl) (fun hc7=>?_) (fun hc7=>?_)
 have h:=h.1 hc7
 refine rg (q0 s2.v (q0 (vp (some (p3.add 1))) (q2 (vi aO) (xl (isAgg3 _) (hb.c 0 1 gZ)) (q0 (vu (IntKind.u64.wrap aO)) ?_))))
 have h:=h w12 hs
 have hs:=hs.here
 refine sc call236 (h.mono ?_)
 rintro e w21 ⟨r7,rfl,hk,h⟩
 refine ⟨_,rfl,?_⟩
 obtain ⟨hs,hb⟩:=hk.hh hs hb
 refine q0 r7.v (ln ?_)
 exact ⟨r7,H2,hm,hs,hb,h⟩
 have h:=h.2 hc7
 refine zC ?_
 have h:=h w12 hs
 have hs:=hs.here
 refine zN ?_
 exact ⟨s2,H2,hm,hs,hb,h⟩
 have h:=h.2 hc1
 refine qE (tN (tN (tP (zN (eg (q0 b1.v (q0 b1.v (ln (er ?_)))))))))
 refine rs1 results166 (v:=b1.v) ?_
 exact ⟨b1,rfl,h⟩
def m_X2 (p1:Option Addr) (t1:Int) (w0:World) (K:Sl→Int→WP):Prop :=Calls prog 122 #[(vp p1),(vi t1)] w0 (fun e w1=>∃r1:Bool,e=.returned (vb r1)∧Br (!r1) (K Sl.nil 51 w1) (Calls prog 166 #[(vp p1),(vi t1)] w1 (fun e w2=>∃r2:Sl,e=.returned r2.v∧Br (decide ((r2.len:Int)>4096)) (K Sl.nil 1 w2) (K r2 0 w2))))
theorem w_X2 (p1:Option Addr) (t1:Int) (w0:World) (K:Sl→Int→WP) (h:m_X2 p1 t1 w0 K) :
  Calls prog 108 #[(vp p1),(vi t1)] w0 (fun e w'=>∃r3:Sl,∃r4:Int,e=.returned (.tuple #[r3.v,(vi r4)])∧K r3 r4 w'):=by
 unfold m_X2 at h
 refine cw (args:=[(vp p1),(vi t1)]) func108 ntmps108 (eg (q0 Sl.nil.v (q0 (vi 0) (ln (zA (eg (q0 (vp p1) (q0 (vi t1) ?_))))))))
 refine sc call122 (h.mono ?_)
 rintro e w1 ⟨r1,rfl,h⟩
 refine ⟨_,rfl,?_⟩
 refine q0 (vb (!r1)) (ln ?_)
 refine zB (t:=(!r1)) (by kernel_rfl) (fun hc1=>?_) (fun hc1=>?_)
 have h:=h.1 hc1
 refine eg (q0 Sl.nil.v (q0 (vi 51) (ln (er (vL (xW (.inl rfl) results108 (v:=Sl.nil.v) (by kernel_rfl) (v':=(vi 51)) (by kernel_rfl) ?_))))))
 exact ⟨Sl.nil,51,rfl,h⟩
 have h:=h.2 hc1
 refine zC (zN (eg (q0 (vp p1) (q0 (vi t1) ?_))))
 refine sc call166 (h.mono ?_)
 rintro e w2 ⟨r2,rfl,h⟩
 refine ⟨_,rfl,?_⟩
 refine q0 r2.v (ln (zA (eg (q0 r2.v (q0 (vi (r2.len:Int)) (q0 (vb (decide ((r2.len:Int)>4096))) (ln ?_)))))))
 refine zB (t:=(decide ((r2.len:Int)>4096))) (by kernel_rfl) (fun hc2=>?_) (fun hc2=>?_)
 have h:=h.1 hc2
 refine eg (q0 Sl.nil.v (q0 (vi 1) (ln (er (vL (xW (.inl rfl) results108 (v:=Sl.nil.v) (by kernel_rfl) (v':=(vi 1)) (by kernel_rfl) ?_))))))
 exact ⟨Sl.nil,1,rfl,h⟩
 have h:=h.2 hc2
 refine zC (zN (eg (q0 r2.v (q0 r2.v (q0 (vi 0) (ln (er (xW (.inl rfl) results108 (v:=r2.v) (by kernel_rfl) (v':=(vi 0)) (by kernel_rfl) ?_))))))))
 exact ⟨r2,0,rfl,h⟩
def m_Y2 (r1:Option Addr) (w0:World) (K:Int→WP):Prop :=∀(p1:Addr) (w1:World),New w0 (.cells #[(vp r1)] 228) p1 w1→∀(p2:Addr) (w2:World),New w1 (.cells #[(vu 0)] 23) p2 w2→∃v1:Option Addr,w2.cell? p1=some (vp v1)∧Calls prog 288 #[(vp v1),(.func (.func 289) #[] #[(vp (some p1)),(vp (some p2))])] w2 (fun e w3=>e=.returned (.tuple #[])∧∃v2:Int,w3.cell? p2=some (vu v2)∧CanW w3 p2∧∀w4:World,w4=w3.setCell p2 (vu v2)→∃aE:Int,w4.cell? p2=some (vu aE)∧K aE w4)
theorem w_Y2 (r1:Option Addr) (w0:World) (K:Int→WP) (h:m_Y2 r1 w0 K) :
  Calls prog 219 #[(vp r1)] w0 (fun e w'=>∃r2:Int,e=.returned (vu r2)∧K r2 w'):=by
 unfold m_Y2 at h
 refine cw (args:=[(vp r1)]) func219 ntmps219 (eg (sn (O:=(.cells #[(vp r1)] 228)) xb ?_))
 intro p1 w1 hn3
 have h:=h p1 w1 hn3
 refine sn (O:=(.cells #[(vu 0)] 23)) (zO (zeroValue23 _) rfl) ?_
 intro p2 w2 hn2
 have h:=h p2 w2 hn2
 refine ln (eg ?_)
 obtain ⟨v1,hv3,h⟩:=h
 refine q2 (vp v1) (xl (isAgg228 _) hv3) (q0 (.func (.func 289) #[] #[(vp (some p1)),(vp (some p2))]) ?_)
 refine sc call288 (h.mono ?_)
 rintro e w3 ⟨rfl,h⟩
 refine ⟨_,rfl,?_⟩
 refine ln (eg ?_)
 obtain ⟨v2,hv2,h⟩:=h
 refine q2 (vu v2) (xl (isAgg23 _) hv2) ?_
 obtain ⟨hp1,h⟩:=h
 refine ss (zT (a:=p2) (v:=(vu v2)) (by kernel_rfl) (by kernel_rfl) rfl (sizeOf23 _) hp1) ?_
 intro w4 hn1
 have h:=h w4 hn1
 refine ln (er ?_)
 obtain ⟨aE,hv1,h⟩:=h
 refine uW (.inl rfl) (vs:=[(vu aE)]) (v:=(vu aE)) results219 ⟨(RV.cell1 (A:=p2) (by kernel_rfl) (isAgg23 _) hv1),trivial⟩ (by kernel_rfl) ?_
 exact ⟨aE,rfl,h⟩
def m_Z2 (r1:Option Addr) (n1:Option Addr) (w0:World) (K:WP):Prop :=Calls prog 219 #[(vp r1)] w0 (fun e w1=>∃r2:Int,e=.returned (vu r2)∧∃a1:Addr,n1=some a1∧CanW w1 (a1.add 7)∧∀w2:World,w2=w1.setCell (a1.add 7) (vu r2)→K w2)
theorem w_Z2 (r1:Option Addr) (n1:Option Addr) (w0:World) (K:WP) (h:m_Z2 r1 n1 w0 K) :
  Calls prog 218 #[(vp r1),(vp n1)] w0 (fun e w'=>e=.returned (.tuple #[])∧K  w'):=by
 unfold m_Z2 at h
 refine cw (args:=[(vp r1),(vp n1)]) func218 ntmps218 (rg (q0 (vp n1) (q0 (vp r1) ?_)))
 refine sc call219 (h.mono ?_)
 rintro e w1 ⟨r2,rfl,h⟩
 refine ⟨_,rfl,?_⟩
 obtain ⟨a1,hp1,h⟩:=h
 refine q2 (vp (some a1)) (xn hp1) (q0 (vp (some (a1.add 7))) ?_)
 obtain ⟨hp2,h⟩:=h
 refine ss (zT (a:=(a1.add 7)) (v:=(vu r2)) (by kernel_rfl) (by kernel_rfl) rfl (sizeOf23 _) hp2) ?_
 intro w2 hn1
 have h:=h w2 hn1
 refine zD (jFP (.inr rfl) results218 ?_)
 exact ⟨rfl,h⟩
def m_A3 (r1:Option Addr) (n1:Option Addr) (w0:World) (K:WP):Prop :=Calls prog 219 #[(vp r1)] w0 (fun e w1=>∃r2:Int,e=.returned (vu r2)∧∃a1:Addr,n1=some a1∧CanW w1 (a1.add 8)∧∀w2:World,w2=w1.setCell (a1.add 8) (vu r2)→K w2)
theorem w_A3 (r1:Option Addr) (n1:Option Addr) (w0:World) (K:WP) (h:m_A3 r1 n1 w0 K) :
  Calls prog 221 #[(vp r1),(vp n1)] w0 (fun e w'=>e=.returned (.tuple #[])∧K  w'):=by
 unfold m_A3 at h
 refine cw (args:=[(vp r1),(vp n1)]) func221 ntmps221 (rg (q0 (vp n1) (q0 (vp r1) ?_)))
 refine sc call219 (h.mono ?_)
 rintro e w1 ⟨r2,rfl,h⟩
 refine ⟨_,rfl,?_⟩
 obtain ⟨a1,hp1,h⟩:=h
 refine q2 (vp (some a1)) (xn hp1) (q0 (vp (some (a1.add 8))) ?_)
 obtain ⟨hp2,h⟩:=h
 refine ss (zT (a:=(a1.add 8)) (v:=(vu r2)) (by kernel_rfl) (by kernel_rfl) rfl (sizeOf23 _) hp2) ?_
 intro w2 hn1
 have h:=h w2 hn1
 refine zD (jFP (.inr rfl) results221 ?_)
 exact ⟨rfl,h⟩
def m_B3 (r1:Option Addr) (n1:Option Addr) (w0:World) (K:WP):Prop :=Calls prog 219 #[(vp r1)] w0 (fun e w1=>∃r2:Int,e=.returned (vu r2)∧∃a1:Addr,n1=some a1∧CanW w1 (a1.add 3)∧∀w2:World,w2=w1.setCell (a1.add 3) (vu r2)→K w2)
theorem w_B3 (r1:Option Addr) (n1:Option Addr) (w0:World) (K:WP) (h:m_B3 r1 n1 w0 K) :
  Calls prog 223 #[(vp r1),(vp n1)] w0 (fun e w'=>e=.returned (.tuple #[])∧K  w'):=by
 unfold m_B3 at h
 refine cw (args:=[(vp r1),(vp n1)]) func223 ntmps223 (rg (q0 (vp n1) (q0 (vp r1) ?_)))
 refine sc call219 (h.mono ?_)
 rintro e w1 ⟨r2,rfl,h⟩
 refine ⟨_,rfl,?_⟩
 obtain ⟨a1,hp1,h⟩:=h
 refine q2 (vp (some a1)) (xn hp1) (q0 (vp (some a1)) (q0 (vp (some (a1.add 3))) ?_))
 obtain ⟨hp2,h⟩:=h
 refine ss (zT (a:=(a1.add 3)) (v:=(vu r2)) (by kernel_rfl) (by kernel_rfl) rfl (sizeOf23 _) hp2) ?_
 intro w2 hn1
 have h:=h w2 hn1
 refine zD (jFP (.inr rfl) results223 ?_)
 exact ⟨rfl,h⟩
def m_C3 (r1:Option Addr) (most1:Int) (w0:World) (K:ByteArray→WP):Prop :=∀(p1:Addr) (w1:World),New w0 (.cells #[(vp r1)] 228) p1 w1→∀(p2:Addr) (w2:World),New w1 (.cells #[(vi most1)] 3) p2 w2→∀(p3:Addr) (w3:World),New w2 (.cells #[ve] 9) p3 w3→∃v1:Option Addr,w3.cell? p1=some (vp v1)∧Calls prog 288 #[(vp v1),(.func (.func 291) #[] #[(vp (some p1)),(vp (some p2)),(vp (some p3))])] w3 (fun e w4=>e=.returned (.tuple #[])∧∃v2:ByteArray,w4.cell? p3=some (vs v2)∧CanW w4 p3∧∀w5:World,w5=w4.setCell p3 (vs v2)→∃aE:ByteArray,w5.cell? p3=some (vs aE)∧K aE w5)
theorem w_C3 (r1:Option Addr) (most1:Int) (w0:World) (K:ByteArray→WP) (h:m_C3 r1 most1 w0 K) :
  Calls prog 227 #[(vp r1),(vi most1)] w0 (fun e w'=>∃r2:ByteArray,e=.returned (vs r2)∧K r2 w'):=by
 unfold m_C3 at h
 refine cw (args:=[(vp r1),(vi most1)]) func227 ntmps227 (eg (sn (O:=(.cells #[(vp r1)] 228)) xb ?_))
 intro p1 w1 hn4
 have h:=h p1 w1 hn4
 refine sn (O:=(.cells #[(vi most1)] 3)) xb ?_
 intro p2 w2 hn3
 have h:=h p2 w2 hn3
 refine sn (O:=(.cells #[ve] 9)) (zO (zeroValue9 _) rfl) ?_
 intro p3 w3 hn2
 have h:=h p3 w3 hn2
 refine ln (eg ?_)
 obtain ⟨v1,hv3,h⟩:=h
 refine q2 (vp v1) (xl (isAgg228 _) hv3) (q0 (.func (.func 291) #[] #[(vp (some p1)),(vp (some p2)),(vp (some p3))]) ?_)
 refine sc call288 (h.mono ?_)
 rintro e w4 ⟨rfl,h⟩
 refine ⟨_,rfl,?_⟩
 refine ln (eg ?_)
 obtain ⟨v2,hv2,h⟩:=h
 refine q2 (vs v2) (xl (isAgg9 _) hv2) ?_
 obtain ⟨hp1,h⟩:=h
 refine ss (zT (a:=p3) (v:=(vs v2)) (by kernel_rfl) (by kernel_rfl) rfl (sizeOf9 _) hp1) ?_
 intro w5 hn1
 have h:=h w5 hn1
 refine ln (er ?_)
 obtain ⟨aE,hv1,h⟩:=h
 refine uW (.inl rfl) (vs:=[(vs aE)]) (v:=(vs aE)) results227 ⟨(RV.cell1 (A:=p3) (by kernel_rfl) (isAgg9 _) hv1),trivial⟩ (by kernel_rfl) ?_
 exact ⟨aE,rfl,h⟩
def m_D3 (r1:Option Addr) (n1:Option Addr) (w0:World) (K:WP):Prop :=Calls prog 227 #[(vp r1),(vi 64)] w0 (fun e w1=>∃r2:ByteArray,e=.returned (vs r2)∧∃a1:Addr,n1=some a1∧CanW w1 (a1.add 4)∧∀w2:World,w2=w1.setCell (a1.add 4) (vs r2)→K w2)
theorem w_D3 (r1:Option Addr) (n1:Option Addr) (w0:World) (K:WP) (h:m_D3 r1 n1 w0 K) :
  Calls prog 226 #[(vp r1),(vp n1)] w0 (fun e w'=>e=.returned (.tuple #[])∧K  w'):=by
 unfold m_D3 at h
 refine cw (args:=[(vp r1),(vp n1)]) func226 ntmps226 (rg (q0 (vp n1) (q0 (vp r1) ?_)))
 refine sc call227 (h.mono ?_)
 rintro e w1 ⟨r2,rfl,h⟩
 refine ⟨_,rfl,?_⟩
 obtain ⟨a1,hp1,h⟩:=h
 refine q2 (vp (some a1)) (xn hp1) (q0 (vp (some a1)) (q0 (vp (some (a1.add 4))) ?_))
 obtain ⟨hp2,h⟩:=h
 refine ss (zT (a:=(a1.add 4)) (v:=(vs r2)) (by kernel_rfl) (by kernel_rfl) rfl (sizeOf9 _) hp2) ?_
 intro w2 hn1
 have h:=h w2 hn1
 refine zD (jFP (.inr rfl) results226 ?_)
 exact ⟨rfl,h⟩
def m_E3 (r1:Option Addr) (n1:Option Addr) (w0:World) (K:WP):Prop :=Calls prog 219 #[(vp r1)] w0 (fun e w1=>∃r2:Int,e=.returned (vu r2)∧∃a1:Addr,n1=some a1∧CanW w1 (a1.add 9)∧∀w2:World,w2=w1.setCell (a1.add 9) (vu r2)→∃a2:Addr,n1=some a2∧CanW w2 (a2.add 11)∧∀w3:World,w3=w2.setCell (a2.add 11) (vi 1)→K w3)
theorem w_E3 (r1:Option Addr) (n1:Option Addr) (w0:World) (K:WP) (h:m_E3 r1 n1 w0 K) :
  Calls prog 229 #[(vp r1),(vp n1)] w0 (fun e w'=>e=.returned (.tuple #[])∧K  w'):=by
 unfold m_E3 at h
 refine cw (args:=[(vp r1),(vp n1)]) func229 ntmps229 (rg (q0 (vp n1) (q0 (vp n1) (q0 (vp r1) ?_))))
 refine sc call219 (h.mono ?_)
 rintro e w1 ⟨r2,rfl,h⟩
 refine ⟨_,rfl,?_⟩
 obtain ⟨a1,hp1,h⟩:=h
 refine q2 (vp (some a1)) (xn hp1) (q0 (vp (some (a1.add 9))) ?_)
 obtain ⟨hp2,h⟩:=h
 refine ss (zT (a:=(a1.add 9)) (v:=(vu r2)) (by kernel_rfl) (by kernel_rfl) rfl (sizeOf23 _) hp2) ?_
 intro w2 hn1
 have h:=h w2 hn1
 obtain ⟨a2,hp3,h⟩:=h
 refine q2 (vp (some a2)) (xn hp3) (q0 (vp (some (a2.add 11))) ?_)
 obtain ⟨hp4,h⟩:=h
 refine ss (zT (a:=(a2.add 11)) (v:=(vi 1)) (by kernel_rfl) (by kernel_rfl) rfl (sizeOf3 _) hp4) ?_
 intro w3 hn2
 have h:=h w3 hn2
 refine zD (jFP (.inr rfl) results229 ?_)
 exact ⟨rfl,h⟩
def m_F3 (r1:Option Addr) (n1:Option Addr) (w0:World) (K:WP):Prop :=Calls prog 219 #[(vp r1)] w0 (fun e w1=>∃r2:Int,e=.returned (vu r2)∧∃a1:Addr,n1=some a1∧CanW w1 (a1.add 10)∧∀w2:World,w2=w1.setCell (a1.add 10) (vu r2)→∃a2:Addr,n1=some a2∧CanW w2 (a2.add 11)∧∀w3:World,w3=w2.setCell (a2.add 11) (vi 2)→K w3)
theorem w_F3 (r1:Option Addr) (n1:Option Addr) (w0:World) (K:WP) (h:m_F3 r1 n1 w0 K) :
  Calls prog 231 #[(vp r1),(vp n1)] w0 (fun e w'=>e=.returned (.tuple #[])∧K  w'):=by
 unfold m_F3 at h
 refine cw (args:=[(vp r1),(vp n1)]) func231 ntmps231 (rg (q0 (vp n1) (q0 (vp n1) (q0 (vp r1) ?_))))
 refine sc call219 (h.mono ?_)
 rintro e w1 ⟨r2,rfl,h⟩
 refine ⟨_,rfl,?_⟩
 obtain ⟨a1,hp1,h⟩:=h
 refine q2 (vp (some a1)) (xn hp1) (q0 (vp (some (a1.add 10))) ?_)
 obtain ⟨hp2,h⟩:=h
 refine ss (zT (a:=(a1.add 10)) (v:=(vu r2)) (by kernel_rfl) (by kernel_rfl) rfl (sizeOf23 _) hp2) ?_
 intro w2 hn1
 have h:=h w2 hn1
 obtain ⟨a2,hp3,h⟩:=h
 refine q2 (vp (some a2)) (xn hp3) (q0 (vp (some (a2.add 11))) ?_)
 obtain ⟨hp4,h⟩:=h
 refine ss (zT (a:=(a2.add 11)) (v:=(vi 2)) (by kernel_rfl) (by kernel_rfl) rfl (sizeOf3 _) hp4) ?_
 intro w3 hn2
 have h:=h w3 hn2
 refine zD (jFP (.inr rfl) results231 ?_)
 exact ⟨rfl,h⟩
def m_F1_j1 (r1:Option Addr) (w0:World) (H:NP) (w:World) (K:Option (List PanicEntry)→Int→WP):Prop :=∃a3:Addr,r1=some a3∧∃v3:Int,w.cell? (a3.add 1)=some (vi v3)∧∃a4:Addr,r1=some a4∧CanW w (a4.add 1)∧¬ H (a4.add 1).block∧∀w2:World,w2=w.setCell (a4.add 1) (vi (q6.wrap (v3+1)))→∃a5:Addr,r1=some a5∧∀(w3:World),Hst w0 H w2 H w3→∃v4:Sl,w3.cell? a5=some v4.v∧∃a6:Addr,r1=some a6∧∃v5:Int,w3.cell? (a6.add 1)=some (vi v5)∧∃a7:Addr,At v4 (q6.wrap (v5 - 1)) 1 a7∧∃v6:Int,w3.cell? a7=some (.int .u8 v6)∧K none v6 w3
def m_F1 (r1:Option Addr) (w0:World) (K:Option (List PanicEntry)→Int→WP):Prop :=∃a1:Addr,r1=some a1∧∀(w1:World),Hst w0 None w0 None w1→∃v1:Int,w1.cell? (a1.add 1)=some (vi v1)∧∃a2:Addr,r1=some a2∧∃v2:Sl,w1.cell? a2=some v2.v∧Br (v1 == (v2.len:Int)) (K (some [{ v:=(.iface 335 (vi 3)),recovered:=false }]) 0 w1) (m_F1_j1 r1 w0 None w1 K)
theorem w_F1 (r1:Option Addr) (w0:World) (K:Option (List PanicEntry)→Int→WP) (h:m_F1 r1 w0 K) :
  Calls prog 293 #[(vp r1)] w0 (fun e w'=>(∃r2:Int,e=.returned (.int .u8 r2)∧K none r2 w')∨∃ch,e=.panicked ch∧K (some ch) 0 w'):=by
 unfold m_F1 at h
 refine uE (args:=[(vp r1)]) func293 rfl ntmps293 (Nat.le_of_ble_eq_true rfl) ?_
 have hs:=Hst.start w0
 have hb:=HB.nil None w0
 refine eg (q0 (.int .u8 0) (ln (zA (zA (qO (by kernel_rfl) (by kernel_rfl) (by kernel_rfl) (by kernel_rfl) ?_)))))
 intro w1 hw1
 have hs:Hst w0 None w0 None w1:=by rw [hw1];exact hs.drew
 have hb:HB None w1 []:=by rw [hw1];exact hb.drew
 refine qq 0 (vp r1) Kp0 (qg 1 ?_)
 obtain ⟨a1,hp1,h⟩:=h
 refine sxQ (v:=(vp (some a1))) Kp1 (zJ rfl) rfl (xn hp1) (qq 2 (vp (some (a1.add 1))) Kp2 (qg 3 ?_))
 have h:=h w1 hs
 have hs:=hs.here
 obtain ⟨v1,hv7,h⟩:=h
 refine sxQ (v:=(vi v1)) Kp3 (zJ rfl) rfl (xl (isAgg3 _) hv7) (qq 4 (vp r1) Kp4 (qg 5 ?_))
 obtain ⟨a2,hp2,h⟩:=h
 refine sxQ (v:=(vp (some a2))) Kp5 (zJ rfl) rfl (xn hp2) (qq 6 (vp (some a2)) Kp6 (qg 7 ?_))
 obtain ⟨v2,hv6,h⟩:=h
 refine sxQ (v:=v2.v) Kp7 (zJ rfl) rfl (xl (isAgg65 _) hv6) (qq 8 (vi (v2.len:Int)) Kp8 (qq 9 (vb (v1 == (v2.len:Int))) Kp9 (wn (zN ?_))))
 refine vI (fun ρ w=>∃H:NP,Has ρ [(0,(vp r1))]∧Hst w0 H w H w∧HB H w []∧m_F1_j1 r1 w0 H w K) ?_ ?_
 rintro ρ w ⟨H,hH,hs,hb,h⟩
 unfold m_F1_j1 at h
 refine vC hH ?_
 refine eg (q0 (vp r1) ?_)
 obtain ⟨a3,hp3,h⟩:=h
 refine q2 (vp (some a3)) (xn hp3) (q0 (vp (some (a3.add 1))) ?_)
 obtain ⟨v3,hv5,h⟩:=h
 refine q2 (vi v3) (xl (isAgg3 _) hv5) (q0 (vi (q6.wrap (v3+1))) ?_)
 obtain ⟨a4,hp4,h⟩:=h
 refine q2 (vp (some a4)) (xn hp4) (q0 (vp (some (a4.add 1))) ?_)
 obtain ⟨hp5,hnh,h⟩:=h
 refine ss (zT (a:=(a4.add 1)) (v:=(vi (q6.wrap (v3+1)))) (by kernel_rfl) (by kernel_rfl) rfl (sizeOf3 _) hp5) ?_
 intro w2 hn1
 have h:=h w2 hn1
 have hk:=Kept.sc hnh hn1
 obtain ⟨hs,hb⟩:=hk.hh hs hb
 refine ln (zA (qO (by kernel_rfl) (by kernel_rfl) (by kernel_rfl) (by kernel_rfl) ?_))
 intro w3 hw3
 have hs:Hst w0 H w2 H w3:=by rw [hw3];exact hs.drew
 have hb:HB H w3 []:=by rw [hw3];exact hb.drew
 refine qq 0 (vp r1) Kp0 (qg 1 ?_)
 obtain ⟨a5,hp6,h⟩:=h
 refine sxQ (v:=(vp (some a5))) Kp1 (zJ rfl) rfl (xn hp6) (qq 2 (vp (some a5)) Kp2 (qg 3 ?_))
 have h:=h w3 hs
 have hs:=hs.here
 obtain ⟨v4,hv4,h⟩:=h
 refine sxQ (v:=v4.v) Kp3 (zJ rfl) rfl (xl (isAgg65 _) hv4) (qq 4 (vp r1) Kp4 (qg 5 ?_))
 obtain ⟨a6,hp7,h⟩:=h
 refine sxQ (v:=(vp (some a6))) Kp5 (zJ rfl) rfl (xn hp7) (qq 6 (vp (some (a6.add 1))) Kp6 (qg 7 ?_))
 obtain ⟨v5,hv3,h⟩:=h
 refine sxQ (v:=(vi v5)) Kp7 (zJ rfl) rfl (xl (isAgg3 _) hv3) (qq 8 (vi (q6.wrap (v5 - 1))) Kp8 (qg 9 ?_))
 obtain ⟨a7,hv2,h⟩:=h
 refine sxQ (v:=(vp (some a7))) Kp9 (zJ rfl) rfl (xi (runUnderlying65 _) (sizeOf5 _) hv2) (qg 10 ?_)
 obtain ⟨v6,hv1,h⟩:=h
 refine sxQ (v:=(.int .u8 v6)) (zS (S8 (zG (zG zR)))) (zJ rfl) rfl (xl (isAgg5 _) hv1) (qq 11 (.int .u8 v6) (zS (S8 (zG (zG (zG zR))))) (wn (zN (er (ep (rs1 results293 (v:=(.int .u8 v6)) ?_))))))
 exact .inl ⟨v6,rfl,h⟩
 refine zB (t:=(v1 == (v2.len:Int))) (by kernel_rfl) (fun hc1=>?_) (fun hc1=>?_)
 have h:=h.1 hc1
 refine qM (by kernel_rfl) (qF 1 (q0 (.iface 335 (vi 3)) (zD ?_)))
 refine jBR (zJ rfl) (by intro c hc;cases hc) (jED (by kernel_rfl)) (fun ρ'=>.inr ⟨_,rfl,h⟩)
 have h:=h.2 hc1
 refine zC (zN ?_)
 exact ⟨None,hm,hs,hb,h⟩
def m_W_j2 (n1 i1 r2:Int) (w:World) (Kc1:Int→Int→WP) (K:Option (List PanicEntry)→Int→WP):Prop :=∃z1:Int,(Go.binOp .and 5 (.int .u8 r2) (.int .u8 127)).run prog w=.ok (.int .u8 z1) w∧∃z2:Int,(Go.binOp .shl 23 (vu (IntKind.u64.wrap z1)) (vi (q6.wrap (7*i1)))).run prog w=.ok (vu z2) w∧∃z3:Int,(Go.binOp .or 23 (vu n1) (vu z2)).run prog w=.ok (vu z3) w∧Br (decide (r2<128)) (Br ((r2 == 0) && (decide (i1>0))) (K (some [{ v:=(.iface 335 (vi 10)),recovered:=false }]) 0 w) (K none z3 w)) (Kc1 z3 (q6.wrap (i1+1)) w)
def m_W_l1 (r1:Option Addr) (n1 i1:Int) (wl1:World) (Kc1:Int→Int→WP) (K:Option (List PanicEntry)→Int→WP):Prop :=Calls prog 293 #[(vp r1)] wl1 (fun e w1=>(∃r2:Int,e=.returned (.int .u8 r2)∧Br ((i1 == 9) && (decide (r2>1))) (K (some [{ v:=(.iface 335 (vi 11)),recovered:=false }]) 0 w1) (m_W_j2 n1 i1 r2 w1 Kc1 K))∨∃ch,e=.panicked ch∧K (some ch) 0 w1)
def m_W (r1:Option Addr) (w0:World) (K:Option (List PanicEntry)→Int→WP):Prop :=∃(I1:Int→Int→WP) (mu1:Int→Int→World→Nat),I1 0 0 w0∧∀(n1 i1:Int) (wl1:World),I1 n1 i1 wl1→m_W_l1 r1 n1 i1 wl1 (fun y'0 y'1 w'=>I1 y'0 y'1 w'∧mu1 y'0 y'1 w'<mu1 n1 i1 wl1) K
theorem w_W (r1:Option Addr) (w0:World) (K:Option (List PanicEntry)→Int→WP) (h:m_W r1 w0 K) :
  Calls prog 290 #[(vp r1)] w0 (fun e w'=>(∃r3:Int,e=.returned (vu r3)∧K none r3 w')∨∃ch,e=.panicked ch∧K (some ch) 0 w'):=by
 unfold m_W at h
 refine uE (args:=[(vp r1)]) func290 rfl ntmps290 (Nat.le_of_ble_eq_true rfl) (eg (q0 (vu 0) (ln (eg (q0 (vu 0) (ln (zA ?_)))))))
 refine rg (q0 (vi 0) (ln (zQ ?_)))
 obtain ⟨I1,mu1,h0,hr⟩:=h
 refine qI (σ:=Int×Int×World) (fun s ρ w=>w=s.2.2∧Has ρ [(0,(vp r1)),(3,(vu s.1)),(4,(vi s.2.1))]∧I1 s.1 s.2.1 s.2.2) (fun s=>mu1 s.1 s.2.1 s.2.2) (0,0,w0) ⟨rfl,hm,h0⟩ ?_
 rintro ⟨n1,i1,wl1⟩ ρ w ⟨hw,hH,hI⟩
 obtain rfl:wl1=w:=(show w=wl1 from hw).symm
 have hH:Has ρ [(0,(vp r1)),(3,(vu n1)),(4,(vi i1))]:=hH
 have h:=hr n1 i1 wl1 hI
 unfold m_W_l1 at h
 refine vC hH ?_
 refine zA (zQ (zA (qM (by kernel_rfl) (qF 1 (q0 (vp r1) (zD ?_))))))
 refine jEN (zJ rfl) (by intro c hc;cases hc) (xc call293) (h.mono ?_)
 rintro e w1 (⟨r2,rfl,h⟩ | ⟨ch,rfl,h⟩)
 rotate_left
 exact .inr ⟨ch,rfl,fun ρ'=>.inr ⟨ch,rfl,h⟩⟩
 refine .inl ⟨_,rfl,?_⟩
 refine jBJ (q0 (.int .u8 r2) (ln (zA (zA ?_))))
 refine vO (fun ρ wJ=>∃b1'0:Bool,((i1 == 9)=b1'0)∧w1=wJ∧Has ρ [(0,(vp r1)),(3,(vu n1)),(4,(vi i1)),(5,(.int .u8 r2)),(15,(vb (b1'0 && (decide (r2>1)))))]) ?_ ?_
 refine rg (q0 (vi i1) (q0 (vb (i1 == 9)) (q0 (vb (i1 == 9)) ?_)))
 rcases bte (i1 == 9) with hg2 | hg2
 refine q1 (.int .u8 r2) (wy 12 hg2) (q1 (vb (decide (r2>1))) (wy 12 hg2) (q2 (vb (decide (r2>1))) (xT hg2) (ln ?_)))
 exact ⟨true,hg2,rfl,hm⟩
 refine sk (yD 12 hg2) (sk (yD 12 hg2) (q2 (vb false) (xF hg2) (ln ?_)))
 exact ⟨false,hg2,rfl,hm⟩
 rintro ρ w2 ⟨b1'0,he0,hw,hH⟩
 subst he0
 subst hw
 refine vH hH ?_
 refine zN ?_
 refine vI (fun ρ w=>Has ρ [(0,(vp r1)),(3,(vu n1)),(4,(vi i1)),(5,(.int .u8 r2))]∧m_W_j2 n1 i1 r2 w (fun y'0 y'1 w'=>I1 y'0 y'1 w'∧mu1 y'0 y'1 w'<mu1 n1 i1 wl1) K) ?_ ?_
 rintro ρ w ⟨hH,h⟩
 unfold m_W_j2 at h
 refine vC hH ?_
 refine eg (q0 (vu n1) (q0 (.int .u8 r2) ?_))
 obtain ⟨z1,hv3,h⟩:=h
 refine q2 (.int .u8 z1) (jKW (by kernel_rfl) (by kernel_rfl) (by kernel_rfl) hv3) (q0 (vu (IntKind.u64.wrap z1)) (q0 (vi i1) (q0 (vi (q6.wrap (7*i1))) ?_)))
 obtain ⟨z2,hv2,h⟩:=h
 refine q2 (vu z2) (jKW (by kernel_rfl) (by kernel_rfl) (by kernel_rfl) hv2) ?_
 obtain ⟨z3,hv1,h⟩:=h
 refine q2 (vu z3) (jKW (by kernel_rfl) (by kernel_rfl) (by kernel_rfl) hv1) (q0 (vu z3) (ln (eg (q0 (.int .u8 r2) (q0 (vb (decide (r2<128))) (ln ?_))))))
 refine zB (t:=(decide (r2<128))) (by kernel_rfl) (fun hc1=>?_) (fun hc1=>?_)
 have h:=h.1 hc1
 refine zA (zA ?_)
 refine vO (fun ρ wJ=>∃b2'0:Bool,((r2 == 0)=b2'0)∧w=wJ∧Has ρ [(3,(vu z3)),(32,(vb (b2'0 && (decide (i1>0)))))]) ?_ ?_
 refine rg (q0 (.int .u8 r2) (q0 (vb (r2 == 0)) (q0 (vb (r2 == 0)) ?_)))
 rcases bte (r2 == 0) with hg4 | hg4
 refine q1 (vi i1) (wy 29 hg4) (q1 (vb (decide (i1>0))) (wy 29 hg4) (q2 (vb (decide (i1>0))) (xT hg4) (ln ?_)))
 exact ⟨true,hg4,rfl,hm⟩
 refine sk (yD 29 hg4) (sk (yD 29 hg4) (q2 (vb false) (xF hg4) (ln ?_)))
 exact ⟨false,hg4,rfl,hm⟩
 rintro ρ w3 ⟨b2'0,he0,hw,hH⟩
 subst he0
 subst hw
 refine vH hH ?_
 refine zN ?_
 refine zB (t:=((r2 == 0) && (decide (i1>0)))) (by kernel_rfl) (fun hc2=>?_) (fun hc2=>?_)
 have h:=h.1 hc2
 refine qM (by kernel_rfl) (qF 1 (q0 (.iface 335 (vi 10)) (zD ?_)))
 refine jBR (zJ rfl) (by intro c hc;cases hc) (jED (by kernel_rfl)) (fun ρ'=>.inr ⟨_,rfl,h⟩)
 have h:=h.2 hc2
 refine zC (zN (eg (q0 (vu z3) (q0 (vu z3) (ln (er (uK (vL (vL ?_)))))))))
 refine uK (ep (rs1 results290 (v:=(vu z3)) ?_))
 exact .inl ⟨z3,rfl,h⟩
 have h:=h.2 hc1
 refine zC (tJ (zN (rg (q0 (vi i1) (q0 (vi (q6.wrap (i1+1))) (q0 (vi (q6.wrap (i1+1))) (ln ?_)))))))
 exact ⟨(z3,(q6.wrap (i1+1)),w),⟨rfl,hm,h.1⟩,h.2⟩
 refine zB (t:=((i1 == 9) && (decide (r2>1)))) (by kernel_rfl) (fun hc3=>?_) (fun hc3=>?_)
 have h:=h.1 hc3
 refine qM (by kernel_rfl) (qF 1 (q0 (.iface 335 (vi 11)) (zD ?_)))
 refine jBR (zJ rfl) (by intro c hc;cases hc) (jED (by kernel_rfl)) (fun ρ'=>.inr ⟨_,rfl,h⟩)
 have h:=h.2 hc3
 refine zC (zN ?_)
 exact ⟨hm,h⟩
def m_G3 (cap1 cap2:Addr) (w0:World) (K:Option (List PanicEntry)→WP):Prop :=∃v1:Option Addr,w0.cell? cap1=some (vp v1)∧Calls prog 290 #[(vp v1)] w0 (fun e w1=>(∃r1:Int,e=.returned (vu r1)∧CanW w1 cap2∧∀w2:World,w2=w1.setCell cap2 (vu r1)→K none w2)∨∃ch,e=.panicked ch∧K (some ch)  w1)
theorem w_G3 (cap1 cap2:Addr) (w0:World) (K:Option (List PanicEntry)→WP) (h:m_G3 cap1 cap2 w0 K) :
  Calls prog 289 #[(vp (some cap1)),(vp (some cap2))] w0 (fun e w'=>(e=.returned (.tuple #[])∧K none  w')∨∃ch,e=.panicked ch∧K (some ch)  w'):=by
 unfold m_G3 at h
 refine uE (args:=[(vp (some cap1)),(vp (some cap2))]) func289 rfl ntmps289 (Nat.le_of_ble_eq_true rfl) (qM (by kernel_rfl) (qF 1 ?_))
 obtain ⟨v1,hv1,h⟩:=h
 refine q2 (vp v1) (xl (isAgg228 _) hv1) (zD ?_)
 refine jEN (zJ rfl) (by intro c hc;cases hc) (xc call290) (h.mono ?_)
 rintro e w1 (⟨r1,rfl,h⟩ | ⟨ch,rfl,h⟩)
 rotate_left
 exact .inr ⟨ch,rfl,fun ρ'=>.inr ⟨ch,rfl,h⟩⟩
 refine .inl ⟨_,rfl,?_⟩
 refine jBJ ?_
 obtain ⟨hp1,h⟩:=h
 refine ss (zT (a:=cap2) (v:=(vu r1)) (by kernel_rfl) (by kernel_rfl) rfl (sizeOf23 _) hp1) ?_
 intro w2 hn1
 have h:=h w2 hn1
 refine zD (ep (jFP (.inr rfl) results289 ?_))
 exact .inl ⟨rfl,h⟩
def m_P_j3 (cap1 cap3:Addr) (r1:Int) (H:NP) (w:World) (K:Option (List PanicEntry)→WP):Prop :=∃C1:WP,C1 w.drew∧∀w3,w3=w.drew→∃v6:Option Addr,w3.cell? cap1=some (vp v6)∧∃a3:Addr,v6=some a3∧∃v7:Sl,w3.cell? a3=some v7.v∧∃v8:Option Addr,w3.cell? cap1=some (vp v8)∧∃a4:Addr,v8=some a4∧∃v9:Int,w3.cell? (a4.add 1)=some (vi v9)∧∃v10:Option Addr,w3.cell? cap1=some (vp v10)∧∃a5:Addr,v10=some a5∧∃v11:Int,w3.cell? (a5.add 1)=some (vi v11)∧∃s1:Sl,(Instr.sliceAt 65 v7.v (some (vi v9)) (some (vi (q6.wrap (v11+(q6.wrap r1))))) none).run prog w3=.ok s1.v w3∧∃c1:ByteArray,(convert 65 9 s1.v).run prog w3=.ok (vs c1) w3∧CanW w3 cap3∧¬ H cap3.block∧∀w4:World,w4=w3.setCell cap3 (vs c1)→∃v12:Option Addr,w4.cell? cap1=some (vp v12)∧∃a6:Addr,v12=some a6∧∃v13:Int,w4.cell? (a6.add 1)=some (vi v13)∧∃a7:Addr,v12=some a7∧CanW w4 (a7.add 1)∧¬ H (a7.add 1).block∧∀w5:World,w5=w4.setCell (a7.add 1) (vi (q6.wrap (v13+(q6.wrap r1))))→K none w5
def m_P_j2 (cap1 cap3:Addr) (r1:Int) (w0:World) (H:NP) (w:World) (K:Option (List PanicEntry)→WP):Prop :=∀(w2:World),Hst w0 H w H w2→∃v2:Option Addr,w2.cell? cap1=some (vp v2)∧∃a1:Addr,v2=some a1∧∃v3:Sl,w2.cell? a1=some v3.v∧∃v4:Option Addr,w2.cell? cap1=some (vp v4)∧∃a2:Addr,v4=some a2∧∃v5:Int,w2.cell? (a2.add 1)=some (vi v5)∧Br (decide (r1>(IntKind.u64.wrap (q6.wrap ((v3.len:Int) - v5))))) (K (some [{ v:=(.iface 335 (vi 3)),recovered:=false }])  w2) (m_P_j3 cap1 cap3 r1 H w2 K)
def m_P_j1 (cap1 cap3:Addr) (r1:Int) (x1:Bool) (w0:World) (H:NP) (w:World) (K:Option (List PanicEntry)→WP):Prop :=Br x1 (K (some [{ v:=(.iface 335 (vi 1)),recovered:=false }])  w) (m_P_j2 cap1 cap3 r1 w0 H w K)
def m_P (cap1 cap2 cap3:Addr) (w0:World) (K:Option (List PanicEntry)→WP):Prop :=∃v1:Option Addr,w0.cell? cap1=some (vp v1)∧Calls prog 290 #[(vp v1)] w0 (fun e w1=>(∃r1:Int,e=.returned (vu r1)∧Kept None w0 w1∧∃v14:Int,w1.cell? cap2=some (vi v14)∧Br (decide (v14<0)) (m_P_j1 cap1 cap3 r1 true w0 None w1 K) (∃v15:Int,w1.cell? cap2=some (vi v15)∧m_P_j1 cap1 cap3 r1 (decide (r1>(IntKind.u64.wrap v15))) w0 None w1 K))∨∃ch,e=.panicked ch∧K (some ch)  w1)
theorem w_P (cap1 cap2 cap3:Addr) (w0:World) (K:Option (List PanicEntry)→WP) (h:m_P cap1 cap2 cap3 w0 K) :
  Calls prog 291 #[(vp (some cap1)),(vp (some cap2)),(vp (some cap3))] w0 (fun e w'=>(e=.returned (.tuple #[])∧K none  w')∨∃ch,e=.panicked ch∧K (some ch)  w'):=by
 unfold m_P at h
 refine uE (args:=[(vp (some cap1)),(vp (some cap2)),(vp (some cap3))]) func291 rfl ntmps291 (Nat.le_of_ble_eq_true rfl) ?_
 have hs:=Hst.start w0
 have hb:=HB.nil None w0
 refine zA (qM (by kernel_rfl) (qF 1 ?_))
 obtain ⟨v1,hv17,h⟩:=h
 refine q2 (vp v1) (xl (isAgg228 _) hv17) (zD ?_)
 refine jEN (zJ rfl) (by intro c hc;cases hc) (xc call290) (h.mono ?_)
 rintro e w1 (⟨r1,rfl,hk,h⟩ | ⟨ch,rfl,h⟩)
 rotate_left
 exact .inr ⟨ch,rfl,fun ρ'=>.inr ⟨ch,rfl,h⟩⟩
 refine .inl ⟨_,rfl,?_⟩
 obtain ⟨hs,hb⟩:=hk.hh hs hb
 refine jBJ (q0 (vu r1) (ln (zA (zA ?_))))
 refine vI (fun ρ w=>∃x1:Bool,∃H:NP,Has ρ [(0,(vp (some cap1))),(2,(vp (some cap3))),(3,(vu r1)),(13,(vb x1))]∧Hst w0 H w H w∧HB H w []∧m_P_j1 cap1 cap3 r1 x1 w0 H w K) ?_ ?_
 rintro ρ w ⟨x1,H,hH,hs,hb,h⟩
 unfold m_P_j1 at h
 refine vC hH ?_
 refine vI (fun ρ w=>∃H:NP,Has ρ [(0,(vp (some cap1))),(2,(vp (some cap3))),(3,(vu r1))]∧Hst w0 H w H w∧HB H w []∧m_P_j2 cap1 cap3 r1 w0 H w K) ?_ ?_
 rintro ρ w ⟨H,hH,hs,hb,h⟩
 unfold m_P_j2 at h
 refine vC hH ?_
 refine zA (zA (qO (by kernel_rfl) (by kernel_rfl) (by kernel_rfl) (by kernel_rfl) ?_))
 intro w2 hw2
 have hs:Hst w0 H w H w2:=by rw [hw2];exact hs.drew
 have hb:HB H w2 []:=by rw [hw2];exact hb.drew
 refine qq 0 (vu r1) Kp0 (qg 1 ?_)
 have h:=h w2 hs
 have hs:=hs.here
 obtain ⟨v2,hv14,h⟩:=h
 refine sxQ (v:=(vp v2)) Kp1 (zJ rfl) rfl (xl (isAgg228 _) hv14) (qg 2 ?_)
 obtain ⟨a1,hp1,h⟩:=h
 refine sxQ (v:=(vp (some a1))) Kp2 (zJ rfl) rfl (xn hp1) (qq 3 (vp (some a1)) Kp3 (qg 4 ?_))
 obtain ⟨v3,hv13,h⟩:=h
 refine sxQ (v:=v3.v) Kp4 (zJ rfl) rfl (xl (isAgg65 _) hv13) (qq 5 (vi (v3.len:Int)) Kp5 (qg 6 ?_))
 obtain ⟨v4,hv12,h⟩:=h
 refine sxQ (v:=(vp v4)) Kp6 (zJ rfl) rfl (xl (isAgg228 _) hv12) (qg 7 ?_)
 obtain ⟨a2,hp2,h⟩:=h
 refine sxQ (v:=(vp (some a2))) Kp7 (zJ rfl) rfl (xn hp2) (qq 8 (vp (some (a2.add 1))) Kp8 (qg 9 ?_))
 obtain ⟨v5,hv11,h⟩:=h
 refine sxQ (v:=(vi v5)) Kp9 (zJ rfl) rfl (xl (isAgg3 _) hv11) (qq 10 (vi (q6.wrap ((v3.len:Int) - v5))) (zS (S8 (zG (zG zR)))) (qq 11 (vu (IntKind.u64.wrap (q6.wrap ((v3.len:Int) - v5)))) (zS (S8 (zG (zG (zG zR))))) (qq 12 (vb (decide (r1>(IntKind.u64.wrap (q6.wrap ((v3.len:Int) - v5)))))) (zS (S8 (S4 zR))) (wn (zN ?_)))))
 refine vI (fun ρ w=>∃H:NP,Has ρ [(0,(vp (some cap1))),(2,(vp (some cap3))),(3,(vu r1))]∧Hst w0 H w H w∧HB H w []∧m_P_j3 cap1 cap3 r1 H w K) ?_ ?_
 rintro ρ w ⟨H,hH,hs,hb,h⟩
 unfold m_P_j3 at h
 refine vC hH ?_
 refine zA ?_
 obtain ⟨C1,hC,h⟩:=h
 refine vB C1 [17] [17] (by kernel_rfl) (by kernel_rfl) (by kernel_rfl) (by kernel_rfl) hC ?_
 intro w3 hw3
 have h:=h w3 hw3
 have hs:Hst w0 H w H w3:=by rw [hw3];exact hs.drew
 have hb:HB H w3 []:=by rw [hw3];exact hb.drew
 have hs:=hs.here
 refine qg 0 ?_
 obtain ⟨v6,hv10,h⟩:=h
 refine sye Kp0 (xl (isAgg228 _) hv10) (qg 1 ?_)
 obtain ⟨a3,hp3,h⟩:=h
 refine sy (v:=(vp (some a3))) Kp1 (fun _ _=>(xn hp3)) (qx 2 (vp (some a3)) Kp2 (qg 3 ?_))
 obtain ⟨v7,hv9,h⟩:=h
 refine sye Kp3 (xl (isAgg65 _) hv9) (qg 4 ?_)
 obtain ⟨v8,hv8,h⟩:=h
 refine sye Kp4 (xl (isAgg228 _) hv8) (qg 5 ?_)
 obtain ⟨a4,hp4,h⟩:=h
 refine sy (v:=(vp (some a4))) Kp5 (fun _ _=>(xn hp4)) (qx 6 (vp (some (a4.add 1))) Kp6 (qg 7 ?_))
 obtain ⟨v9,hv7,h⟩:=h
 refine sye Kp7 (xl (isAgg3 _) hv7) (qg 8 ?_)
 obtain ⟨v10,hv6,h⟩:=h
 refine sye Kp8 (xl (isAgg228 _) hv6) (qg 9 ?_)
 obtain ⟨a5,hp5,h⟩:=h
 refine sy (v:=(vp (some a5))) Kp9 (fun _ _=>(xn hp5)) (qx 10 (vp (some (a5.add 1))) (zS (S8 (zG (zG zR)))) (qg 11 ?_))
 obtain ⟨v11,hv5,h⟩:=h
 refine sye (zS (S8 (zG (zG (zG zR))))) (xl (isAgg3 _) hv5) (qx 12 (vu r1) (zS (S8 (S4 zR))) (qx 13 (vi (q6.wrap r1)) (zS (S8 (S4 (zG zR)))) (qx 14 (vi (q6.wrap (v11+(q6.wrap r1)))) (zS (S8 (S4 (zG (zG zR))))) (qg 15 ?_))))
 obtain ⟨s1,hv4,h⟩:=h
 refine sye (v:=s1.v) (zS (S8 (S4 (zG (zG (zG zR)))))) (tQ (by kernel_rfl) (by kernel_rfl) (by kernel_rfl) (by kernel_rfl) hv4) (qg 16 ?_)
 obtain ⟨c1,hv3,h⟩:=h
 refine sye (v:=(vs c1)) (zS (S8 (S8 zR))) (jEF (by kernel_rfl) hv3) (lg 17 ?_)
 obtain ⟨hp6,hnh,h⟩:=h
 refine jSS (zS (S8 (S8 (zG zR)))) (xs (v:=(vs c1)) (sizeOf9 _) hp6) ?_
 intro w4 hn1
 have h:=h w4 hn1
 refine ⟨.inl (by kernel_rfl),?_⟩
 have hk:=Kept.sc hnh hn1
 obtain ⟨hs,hb⟩:=hk.hh hs hb
 refine wn (zN (rg ?_))
 obtain ⟨v12,hv2,h⟩:=h
 refine q2 (vp v12) (xl (isAgg228 _) hv2) ?_
 obtain ⟨a6,hp7,h⟩:=h
 refine q2 (vp (some a6)) (xn hp7) (q0 (vp (some (a6.add 1))) ?_)
 obtain ⟨v13,hv1,h⟩:=h
 refine q2 (vi v13) (xl (isAgg3 _) hv1) (q0 (vu r1) (q0 (vi (q6.wrap r1)) (q0 (vi (q6.wrap (v13+(q6.wrap r1)))) ?_)))
 obtain ⟨a7,hp8,h⟩:=h
 refine q2 (vp (some a7)) (xn hp8) (q0 (vp (some (a7.add 1))) ?_)
 obtain ⟨hp9,hnh,h⟩:=h
 refine ss (zT (a:=(a7.add 1)) (v:=(vi (q6.wrap (v13+(q6.wrap r1))))) (by kernel_rfl) (by kernel_rfl) rfl (sizeOf3 _) hp9) ?_
 intro w5 hn2
 have h:=h w5 hn2
 have hk:=Kept.sc hnh hn2
 obtain ⟨hs,hb⟩:=hk.hh hs hb
 refine zD (ep (jFP (.inr rfl) results291 ?_))
 exact .inl ⟨rfl,h⟩
 refine zB (t:=(decide (r1>(IntKind.u64.wrap (q6.wrap ((v3.len:Int) - v5)))))) (by kernel_rfl) (fun hc1=>?_) (fun hc1=>?_)
 have h:=h.1 hc1
 refine qM (by kernel_rfl) (qF 1 (q0 (.iface 335 (vi 3)) (zD ?_)))
 refine jBR (zJ rfl) (by intro c hc;cases hc) (jED (by kernel_rfl)) (fun ρ'=>.inr ⟨_,rfl,h⟩)
 have h:=h.2 hc1
 refine zC (zN ?_)
 exact ⟨H,hm,hs,hb,h⟩
 refine zB (t:=x1) (by kernel_rfl) (fun hc2=>?_) (fun hc2=>?_)
 have h:=h.1 hc2
 refine qM (by kernel_rfl) (qF 1 (q0 (.iface 335 (vi 1)) (zD ?_)))
 refine jBR (zJ rfl) (by intro c hc;cases hc) (jED (by kernel_rfl)) (fun ρ'=>.inr ⟨_,rfl,h⟩)
 have h:=h.2 hc2
 refine zC (zN ?_)
 exact ⟨H,hm,hs,hb,h⟩
 refine rg ?_
 obtain ⟨v14,hv16,h⟩:=h
 refine q2 (vi v14) (xl (isAgg3 _) hv16) (q0 (vb (decide (v14<0))) (q0 (vb (decide (v14<0))) ?_))
 rcases bte (decide (v14<0)) with hg1 | hg1
 have h:=h.1 hg1
 refine sk (yD 8 hg1) (sk (yD 8 hg1) (sk (yD 8 hg1) (sk (yD 8 hg1) (q2 (vb true) (xT hg1) (ln ?_)))))
 exact ⟨true,None,hm,hs,hb,h⟩
 have h:=h.2 hg1
 refine q1 (vu r1) (wy 8 hg1) ?_
 obtain ⟨v15,hv15,h⟩:=h
 refine stp (v:=(vi v15)) (wy 8 hg1) (xl (isAgg3 _) hv15) (q1 (vu (IntKind.u64.wrap v15)) (wy 8 hg1) (q1 (vb (decide (r1>(IntKind.u64.wrap v15)))) (wy 8 hg1) (q2 (vb (decide (r1>(IntKind.u64.wrap v15)))) (xF hg1) (ln ?_))))
 exact ⟨(decide (r1>(IntKind.u64.wrap v15))),None,hm,hs,hb,h⟩
def m_H3 (cap1 cap2:Addr) (w0:World) (K:Option (List PanicEntry)→WP):Prop :=∃v1:Option Addr,w0.cell? cap1=some (vp v1)∧Calls prog 293 #[(vp v1)] w0 (fun e w1=>(∃r1:Int,e=.returned (.int .u8 r1)∧CanW w1 cap2∧∀w2:World,w2=w1.setCell cap2 (.int .u8 r1)→K none w2)∨∃ch,e=.panicked ch∧K (some ch)  w1)
theorem w_H3 (cap1 cap2:Addr) (w0:World) (K:Option (List PanicEntry)→WP) (h:m_H3 cap1 cap2 w0 K) :
  Calls prog 292 #[(vp (some cap1)),(vp (some cap2))] w0 (fun e w'=>(e=.returned (.tuple #[])∧K none  w')∨∃ch,e=.panicked ch∧K (some ch)  w'):=by
 unfold m_H3 at h
 refine uE (args:=[(vp (some cap1)),(vp (some cap2))]) func292 rfl ntmps292 (Nat.le_of_ble_eq_true rfl) (qM (by kernel_rfl) (qF 1 ?_))
 obtain ⟨v1,hv1,h⟩:=h
 refine q2 (vp v1) (xl (isAgg228 _) hv1) (zD ?_)
 refine jEN (zJ rfl) (by intro c hc;cases hc) (xc call293) (h.mono ?_)
 rintro e w1 (⟨r1,rfl,h⟩ | ⟨ch,rfl,h⟩)
 rotate_left
 exact .inr ⟨ch,rfl,fun ρ'=>.inr ⟨ch,rfl,h⟩⟩
 refine .inl ⟨_,rfl,?_⟩
 refine jBJ ?_
 obtain ⟨hp1,h⟩:=h
 refine ss (zT (a:=cap2) (v:=(.int .u8 r1)) (by kernel_rfl) (by kernel_rfl) rfl (sizeOf5 _) hp1) ?_
 intro w2 hn1
 have h:=h w2 hn1
 refine zD (ep (jFP (.inr rfl) results292 ?_))
 exact .inl ⟨rfl,h⟩
end Go.Proofs
end
section
open Go Go.SE
namespace Go.SE
def byr (bs:List UInt8):List (List Value):=bs.map fun b=>[.int .u8 (b.toNat:Int)]
theorem qR (bs:List UInt8):(byr bs).length=bs.length:=by simp [byr]
theorem jSH (bs:List UInt8):∀q∈byr bs,q.all qY=true:=by intro q hq;obtain ⟨t,_,rfl⟩:=List.mem_map.1 hq;rfl
theorem jFM (bs:List UInt8):∀q∈byr bs,q.length=1:=by intro q hq;obtain ⟨t,_,rfl⟩:=List.mem_map.1 hq;rfl
theorem jIB (bs:List UInt8):(byr bs).flatten=bs.map fun b=>Value.int .u8 (b.toNat:Int):=by
 induction bs with
 | nil=>rfl
 | cons b bs ih=>simp only [byr,List.map_cons,List.flatten_cons] at ih ⊢;rw [ih];rfl
theorem jME (a b:List UInt8):byr (a++b)=byr a++byr b:=by simp [byr]
theorem jSI {S:NP} {w:World} {s:Sl} {bs:List UInt8} (h:Lst S w 1 s (byr bs)) {j:Nat} (hj:j<bs.length):∃a,At s j 1 a∧S a.block∧w.cell? a=some (.int .u8 (bs[j].toNat:Int)):=by
 obtain ⟨a,h1,h2,h3⟩:=h.at_ j (by simpa [byr] using hj);exact ⟨a,h1,h2,jBU (by simpa [byr] using h3)⟩
theorem jGY (n:Nat):IntKind.u8.wrap (n:Int)=((UInt8.ofNat n).toNat:Int):=by
 rw [UInt8.toNat_ofNat'];simp [IntKind.wrap,IntKind.bits,IntKind.signed]
theorem jQG {P:Program} {src dst e:TypeId} (hs:P.underlying src=some (.slice e)) (he:P.underlying e=some (.int .u8)) (hd:P.underlying dst=some .string) {S:NP} {w:World} {s:Sl} {bs:List UInt8} (h:Lst S w 1 s (byr bs)) :
  (convert src dst s.v).run P w=.ok (.string ⟨bs.toArray⟩) w:=by
 have hl:s.len=bs.length:=by rw [h.len,qR]
 cases ha:s.a with
 | none =>
  have hb:bs=[]:=by
   cases bs with
   | nil=>rfl
   | cons b bs=>obtain ⟨_,⟨_,_,p,hp,_⟩,_⟩:=jSI h (j:=0) (by simp);rw [ha] at hp;cases hp
  subst hb
  have:s.v=.slice none 0 s.cap:=by unfold Sl.v;rw [ha,hl];rfl
  rw [this,run_convert_bytes_string w src dst e none 0 s.cap hs he hd];rfl
 | some p =>
  have:s.v=.slice (some p) bs.length s.cap:=by unfold Sl.v;rw [ha,hl]
  rw [this]
  refine run_convert_bytes_back w src dst e p s.cap bs hs he hd fun j hj=>?_
  obtain ⟨a,⟨_,_,b,hb,rfl⟩,_,hc⟩:=jSI h hj
  rw [ha] at hb;cases hb
  simpa using hc
section
variable {P:Program} {t u e ty:TypeId} {w:World}
theorem jAR (b:ByteArray):(Builtin.firstCells 1 b.size (.string b)).run P w=.ok (b.data.map fun x=>Value.int .u8 (x.toNat:Int)) w:=by
 have hx:(Array.map (fun b:UInt8=>Value.int IntKind.u8 (b.toNat:Int)) b.data).extract 0 b.size=Array.map (fun b:UInt8=>Value.int IntKind.u8 (b.toNat:Int)) b.data:=by
  have hs:b.size=(Array.map (fun b:UInt8=>Value.int IntKind.u8 (b.toNat:Int)) b.data).size:=by rw [Array.size_map];rfl
  rw [hs,Array.extract_size]
 simp [Builtin.firstCells,hx]
theorem jAV (T:SlType P t e 1 1) (hu:P.underlying u=some .string) (s:Sl) (hc:s.len≤s.cap) (b:ByteArray) (hb:b.size=0):(Builtin.append_ #[t,u] ty #[s.v,.string b]).run P w=.ok s.v w:=by
 obtain ⟨a,n,c⟩:=s;simp only at hc;have hbd:b=⟨#[]⟩:=by cases b;simp only [ByteArray.size] at hb;congr;exact Array.eq_empty_of_size_eq_zero hb
 subst hbd;cases a <;> simp [Builtin.append_,Sl.v,run_underlying T.ht,run_underlying hu,T.sizeOf,Builtin.lenOf,Builtin.firstCells,storeCells,hc,ByteArray.size]
theorem Rws.appendStr (T:SlType P t e 1 1) (hu:P.underlying u=some .string) {s:Sl} {rs:List (List Value)} (h:Rws w e 1 s rs) (b:ByteArray) (hb:rs.length+b.size≤140737488355328) (hm:rs.length+b.size≤maxLen) :
  ∃s' w',(Builtin.append_ #[t,u] ty #[s.v,.string b]).run P w=.ok s'.v w'∧Rws w' e 1 s' (rs++byr b.data.toList)∧Ext s.blk w w'∧(∀b,s'.blk b→s.blk b∨w.heap.size≤b):=by
 obtain ⟨i,z,hi,hz,hsz,hby,hzs⟩:=T.hi
 have hbl:b.data.toList.length=b.size:=by rw [Array.length_toList];rfl
 by_cases h0:b.size=0
 ·have hc : s.len ≤ s.cap := by
   rcases h.own with ⟨rfl,_⟩ | ⟨g,cur,_,_,hc,_⟩
   ·exact Nat.le_refl _
   ·rw [h.len];exact hc
  have:b.data.toList=[]:=List.length_eq_zero_iff.1 (by omega)
  rw [this]
  exact ⟨s,w,jAV T hu s hc b h0,by simpa [byr] using h,Ext.refl w,fun b hb=>.inl hb⟩
 have hml:rs.length+b.size≤9223372036854775807:=by simp only [maxLen] at hm;omega
 have hfl:=vP h.each
 have hql:(byr b.data.toList).length=b.size:=by rw [qR,hbl]
 have heach:∀q∈rs++byr b.data.toList,q.length=1:=fun q hq=>(List.mem_append.1 hq).elim (h.each q) (jFM _ q)
 have hfq:(b.data.map (fun x=>Value.int .u8 (x.toNat:Int))).toList=(byr b.data.toList).flatten:=by rw [jIB];simp
 have hsv:(b.data.map (fun x=>Value.int .u8 (x.toNat:Int))).size=b.size:=by rw [Array.size_map];rfl
 rcases h.own with ⟨rfl,rfl⟩ | ⟨g,cur,ha,hg,hcap,hcm,hcs,htake⟩
 ·simp only [List.length_nil,Nat.zero_add] at hb hml hm
  have hrun:=run_append_nil_string (P:=P) w t u ty e i z T.ht hu hi hz b (by omega) (by omega) (by rw [hby];omega)
  have hgr:=Rws.grown (w:=w) (e:=e) (sz:=1) (rs:=byr b.data.toList) (jFM _) (cur:=b.data.map (fun x=>Value.int .u8 (x.toNat:Int))) (by rw [hzs]) hfq (cap:=grownCap w b.size 0 e) (by rw [hql];exact grownCap_ge w _ 0 e) (grownCap_le_maxLen w _ 0 e hm)
  rw [hql] at hgr
  exact ⟨⟨some ⟨w.heap.size,0,none⟩,b.size,grownCap w b.size 0 e⟩,_,hrun,by simpa using hgr,⟨rfl,rfl,rfl,(by first | exact Nat.le_refl _ | exact Nat.le_succ _),by simp,fun b hb _=>tE w.drew _ b hb⟩,fun b hb=>by obtain ⟨a,ha,rfl⟩:=hb;cases ha;right;exact Nat.le_refl _⟩
 ·have hs':s.v=.slice (some ⟨g,0,none⟩) rs.length s.cap:=by unfold Sl.v;rw [ha,h.len]
  by_cases hroom:rs.length+b.size≤s.cap
  ·have hfit:rs.length+(byr b.data.toList).flatten.length≤cur.size:=by rw [vP (jFM _),hql,hcs];omega
   have h1':∀u∈(byr b.data.toList).flatten,u.oneCell'=true:=fun u hu=>by
    rw [jIB] at hu;obtain ⟨x,_,rfl⟩:=List.mem_map.1 hu;rfl
   have hst:=run_storeCells_at P g rs.length e (byr b.data.toList).flatten 0 cur w hg (by simpa using hfit) h1'
   have hrun:(Builtin.append_ #[t,u] ty #[s.v,.string b]).run P w=.ok (.slice (some ⟨g,0,none⟩) (rs.length+b.size) s.cap) (w.setRow g (cur.toList.take rs.length++(byr b.data.toList).flatten++cur.toList.drop (rs.length+(byr b.data.toList).flatten.length)).toArray):=by
    rw [hs'];simp only [Nat.add_zero] at hst;have hf:=jAR (P:=P) (w:=w) b;rw [jIB] at hst ⊢;simp [Builtin.append_,run_underlying T.ht,run_underlying hu,T.sizeOf,Builtin.lenOf,hroom,hf,Addr.add_lit,hst]
   refine ⟨⟨some ⟨g,0,none⟩,rs.length+b.size,s.cap⟩,_,hrun,⟨heach,by simp [hql],.inr ⟨g,_,rfl,setRow_heap w g cur _ e _ hg,by simpa [hql] using hroom,hcm,?_,?_⟩⟩,⟨rfl,rfl,rfl,(by first | exact Nat.le_refl _ | exact Nat.le_succ _),by simp,fun b hb hf=>setRow_other w g b _ (fun e=>hf ⟨_,ha,e.symm⟩)⟩,fun b hb=>by obtain ⟨a,ha',rfl⟩:=hb;cases ha';exact .inl ⟨_,ha,rfl⟩⟩
   ·simp only [List.size_toArray,List.length_append,List.length_take,List.length_drop,Array.length_toList]
    omega
   ·simp only [Nat.mul_one] at htake hfl ⊢
    rw [htake,List.flatten_append,List.length_append,hql]
    rw [vP (jFM _),hql,← hfl]
    simp only [Nat.mul_one]
    rw [show rs.flatten.length+b.size=(rs.flatten++(byr b.data.toList).flatten).length by rw [List.length_append,vP (jFM _),hql];omega]
    exact List.take_left
  ·have holds : ∀ j u, rs.flatten[j]? = some u → w.cell? ((⟨g, 0, none⟩ : Addr).add j) = some u := fun j u hu => by
    have hadd:(⟨g,0,none⟩:Addr).add j=⟨g,j,none⟩:=by unfold Addr.add;split <;> simp_all
    rw [hadd,cell_of_row w g j cur e (0,0) hg];rw [← htake,List.getElem?_take] at hu;split at hu
    ·simpa using hu
    ·cases hu
   have hfit:=growslice_fits (need:=rs.length+b.size) (old:=s.cap) (bytes:=1) (by omega) (by omega)
   have hgr:=Rws.grown (w:=w) (e:=e) (sz:=1) (rs:=rs++byr b.data.toList) heach (cur:=rs.flatten.toArray++b.data.map (fun x=>Value.int .u8 (x.toNat:Int))) (by rw [hzs]) (by simp [← hfq]) (cap:=grownCap w (rs.length+b.size) s.cap e) (by rw [List.length_append,hql];exact grownCap_ge w _ s.cap e) (grownCap_le_maxLen w _ _ e hm)
   have hrun:(Builtin.append_ #[t,u] ty #[s.v,.string b]).run P w=.ok (.slice (some ⟨w.heap.size,0,none⟩) (rs.length+b.size) (grownCap w (rs.length+b.size) s.cap e)) (w.drew.alloc (.cells (rs.flatten.toArray++b.data.map (fun x=>Value.int .u8 (x.toNat:Int))++Builtin.zeroCells z.cells (grownCap w (rs.length+b.size) s.cap e - (rs.length+b.size))) e)):=by
    rw [hs'];have hn:¬ (rs.length+b.size≤s.cap):=by omega
    have h63':¬ (9223372036854775807<((rs.length:Int)+(b.size:Int))):=by omega
    have h48':¬ (281474976710656<Builtin.nextslicecap (rs.length+b.size) s.cap*i.bytes):=by rw [hby];omega
    have hfo:=run_firstCells_some (P:=P) w.drew i.size rs.length ⟨g,0,none⟩ rs.length s.cap rs.flatten (by rw [hsz];exact hfl) (by simpa using holds);have hf:=jAR (P:=P) (w:=w.drew) b;rw [hsz] at hfo;simp [Builtin.append_,run_underlying T.ht,run_underlying hu,sizeOf,typeInfo,zeroValue,hi,hz,Builtin.lenOf,hn,h63',h48',Question.forced,hf,hfo,newRow,grownCap,hsz]
    try (congr 2;apply Array.ext';simp [List.append_assoc])
   rw [List.length_append,hql] at hgr
   exact ⟨⟨some ⟨w.heap.size,0,none⟩,rs.length+b.size,grownCap w (rs.length+b.size) s.cap e⟩,_,hrun,hgr,⟨rfl,rfl,rfl,(by first | exact Nat.le_refl _ | exact Nat.le_succ _),by simp,fun b hb _=>tE w.drew _ b hb⟩,fun b hb=>by obtain ⟨a,ha,rfl⟩:=hb;cases ha;right;exact Nat.le_refl _⟩
end
section
variable {P:Program} {w:World} {t:TypeId}
theorem jOF (n:Nat) (h:n<18446744073709551616):(Go.binOp .quo t (.int .u64 (n:Int)) (.int .u64 128)).run P w=.ok (.int .u64 ((n / 128:Nat):Int)) w:=by
 have:IntKind.u64.wrap ((n:Int).tdiv 128)=((n / 128:Nat):Int):=by
  rw [Int.tdiv_eq_ediv_of_nonneg (by omega)];simp only [IntKind.wrap,IntKind.bits,IntKind.signed];simp;omega
 show ((pure (Value.int .u64 (IntKind.u64.wrap ((n:Int).tdiv 128))):Sem Value)).run P w=_;rw [this];rfl
theorem jOE (n:Nat):(Go.binOp .rem t (.int .u64 (n:Int)) (.int .u64 128)).run P w=.ok (.int .u64 ((n % 128:Nat):Int)) w:=by
 have:(n:Int).tmod 128=((n % 128:Nat):Int):=by
  rw [Int.tmod_eq_emod_of_nonneg (by omega)];simp
 simp [Go.binOp,Op.intDiv,this]
theorem jOG (c:Nat) (h:c<256):(Go.binOp .and t (.int .u8 (c:Int)) (.int .u8 127)).run P w=.ok (.int .u8 ((c % 128:Nat):Int)) w:=by
 have hr:IntKind.u8.wrap ((BitVec.ofInt IntKind.u8.bits (c:Int) &&& BitVec.ofInt IntKind.u8.bits 127).toNat:Int)=((c % 128:Nat):Int):=by
  have e1:(BitVec.ofInt IntKind.u8.bits (c:Int)).toNat=c:=by
   rw [BitVec.toNat_ofInt];simp [IntKind.bits];omega
  have e2:(BitVec.ofInt IntKind.u8.bits 127).toNat=2 ^ 7 - 1:=by decide
  rw [BitVec.toNat_and,e1,e2,Nat.and_two_pow_sub_one_eq_mod,jGY];simp only [UInt8.toNat_ofNat'];omega
 show ((pure (Value.int .u8 _):Sem Value)).run P w=_;rw [hr];rfl
theorem yP {n:Nat} (h:n<18446744073709551616):IntKind.u64.wrap (n:Int)=(n:Int):=by
 simp [IntKind.wrap,IntKind.bits,IntKind.signed];omega
theorem jVG (x k:Nat) (hk:k<64) (h:x*2 ^ k<18446744073709551616):(Go.binOp .shl t (.int .u64 (x:Int)) (.int .i64 (k:Int))).run P w=.ok (.int .u64 ((x*2 ^ k:Nat):Int)) w:=by
 have hr:IntKind.u64.wrap ((x:Int)*2 ^ min (k:Int).toNat IntKind.u64.bits)=((x*2 ^ k:Nat):Int):=by
  have:min (k:Int).toNat IntKind.u64.bits=k:=by simp [IntKind.bits];omega
  rw [this,← yP h];simp
 have h0:¬ ((k:Int)<0):=by omega
 show (Op.shift .shl .u64 (x:Int) .i64 (k:Int)).run P w=_;unfold Op.shift;rw [if_neg h0];show ((pure (Value.int .u64 (IntKind.u64.wrap ((x:Int)*2 ^ min (k:Int).toNat IntKind.u64.bits))):Sem Value)).run P w=_;rw [hr];rfl
theorem jSY (x y:Nat) (hx:x<18446744073709551616) (hy:y<18446744073709551616):(Go.binOp .or t (.int .u64 (x:Int)) (.int .u64 (y:Int))).run P w=.ok (.int .u64 ((x ||| y:Nat):Int)) w:=by
 have hr:IntKind.u64.wrap ((BitVec.ofInt IntKind.u64.bits (x:Int) ||| BitVec.ofInt IntKind.u64.bits (y:Int)).toNat:Int)=((x ||| y:Nat):Int):=by
  have e (z:Nat) (hz:z<18446744073709551616):(BitVec.ofInt IntKind.u64.bits (z:Int)).toNat=z:=by
   rw [BitVec.toNat_ofInt];simp [IntKind.bits];omega
  rw [BitVec.toNat_or,e x hx,e y hy,yP (Nat.or_lt_two_pow (n:=64) hx hy)]
 show ((pure (Value.int .u64 _):Sem Value)).run P w=_;rw [hr];rfl
theorem or_add {x y k:Nat} (h:x<2 ^ k):x ||| (y*2 ^ k)=x+y*2 ^ k:=by
 have:=Nat.shiftLeft_add_eq_or_of_lt h y;rw [Nat.shiftLeft_eq] at this;rw [Nat.or_comm,← this,Nat.add_comm]
end
theorem Lst.sub {P:Program} {t e:TypeId} {sz bytes:Nat} {S:NP} (T:SlType P t e sz bytes) {w:World} {s:Sl} {rs:List (List Value)} (h:Lst S w sz s rs) (hcap:s.len≤s.cap) {k:IntKind} {lo n:Nat} (hn:lo+n≤rs.length) :
  ∃s':Sl,(Instr.sliceAt t s.v (some (.int k (lo:Int))) (some (.int k ((lo+n:Nat):Int))) none).run P w=.ok s'.v w∧Lst S w sz s' ((rs.drop lo).take n):=by
 have h1:((lo+n:Nat):Int)≤(s.cap:Int):=by rw [h.len] at hcap;omega
 have h2:(lo:Int)≤((lo+n:Nat):Int):=by omega
 refine ⟨⟨if s.cap=lo then s.a else s.a.map (·.add (lo*sz)),n,s.cap - lo⟩,?_,⟨by simp;omega,fun i hi=>?_⟩⟩
 ·simp [Instr.sliceAt,Instr.slice,Sl.v,run_underlying T.ht,Instr.sliceBounds,Instr.sliceBound,asIntOf,T.sizeOf]
  rw [if_pos (by omega),if_pos (by omega),show ((lo:Int)+(n:Int)).toNat - lo=n by omega]
 ·have hi':lo+i<rs.length:=by simp at hi;omega
  obtain ⟨a,⟨_,hlt,p,hp,rfl⟩,hS,hr⟩:=h.at_ (lo+i) hi'
  refine ⟨_,⟨by omega,by simp at hi ⊢;omega,p.add (lo*sz),?_,rfl⟩,?_,?_⟩
  ·rw [if_neg (by rw [h.len] at hcap;omega),hp];rfl
  ·simpa [zX] using hS
  ·have : (p.add (lo * sz)).add ((i : Int).toNat * sz) = p.add (((lo + i : Nat) : Int).toNat * sz) := by
    rw [uM,Int.toNat_natCast,Int.toNat_natCast,Nat.add_mul]
   rw [this,List.getElem_take,List.getElem_drop];exact hr
end Go.SE
end
section
open Go Go.SE
open Go.IntKind renaming i64 → q6
namespace Go.Proofs
open Tryz
set_option maxRecDepth 100000
set_option maxHeartbeats 4000000
attribute [local irreducible] wpL wpX opE wpE Calls
def m_N1_l1 (s1:Sl) (v1 x1:Int) (wl1:World) (Kc1:Int→WP) (K:Int→WP):Prop :=Br (decide (x1<(s1.len:Int))) (∃a1:Addr,At s1 x1 1 a1∧∃v2:Int,wl1.cell? a1=some (vi v2)∧Br (v1 == v2) (K x1 wl1) (Kc1 (q6.wrap (x1+1)) wl1)) (K (-1) wl1)
def m_N1 (s1:Sl) (v1:Int) (w0:World) (K:Int→WP):Prop :=∃(I1:Int→WP) (mu1:Int→World→Nat),I1 0 w0∧∀(x1:Int) (wl1:World),I1 x1 wl1→m_N1_l1 s1 v1 x1 wl1 (fun y'0 w'=>I1 y'0 w'∧mu1 y'0 w'<mu1 x1 wl1) K
theorem w_N1 (s1:Sl) (v1:Int) (w0:World) (K:Int→WP) (h:m_N1 s1 v1 w0 K) :
  Calls prog 163 #[s1.v,(vi v1)] w0 (fun e w'=>∃r1:Int,e=.returned (vi r1)∧K r1 w'):=by
 unfold m_N1 at h
 refine cw (args:=[s1.v,(vi v1)]) func163 ntmps163 (eg (q0 (vi 0) (ln (zA (eg (q0 s1.v (q0 (vi (s1.len:Int)) (q0 (vi 0) ?_))))))))
 refine ln (zQ ?_)
 obtain ⟨I1,mu1,h0,hr⟩:=h
 refine qI (σ:=Int×World) (fun s ρ w=>w=s.2∧Has ρ [(0,s1.v),(1,(vi v1)),(7,(vi (s1.len:Int))),(8,(vi s.1))]∧I1 s.1 s.2) (fun s=>mu1 s.1 s.2) (0,w0) ⟨rfl,hm,h0⟩ ?_
 rintro ⟨x1,wl1⟩ ρ w ⟨hw,hH,hI⟩
 obtain rfl:wl1=w:=(show w=wl1 from hw).symm
 have hH:Has ρ [(0,s1.v),(1,(vi v1)),(7,(vi (s1.len:Int))),(8,(vi x1))]:=hH
 have h:=hr x1 wl1 hI
 unfold m_N1_l1 at h
 refine vC hH ?_
 refine eg (q0 (vb (decide (x1<(s1.len:Int)))) (ln (zA ?_)))
 refine zB (t:=(decide (x1<(s1.len:Int)))) (by kernel_rfl) (fun hc1=>?_) (fun hc1=>?_)
 have h:=h.1 hc1
 refine zC (zN (zA (zQ (eg (q0 (vi x1) (q0 (vi x1) (ln (eg ?_))))))))
 refine q0 (vi v1) (q0 s1.v (q0 (vi x1) ?_))
 obtain ⟨a1,hv2,h⟩:=h
 refine q2 (vp (some a1)) (xi (runUnderlying54 _) (sizeOf78 _) hv2) ?_
 obtain ⟨v2,hv1,h⟩:=h
 refine q2 (vi v2) (xl (isAgg78 _) hv1) (q0 (vb (v1 == v2)) (ln ?_))
 refine zB (t:=(v1 == v2)) (by kernel_rfl) (fun hc2=>?_) (fun hc2=>?_)
 have h:=h.1 hc2
 refine eg (q0 (vi x1) (q0 (vi x1) (ln (er (uK (vL (vL (uK (vL ?_)))))))))
 refine rs1 results163 (v:=(vi x1)) ?_
 exact ⟨x1,rfl,h⟩
 have h:=h.2 hc2
 refine zC (tJ (zN (rg (q0 (vi (q6.wrap (x1+1))) (q0 (vi (q6.wrap (x1+1))) (ln ?_))))))
 exact ⟨((q6.wrap (x1+1)),wl1),⟨rfl,hm,h.1⟩,h.2⟩
 have h:=h.2 hc1
 refine qE (tN (tN (tP (zN (eg (q0 (vi (-1)) (ln (er (rs1 results163 (v:=(vi (-1))) ?_)))))))))
 exact ⟨(-1),rfl,h⟩
def m_I3 (s1:Sl) (v1:Int) (w0:World) (K:Bool→WP):Prop :=Calls prog 163 #[s1.v,(vi v1)] w0 (fun e w1=>∃r1:Int,e=.returned (vi r1)∧K (decide (r1≥0)) w1)
theorem w_I3 (s1:Sl) (v1:Int) (w0:World) (K:Bool→WP) (h:m_I3 s1 v1 w0 K) :
  Calls prog 105 #[s1.v,(vi v1)] w0 (fun e w'=>∃r2:Bool,e=.returned (vb r2)∧K r2 w'):=by
 unfold m_I3 at h
 refine cw (args:=[s1.v,(vi v1)]) func105 ntmps105 (eg (q0 (vb false) (ln (eg (q0 s1.v (q0 (vi v1) ?_))))))
 refine sc call163 (h.mono ?_)
 rintro e w1 ⟨r1,rfl,h⟩
 refine ⟨_,rfl,?_⟩
 refine q0 (vb (decide (r1≥0))) (q0 (vb (decide (r1≥0))) (ln (er (rs1 results105 (v:=(vb (decide (r1≥0)))) ?_))))
 exact ⟨(decide (r1≥0)),rfl,h⟩
end Go.Proofs
end
section
open Go Go.SE
namespace Go.Proofs
open Tryz
attribute [local irreducible] Calls
def tmr (ts:List Int):List (List Value):=ts.map fun t=>[.int .i64 t]
theorem qP (ts:List Int):(tmr ts).length=ts.length:=by simp [tmr]
theorem jMP:SlType prog 54 78 1 8:=by
 refine ⟨underlying54,⟨t78,_,by kernel_rfl,(by kernel_rfl:t78.zero=some (.int .i64 0)),by kernel_rfl,by kernel_rfl,rfl⟩,by omega⟩
structure RetO (w:World) (e:TypeId) (sz:Nat) (rs:List (List Value)) (s:Sl) (w':World):Prop where
 rows:Rws w' e sz s rs
 own:∀b,s.blk b→w.heap.size≤b
 pure:Pure w w'
theorem RetO.kept {w:World} {H:NP} {e:TypeId} {sz:Nat} {rs:List (List Value)} {s:Sl} {w':World} (h:RetO w e sz rs s w'):Kept H w w':=h.pure.keptP
theorem tU {S:NP} {w:World} {s:Sl} {ts:List Int} (h:Lst S w 1 s (tmr ts)) {j:Nat} (hj:j<ts.length):∃a,At s j 1 a∧S a.block∧w.cell? a=some (.int .i64 ts[j]):=by
 obtain ⟨a,h1,h2,h3⟩:=h.at_ j (by simpa [tmr] using hj);exact ⟨a,h1,h2,jBU (by simpa [tmr] using h3)⟩
theorem jCS {P:Program} (w:World) (d:Nat) {t e:TypeId} (a:Option Addr) (l c:Nat) (h:P.underlying t=some (.slice e)):(Op.equalIn (d+1) t (.slice a l c) (.slice none 0 0)).run P w=.ok a.isNone w:=by
 cases a <;> simp [Op.equalIn,run_underlying h]
theorem jHG {P:Program} (w:World) {t e:TypeId} (a:Option Addr) (l c:Nat) (h:P.underlying t=some (.slice e)):(Go.binOp .eql t (.slice a l c) (.slice none 0 0)).run P w=.ok (.bool a.isNone) w:=by
 simp only [Go.binOp];simp [Op.equal,Op.maxDepth,jCS w 9999 a l c h]
theorem jRZ {S:NP} (s:Sl) (ts:List Int) (v:Int) (w0:World) (hs:Lst S w0 1 s (tmr ts)) (hn:ts.length≤1000000) :
  Calls prog 163 #[s.v,.int .i64 v] w0 (fun e w'=>∃r:Int,e=.returned (.int .i64 r)∧((decide (r≥0)=decide (v∈ts))∧w'=w0)):=by
 refine w_N1 _ _ w0 (fun r w'=>(decide (r≥0)=decide (v∈ts))∧w'=w0) ?_
 unfold m_N1
 have hl:s.len=ts.length:=by rw [hs.len,qP]
 refine ⟨fun i w'=>w'=w0∧∃j:Nat,i=j∧j≤ts.length∧v ∉ ts.take j,fun i _=>((ts.length:Int) - i).toNat,⟨rfl,0,rfl,Nat.zero_le _,by simp⟩,?_⟩
 rintro _ _ ⟨rfl,j,rfl,hj,hv⟩
 unfold m_N1_l1
 refine ⟨fun h=>?_,fun h=>?_⟩
 ·have hlt:=uC hl h
  obtain ⟨a,hat,_,hc⟩:=tU hs hlt
  have htk:ts.take (j+1)=ts.take j++[ts[j]]:=List.take_succ_eq_append_getElem hlt
  refine ⟨a,hat,_,hc,fun h=>⟨?_,rfl⟩,fun h=>?_⟩
  ·have:v=ts[j]:=by simpa using h
   rw [decide_eq_true (by omega),decide_eq_true]
   rw [this];exact List.getElem_mem hlt
  ·rw [vV hlt (by omega)]
   refine ⟨⟨rfl,j+1,rfl,hlt,?_⟩,jCE hlt⟩
   rw [htk,List.mem_append,List.mem_singleton]
   rintro (h' | h')
   ·exact hv h'
   ·simp [h'] at h
 ·have hge:=xU hl hj h
  subst hge
  rw [List.take_length] at hv
  exact ⟨by simp [hv],rfl⟩
theorem jJV {S:NP} (s:Sl) (ts:List Int) (v:Int) (w0:World) (hs:Lst S w0 1 s (tmr ts)) (hn:ts.length≤1000000) :
  Calls prog 105 #[s.v,.int .i64 v] w0 (fun e w'=>∃r:Bool,e=.returned (.bool r)∧(r=decide (v∈ts)∧w'=w0)):=by
 refine w_I3 _ _ w0 (fun r w'=>r=decide (v∈ts)∧w'=w0) ?_
 unfold m_I3
 refine (jRZ s ts v w0 hs hn).mono ?_
 rintro _ _ ⟨r,rfl,hr,rfl⟩
 exact ⟨_,rfl,hr,rfl⟩
end Go.Proofs
end
section
open Nat
namespace Go.Proofs
def vX (n:Nat):List UInt8:=if h:n<128 then [UInt8.ofNat n] else UInt8.ofNat (n % 128+128) :: vX (n / 128)
theorem xM {n:Nat} (h:n<128):vX n=[UInt8.ofNat n]:=by rw [vX,dif_pos h]
theorem tT {n:Nat} (h:128≤n):vX n=UInt8.ofNat (n % 128+128) :: vX (n / 128):=by rw [vX,dif_neg (by omega)]
theorem jNW (k:Nat):∀n,n<128 ^ (k+1)→(vX n).length≤k+1:=by
 induction k with
 | zero=>intro n h;rw [xM (by simpa using h)];simp
 | succ k ih =>
  intro n h
  by_cases h1:n<128
  ·rw [xM h1];simp
  ·rw [tT (by omega),List.length_cons]
   have:=ih (n / 128) (by rw [Nat.div_lt_iff_lt_mul (by omega)];rw [Nat.pow_succ] at h;exact h)
   omega
theorem vZ {n:Nat} (h:n<18446744073709551616):(vX n).length≤10:=jNW 9 n (by omega)
def qQ (s:ByteArray):List UInt8:=vX s.size++s.data.toList
def xX:Nat→Nat→List UInt8→Except Nat (Nat×Nat)
 | _,_,[]=>.error 3
 | i,n,c :: l =>
  if i=9∧1<c.toNat then .error 11
  else if c.toNat<128 then (if c.toNat=0∧0<i then .error 10 else .ok (n+c.toNat*128 ^ i,i+1))
  else xX (i+1) (n+c.toNat % 128*128 ^ i) l
theorem xH (i n:Nat) (c:UInt8) (l:List UInt8):xX i n (c :: l)=(if i=9∧1<c.toNat then .error 11
  else if c.toNat<128 then (if c.toNat=0∧0<i then .error 10 else .ok (n+c.toNat*128 ^ i,i+1))
  else xX (i+1) (n+c.toNat % 128*128 ^ i) l):=rfl
structure Rd where
 at_:Nat
 err:Nat
 spot:Nat
def qZ (bs:List UInt8) (r:Rd):Nat×Rd :=
 if r.err=0 then match xX 0 0 (bs.drop r.at_) with
  | .ok (n,k)=>(n,⟨r.at_+k,0,r.spot⟩)
  | .error x=>(0,⟨r.at_,x,r.at_⟩)
 else (0,r)
def uH (bs:List UInt8) (r:Rd):Nat×Rd :=
 if r.err=0 then (if h:r.at_<bs.length then (bs[r.at_].toNat,⟨r.at_+1,0,r.spot⟩) else (0,⟨r.at_,3,r.at_⟩))
 else (0,r)
def qN (bs:List UInt8) (most:Nat) (r:Rd):List UInt8×Rd :=
 if r.err=0 then match xX 0 0 (bs.drop r.at_) with
  | .ok (n,k)=>if most<n then ([],⟨r.at_,1,r.at_⟩) else if bs.length<r.at_+k+n then ([],⟨r.at_,3,r.at_⟩) else ((bs.drop (r.at_+k)).take n,⟨r.at_+k+n,0,r.spot⟩)
  | .error x=>([],⟨r.at_,x,r.at_⟩)
 else ([],r)
end Go.Proofs
end
section
open Go Go.SE
namespace Go.Proofs
open Tryz
attribute [local irreducible] Calls
theorem jGC:SlType prog 65 5 1 1:=by
 refine ⟨underlying65,⟨t5,_,by kernel_rfl,(by kernel_rfl:t5.zero=some (.int .u8 0)),by kernel_rfl,by kernel_rfl,rfl⟩,by omega⟩
theorem jSG {S:NP} (s:Sl) (bs:List UInt8) (w0:World) (hs:Lst S w0 1 s (byr bs)) (hz:s.a=none→s=Sl.nil) (hn:bs.length≤100000000000) :
  Calls prog 215 #[s.v] w0 (fun e w'=>∃r:Sl,e=.returned r.v∧RetO w0 5 1 (byr bs) r w'):=by
 refine w_I2 _ w0 (fun r w'=>RetO w0 5 1 (byr bs) r w') ?_
 unfold m_I2
 refine ⟨s.a.isNone,?_,fun h=>?_,fun h=>?_⟩
 ·exact jHG w0 s.a s.len s.cap underlying65
 ·have hs0:=hz (Option.isNone_iff_eq_none.1 h)
  subst hs0
  have:bs=[]:=by have:=hs.len;rw [qR] at this;exact List.length_eq_zero_iff.1 this.symm
  subst this
  exact ⟨Rws.nil _ _ _,fun b hb=>(by obtain ⟨a,ha,_⟩:=hb;cases ha),Ext.refl _⟩
 ·intro p1 w1 h1
  have E1:Pure w0 w1:=Ext.new h1
  obtain ⟨s2,w2,hr,hR,hE,hb⟩:=(Rws.empty (sz:=1) h1).appendL (P:=prog) (ty:=65) jGC (hs.pure E1) (jFM _) (jSH _) (by rw [qR];simp;omega) (by rw [qR];simp [maxLen];omega)
  have hp:=h1.at_size
  have hp':∀b,(Sl.mk (some p1) 0 0).blk b→w0.heap.size≤b:=fun b hb=>(by obtain ⟨a,ha,e⟩:=hb;cases ha;omega)
  exact ⟨s2,w2,hr,by simpa using hR,fun b h=>(hb b h).elim (hp' b) (fun h=>by have:=E1.size;omega),E1.trans' hE (fun i hi h=>by have:=hp' i h;omega)⟩
theorem RetO.put {w0 w w1:World} {s:Sl} {bs:List UInt8} {x:UInt8} {p:Addr} (h:RetO w0 5 1 (byr bs) s w) (hn:New w (.cells #[.int .u8 (x.toNat:Int)] 5) p w1) (hl:bs.length≤100000000000) :
  ∃s' w',(Builtin.append_ #[65,65] 65 #[s.v,(Sl.mk (some p) 1 1).v]).run prog w1=.ok s'.v w'∧RetO w0 5 1 (byr (bs++[x])) s' w':=by
 have E1:Pure w w1:=Ext.new hn
 have hrow:Row w1 p [.int .u8 (x.toNat:Int)]:=(Box.of_newA hn).row
 obtain ⟨s',w',hr,hR,hE,hb⟩:=(h.rows.pure E1).append (ty:=65) (c:=1) jGC hrow rfl rfl (by rw [qR];omega) (by rw [qR];simp [maxLen];omega)
 have h1:=(h.pure.trans E1)
 exact ⟨s',w',hr,by rw [jME];exact hR,fun b hb'=>(hb b hb').elim (h.own b) (fun h2=>by have:=h1.size;omega),h1.trans' hE (fun i hi h2=>by have:=h.own i h2;omega)⟩
theorem RetO.text {w0 w:World} {s:Sl} {bs:List UInt8} {x:ByteArray} (h:RetO w0 5 1 (byr (bs++vX x.size)) s w) (hn:bs.length≤10000000000) (hN:x.size≤10000000000) :
  ∃s' w',(Builtin.append_ #[65,9] 65 #[s.v,.string x]).run prog w=.ok s'.v w'∧RetO w0 5 1 (byr (bs++qQ x)) s' w':=by
 have hv:=vZ (n:=x.size) (by omega)
 obtain ⟨s',w',hr,hR,hE,hb⟩:=h.rows.appendStr (ty:=65) jGC underlying9 x (by rw [qR,List.length_append];omega) (by rw [qR,List.length_append];simp [maxLen];omega)
 refine ⟨s',w',hr,?_,fun b hb'=>(hb b hb').elim (h.own b) (fun h2=>by have:=h.pure.size;omega),h.pure.trans' hE (fun i hi h2=>by have:=h.own i h2;omega)⟩
 rw [qQ,← List.append_assoc,jME];exact hR
theorem tD {S:NP} (s:Sl) (bs:List UInt8) (n:Nat) (w0:World) (hs:Lst S w0 1 s (byr bs)) (hn:bs.length≤10000000000) (hN:n<18446744073709551616) :
  Calls prog 236 #[s.v,.int .u64 (n:Int)] w0 (fun e w'=>∃r:Sl,e=.returned r.v∧RetO w0 5 1 (byr (bs++vX n)) r w'):=by
 refine w_M1 _ _ w0 (fun r w'=>RetO w0 5 1 (byr (bs++vX n)) r w') ?_
 unfold m_M1
 intro p1 w1 h1
 have E1:Pure w0 w1:=Ext.new h1
 obtain ⟨s2,w2,hr,hR,hE,hb⟩:=(Rws.empty (sz:=1) h1).appendL (P:=prog) (ty:=65) jGC (hs.pure E1) (jFM _) (jSH _) (by rw [qR];simp;omega) (by rw [qR];simp [maxLen];omega)
 have hp:=h1.at_size
 have hp':∀b,(Sl.mk (some p1) 0 0).blk b→w0.heap.size≤b:=fun b hb=>(by obtain ⟨a,ha,e⟩:=hb;cases ha;omega)
 have hR0:RetO w0 5 1 (byr bs) s2 w2:=⟨by simpa using hR,fun b h=>(hb b h).elim (hp' b) (fun h=>by have:=E1.size;omega),E1.trans' hE (fun i hi h=>by have:=hp' i h;omega)⟩
 refine ⟨s2,w2,hr,fun m b w=>∃k:Nat,∃xs:List UInt8,m=(k:Int)∧k<18446744073709551616∧xs++vX k=bs++vX n∧RetO w0 5 1 (byr xs) b w,fun m _ _=>m.toNat,⟨n,bs,rfl,hN,rfl,hR0⟩,?_⟩
 rintro _ b w ⟨k,xs,rfl,hk,hx,hR⟩
 have hlen:xs.length≤10000000010:=by
  have:=congrArg List.length hx;have:=vZ hN;simp only [List.length_append] at *;omega
 unfold m_M1_l1
 refine ⟨fun h=>?_,fun h=>?_⟩
 ·have h:=of_decide_eq_true h
  refine ⟨_,jOE k,fun p2 w2 h2=>?_⟩
  rw [show IntKind.u64.wrap (((k % 128:Nat):Int)+128)=((k % 128+128:Nat):Int) by simp [IntKind.wrap,IntKind.bits,IntKind.signed];omega,jGY] at h2
  obtain ⟨s',w',hr,hR'⟩:=hR.put h2 (by omega)
  refine ⟨s',w',hr,_,jOF k hk,⟨k / 128,xs++[UInt8.ofNat (k % 128+128)],rfl,by omega,?_,hR'⟩,by show (((k / 128:Nat):Int)).toNat<((k:Int)).toNat;omega⟩
  rw [← hx,tT (n:=k) (by omega)];simp
 ·have h:=of_decide_eq_false h
  intro p2 w2 h2
  rw [jGY] at h2
  obtain ⟨s',w',hr,hR'⟩:=hR.put h2 (by omega)
  refine ⟨s',w',hr,?_⟩
  rw [← hx,xM (n:=k) (by omega)];exact hR'
theorem jPE {S:NP} (s:Sl) (bs:List UInt8) (x:ByteArray) (w0:World) (hs:Lst S w0 1 s (byr bs)) (hn:bs.length≤10000000000) (hN:x.size≤10000000000) :
  Calls prog 237 #[s.v,.string x] w0 (fun e w'=>∃r:Sl,e=.returned r.v∧RetO w0 5 1 (byr (bs++qQ x)) r w'):=by
 refine w_W2 _ _ w0 (fun r w'=>RetO w0 5 1 (byr (bs++qQ x)) r w') ?_
 unfold m_W2
 rw [show IntKind.u64.wrap (x.size:Int)=(x.size:Int) by simp [IntKind.wrap,IntKind.bits,IntKind.signed];omega]
 refine (tD s bs x.size w0 hs hn (by omega)).mono ?_
 rintro _ w1 ⟨r1,rfl,h1⟩
 exact ⟨r1,rfl,h1.text hn hN⟩
end Go.Proofs
end
section
namespace Go.SE
section
variable {P:Program} {n:Nat} {ρ:Env} {w:World} {ds:List Deferred} {Q:Exit→Act→World→Prop} {a:Act}
theorem jEI {c1 c2:Code} (ha:Rep ds n ρ a)
  (h:wpE (x:=⟨none,ds⟩) P n c1 (fun e ρ' w'=>match e with | .normal=>∀a',Rep ds n ρ' a'→c2.wp P Q a' w' | .panic ch=>∀a',Rep ds n ρ' a'→Q (.panic ch) a' w' | _=>False) ρ w):(Code.seq c1 c2).wp P Q a w:=by
 refine wp_seq (wpIn_wide.1 (wpIn_mono (h a ha) ?_))
 rintro e a' w' ⟨ρ',⟨hr,hq⟩ | ⟨rfl,_,_,D,hr,hD,hq⟩⟩
 ·cases e <;> first | exact hq.elim | exact hq _ hr
 ·exact hq.elim
theorem jML {c:Code} (ha:Rep ds n ρ a)
  (h:wpE (x:=⟨none,ds⟩) P n c (fun e ρ' w'=>match e with | .normal=>∀a',Rep ds n ρ' a'→Q .normal a' w' | .panic ch=>∀a',Rep ds n ρ' a'→Q (.panic ch) a' w' | _=>False) ρ w):c.wp P Q a w:=by
 refine wpIn_wide.1 (wpIn_mono (h a ha) ?_)
 rintro e a' w' ⟨ρ',⟨hr,hq⟩ | ⟨rfl,_,_,D,hr,hD,hq⟩⟩
 ·cases e <;> first | exact hq.elim | exact hq _ hr
 ·exact hq.elim
theorem jPR {id t:Nat} {f:FuncId} {caps:Array Operand} {ty ty':TypeId} {pos pos':String} {aft aft':Array Edge} {c2:Code} (ha:Rep ds n ρ a) (ht:t<n)
  (h:∀a',Rep (⟨.fn (.func f) (caps.map (evE ρ)),#[]⟩ :: ds) n (put ρ (some t) (.func (.func f) #[] (caps.map (evE ρ)))) a'→c2.wp P Q a' w) :
  (Code.seq (.region id #[⟨some t,.makeFunc (.func f) #[] caps,ty,pos,aft,none⟩,⟨none,.defer ⟨.value (.tmp t),#[],#[]⟩,ty',pos',aft',none⟩] false) c2).wp P Q a w:=by
 have h1:Rep ds n (put ρ (some t) (.func (.func f) #[] (caps.map (evE ρ)))) (a.put (some t) (.func (.func f) #[] (caps.map (evE ρ)))):=ha.put (fun k e=>by cases e;exact ht) _
 have h2:=h ({ (a.put (some t) (.func (.func f) #[] (caps.map (evE ρ)))) with defers:=⟨.fn (.func f) (caps.map (evE ρ)),#[]⟩ :: ds }.put none undef) ⟨rfl,h1.size,h1.get⟩
 refine wp_seq ((wpIn_wide (n:=0)).1 (wpIn_region_lit (l:=[_,_]) ?_))
 unfold wpListIn
 rw [if_pos (by simp [Region.wanted])]
 refine jDB (ro:=none) ⟨by simp,?_⟩
 rw [ha.eval]
 simp only [execOp,Instr.makeFunc]
 show wpListIn _ 0 P _ _ _ _ _
 unfold wpListIn
 rw [if_pos (by simp [Region.wanted])]
 refine ⟨fun f _=>trivial,?_⟩
 have hev:(a.put (some t) (.func (.func f) #[] (caps.map (evE ρ)))).eval (.tmp t)=.func (.func f) #[] (caps.map (evE ρ)):=by
  rw [h1.eval];simp [evE,put,upd]
 have hd:=h1.defers
 simp [Oper.semAt,Fence.wide,execOp,resolve,hev,Deferred.ofValue,Oper.uponIn,wpListIn,Exit.then,hd]
 exact h2
theorem jJU {f:FuncId} {fn:Func} {c:Code} {args:List Value} {R:Ending→World→Prop} (hf:P.funcs[f]?=some fn) (hb:fn.body=some c) (hn:fn.ntmps=n) (hl:args.length≤n)
  (h:∀a,Rep [] n (jID args) a→c.wp P (bodyPostD P fn R) a w):Calls P f args.toArray w R:=by
 subst hn;exact calls_of_wp_defers hf hb (h _ (jDY args hl))
inductive Recov:FrameMode→Value→FrameMode→Prop
 | idle:Recov .returning .nilIface .returning
 | hit (v:Value) (older:List PanicEntry):Recov (.panicking ({ v:=v,recovered:=false } :: older)) v (.panicking ({ v:=v,recovered:=true } :: older))
def bodyEN (P:Program) (fn:Func) (n:Nat) (R:Ending→World→Prop):Exit→Env→World→Prop
 | .normal,ρ,w=>∃v,(∀ds a,Rep ds n ρ a→(results fn a.tmps).run P w=.ok v w)∧R (.returned v) w
 | .panic ch,_,w=>R (.panicked ch) w
 | _,_,_=>False
theorem jAT {id t t2:Nat} {f:FuncId} {fn:Func} {c:Code} {args:List Value} {v:Value} {u u':FrameMode} {R:Ending→World→Prop} {ty ty':TypeId} {pos pos':String} {aft aft':Array Edge}
  (hu:Recov u v u') (hf:P.funcs[f]?=some fn)
  (hb:fn.body=some (Code.seq (.region id #[⟨some t,.call ⟨.builtin .recover,#[],#[]⟩,ty,pos,aft,none⟩,⟨some t2,.assign (.tmp t),ty',pos',aft',none⟩] false) c))
  (hn:fn.ntmps=n) (hl:args.length≤n) (ht:t<n) (ht2:t2<n)
  (h:wpE (x:=⟨none,[]⟩) P n c (bodyEN P fn n R) (put (put (jID args) (some t) v) (some t2) v) w) :
  CallsD P f args.toArray u w (fun e u1 w'=>u1=u'∧R e w'):=by
 subst hn
 refine callsD_of_wpS hf hb fun c₀ cs hm=>?_
 apply wpS_seq
 apply wpS_region
 have hr:=jDY args hl
 have h1:Rep [] fn.ntmps (put (jID args) (some t) v) _:=hr.put (d:=some t) (fun k e=>by cases e;exact ht) v
 have h2:Rep [] fn.ntmps (put (put (jID args) (some t) v) (some t2) v) _:=h1.put (d:=some t2) (fun k e=>by cases e;exact ht2) v
 have hv:((Act.mk (args.toArray++Array.replicate (fn.ntmps - args.toArray.size) undef) []).put (some t) v).eval (.tmp t)=v:=by
  rw [h1.eval];simp [evE,put,upd]
 have key:∀cs',cs'={ c₀ with mode:=u' } :: cs→c.wpS P (bodyPostS P fn c₀ cs fun e u1 w'=>u1=u'∧R e w') ((((Act.mk (args.toArray++Array.replicate (fn.ntmps - args.toArray.size) undef) []).put (some t) v)).put (some t2) v) cs' w:=by
  rintro cs' rfl;refine wpS_of_wp (jML h2 (jDX ?_ h));intro e ρ' w' hq;cases e with
  | normal =>
   intro a' ha'
   obtain ⟨x,hx,hR⟩:=hq
   exact ⟨ha'.defers,u',rfl,x,hx _ a' ha',rfl,hR⟩
  | panic ch =>
   intro a' ha'
   exact ⟨ha'.defers,u',rfl,rfl,hq⟩
  | _=>exact hq.elim
 have h0:(execOp (Act.mk (args.toArray++Array.replicate (fn.ntmps - args.toArray.size) undef) []).eval ⟨some t,.call ⟨.builtin .recover,#[],#[]⟩,ty,pos,aft,none⟩).run P w=.ok .recover w:=by
  simp [execOp,resolve,invoke,builtin]
 show wpOpsS P _ _ [0,1] _ _ _
 cases hu with
 | idle =>
  have hrd:recoverD (c₀ :: cs)=none:=by simp [recoverD,hm]
  simp only [wpOpsS,List.getElem?_toArray,List.getElem?_cons_zero,List.getElem?_cons_succ]
  rw [if_pos (by simp [Region.wanted]),h0]
  simp only [hrd]
  rw [if_pos (by simp [Region.wanted])]
  simp only [execOp,hv,Oper.upon]
  exact key _ (by cases c₀;simp_all)
 | hit v older =>
  have hrd:recoverD (c₀ :: cs)=some (v,{ c₀ with mode:=.panicking ({ v:=v,recovered:=true } :: older) } :: cs):=by simp [recoverD,hm]
  simp only [wpOpsS,List.getElem?_toArray,List.getElem?_cons_zero,List.getElem?_cons_succ]
  rw [if_pos (by simp [Region.wanted]),h0]
  simp only [hrd]
  rw [if_pos (by simp [Region.wanted])]
  simp only [execOp,hv,Oper.upon]
  exact key _ rfl
end
end Go.SE
end
section
open Go Go.SE
namespace Go.Proofs
open Tryz
attribute [local irreducible] Calls CallsD
theorem jNQ {P:Program} {ε:Operand→Value} {w:World} {d:Option Tmp} {ty:TypeId} {pos:String} {aft:Array Edge} {g:Option (Nat×Bool)} {x:Operand} {X T:TypeId} {v:Value} {td:TypeDesc} (hx:ε x=.iface T v) (ht:P.underlying T=some td) (hi:∀m,td≠.interface m) :
  (execOp ε ⟨d,.typeAssert x X T true,ty,pos,aft,g⟩).run P w=.ok (.value (.tuple #[v,.bool true])) w:=by
 simp only [execOp,hx]
 have:(Instr.typeAssert (.iface T v) X T true).run P w=.ok (.tuple #[v,.bool true]) w:=by
  unfold Instr.typeAssert;simp only [Sem.run_bind,run_underlying ht,Result.andThen];cases td <;> first | exact absurd rfl (hi _) | simp
 simp [this]
set_option maxRecDepth 100000 in
theorem jSA (pf pr:Addr) (w:World):CallsD prog 310 #[.pointer (some pf),.pointer (some pr)] .returning w (fun e u' w'=>u'=.returning∧(e=.returned (.tuple #[])∧w'=w)):=by
 refine jAT (args:=[.pointer (some pf),.pointer (some pr)]) (R:=fun e w'=>e=.returned (.tuple #[])∧w'=w) .idle func310 rfl ntmps310 (Nat.le_of_ble_eq_true rfl) (by decide) (by decide) ?_;refine zA ?_;refine rg ?_;refine q0 .nilIface ?_;refine q0 (.bool false) ?_;refine zD ?_;refine zN ?_;refine zB (t:=false) (by kernel_rfl) (fun hc1=>by cases hc1) (fun hc1=>?_);refine zC ?_;exact ⟨.tuple #[],fun ds a ha=>by rw [results_none results310],rfl,rfl⟩
set_option maxRecDepth 100000 in
theorem jUD (pf pr r:Addr) (from_ e:Int) (older:List PanicEntry) (w:World) (hf:w.cell? pf=some (.int .i64 from_)) (hr:w.cell? pr=some (.pointer (some r))) (h1:CanW w (r.add 1)) (h2:CanW w (r.add 2)) (h3:CanW w (r.add 3)) :
  CallsD prog 310 #[.pointer (some pf),.pointer (some pr)] (.panicking ({ v:=.iface 335 (.int .i64 e),recovered:=false } :: older)) w (fun e' u' w'=>u'=.panicking ({ v:=.iface 335 (.int .i64 e),recovered:=true } :: older) ∧
   (e'=.returned (.tuple #[])∧w'=((w.setCell (r.add 1) (.int .i64 from_)).setCell (r.add 2) (.int .i64 e)).setCell (r.add 3) (.int .i64 from_))):=by
 refine jAT (args:=[.pointer (some pf),.pointer (some pr)]) (R:=fun e' w'=>e'=.returned (.tuple #[])∧w'=((w.setCell (r.add 1) (.int .i64 from_)).setCell (r.add 2) (.int .i64 e)).setCell (r.add 3) (.int .i64 from_)) (.hit _ older) func310 rfl ntmps310 (Nat.le_of_ble_eq_true rfl) (by decide) (by decide) ?_
 refine zA ?_
 refine rg ?_
 refine q0 (.iface 335 (.int .i64 e)) ?_
 refine q0 (.bool true) ?_
 refine zD ?_
 refine zN ?_
 refine zB (t:=true) (by kernel_rfl) (fun hc1=>?_) (fun hc1=>by cases hc1)
 refine zA ?_
 refine rg ?_
 refine q0 (.iface 335 (.int .i64 e)) ?_
 refine q2 (.tuple #[.int .i64 e,.bool true]) (jNQ (by kernel_rfl) underlying335 (by intro m;simp)) ?_
 refine q0 (.tuple #[.int .i64 e,.bool true]) ?_
 refine q0 (.int .i64 e) ?_
 refine q0 (.bool true) ?_
 refine q0 (.int .i64 e) ?_
 refine q0 (.bool true) ?_
 refine zD ?_
 refine zN ?_
 refine zA ?_
 refine zA ?_
 refine rg ?_
 refine q0 (.bool true) ?_
 refine q0 (.bool false) ?_
 refine zD ?_
 refine zN ?_
 refine zB (t:=false) (by kernel_rfl) (fun hc1=>by cases hc1) (fun hc1=>?_)
 refine zC ?_
 refine zN ?_
 refine rg ?_
 refine q2 (.pointer (some r)) (lA (a:=pr) (by kernel_rfl) (isAgg228 _) hr) ?_
 refine q2 (.pointer (some r)) (lA (a:=pr) (by kernel_rfl) (isAgg228 _) hr) ?_
 refine q2 (.pointer (some r)) (lA (a:=pr) (by kernel_rfl) (isAgg228 _) hr) ?_
 refine q2 (.int .i64 from_) (lA (a:=pf) (by kernel_rfl) (isAgg3 _) hf) ?_
 refine q0 (.int .i64 e) ?_
 refine q2 (.int .i64 from_) (lA (a:=pf) (by kernel_rfl) (isAgg3 _) hf) ?_
 refine q0 (.pointer (some r)) ?_
 refine q0 (.pointer (some (r.add 1))) ?_
 refine uA (zJ rfl) (zT (a:=r.add 1) (v:=.int .i64 from_) (by kernel_rfl) (by kernel_rfl) rfl (sizeOf3 _) h1) ?_
 rintro w1 rfl
 refine q0 (.pointer (some r)) ?_
 refine q0 (.pointer (some (r.add 2))) ?_
 refine uA (zJ rfl) (zT (a:=r.add 2) (v:=.int .i64 e) (by kernel_rfl) (by kernel_rfl) rfl (sizeOf33 _) (CanW.setCell h2)) ?_
 rintro w2 rfl
 refine q0 (.pointer (some r)) ?_
 refine q0 (.pointer (some (r.add 3))) ?_
 refine uA (zJ rfl) (zT (a:=r.add 3) (v:=.int .i64 from_) (by kernel_rfl) (by kernel_rfl) rfl (sizeOf3 _) (CanW.setCell (CanW.setCell h3))) ?_
 rintro w3 rfl
 refine zD ?_
 exact ⟨.tuple #[],fun ds a ha=>by rw [results_none results310],rfl,rfl⟩
theorem jUM {P:Program} {w:World} {f:FuncId} {cap args:Array Value} (hc:∀args w,(callFunc f args).run P w=.ok (.enter f args) w) (h:cap=args):(invoke (.fn (.func f) cap) #[]).run P w=.ok (.enter f args) w:=by
 subst h;simp [invoke,hc]
set_option maxRecDepth 100000 in
theorem jCY (r:Addr) (do_:Value) (e:Int) (w0:World) (he:w0.cell? (r.add 2)=some (.int .i64 e)) (h0:e≠0) :
  Calls prog 288 #[.pointer (some r),do_] w0 (fun e w'=>e=.returned (.tuple #[])∧Pure w0 w'):=by
 refine jDN (args:=[.pointer (some r),do_]) func288 rfl ntmps288 (Nat.le_of_ble_eq_true rfl) ?_
 refine zA ?_
 refine rg ?_
 refine vR (O:=(.cells #[(.pointer (some r))] 228)) (fun p=>.pointer (some p)) (zJ rfl) (jVA (cs:=#[(.pointer (some r))]) (by kernel_rfl)) ?_
 intro p1 w1 hn1
 have E1:Pure w0 w1:=Ext.new hn1
 have hp1:w1.cell? p1=some (.pointer (some r)):=(Box.of_newA hn1).cell0
 have he1:=E1.cell he id
 refine zD ?_
 refine zN ?_
 refine zA ?_
 refine zA ?_
 refine rg ?_
 refine q2 (.pointer (some r)) (lA (a:=p1) (by kernel_rfl) (isAgg228 _) hp1) ?_
 refine q2 (.bool false) (qL (x:=some r) (by kernel_rfl) rfl underlying228) ?_
 refine q0 (.bool false) ?_
 refine q2 (.pointer (some r)) (lA (a:=p1) (by kernel_rfl) (isAgg228 _) hp1) ?_
 refine q0 (.pointer (some r)) ?_
 refine q0 (.pointer (some (r.add 2))) ?_
 refine q2 (.int .i64 e) (lA (a:=r.add 2) (by kernel_rfl) (isAgg33 _) he1) ?_
 refine q0 (.bool ((e:Int) != 0)) ?_
 refine q0 (.bool ((e:Int) != 0)) ?_
 refine zD ?_
 refine zN ?_
 refine zB (t:=true) (by rw [show ((e:Int) != 0)=true by simpa using h0];kernel_rfl) (fun hc1=>?_) (fun hc1=>by cases hc1)
 refine jPP ?_
 refine vL ?_
 exact jFP (.inl rfl) results288 ⟨rfl,E1⟩
set_option maxRecDepth 100000 in
theorem jLY (r:Addr) (fd:FuncId) (caps:Array Value) (at_:Int) (w0:World) (K:WP) (h1:w0.cell? (r.add 1)=some (.int .i64 at_)) (h2:w0.cell? (r.add 2)=some (.int .i64 0))
  (hc:∀args w,(callFunc fd args).run prog w=.ok (.enter fd args) w)
  (hdo:∀w1 p pf,Pure w0 w1→w0.heap.size≤Addr.block p→w0.heap.size≤Addr.block pf→w1.cell? p=some (.pointer (some r))→w1.cell? pf=some (.int .i64 at_) →
   Calls prog fd caps w1 (fun e w2=>(e=.returned (.tuple #[])∧K w2)∨∃x,e=.panicked [{ v:=.iface 335 (.int .i64 x),recovered:=false }]∧w2.cell? p=some (.pointer (some r))∧w2.cell? pf=some (.int .i64 at_)∧CanW w2 (r.add 1)∧CanW w2 (r.add 2)∧CanW w2 (r.add 3) ∧
    K (((w2.setCell (r.add 1) (.int .i64 at_)).setCell (r.add 2) (.int .i64 x)).setCell (r.add 3) (.int .i64 at_)))) :
  Calls prog 288 #[.pointer (some r),.func (.func fd) #[] caps] w0 (fun e w'=>e=.returned (.tuple #[])∧K w'):=by
 refine jJU (args:=[.pointer (some r),.func (.func fd) #[] caps]) func288 rfl ntmps288 (Nat.le_of_ble_eq_true rfl) ?_
 intro a ha
 refine jEI ha ?_
 refine rg ?_
 refine vR (O:=(.cells #[(.pointer (some r))] 228)) (fun p=>.pointer (some p)) (zJ rfl) (jVA (cs:=#[(.pointer (some r))]) (by kernel_rfl)) ?_
 intro p1 w1 hn1
 have E1:Pure w0 w1:=Ext.new hn1
 have hp1:w1.cell? p1=some (.pointer (some r)):=(Box.of_newA hn1).cell0
 have he1:=E1.cell h2 id
 have hb1:=hn1.at_size
 clear ha
 refine zD ?_
 intro a ha
 refine jEI ha ?_
 refine zA ?_
 refine rg ?_
 refine q2 (.pointer (some r)) (lA (a:=p1) (by kernel_rfl) (isAgg228 _) hp1) ?_
 refine q2 (.bool false) (qL (x:=some r) (by kernel_rfl) rfl underlying228) ?_
 refine q0 (.bool false) ?_
 refine q2 (.pointer (some r)) (lA (a:=p1) (by kernel_rfl) (isAgg228 _) hp1) ?_
 refine q0 (.pointer (some r)) ?_
 refine q0 (.pointer (some (r.add 2))) ?_
 refine q2 (.int .i64 0) (lA (a:=r.add 2) (by kernel_rfl) (isAgg33 _) he1) ?_
 refine q0 (.bool false) ?_
 refine q0 (.bool false) ?_
 refine zD ?_
 refine zN ?_
 refine zB (t:=false) (by kernel_rfl) (fun hc1=>by cases hc1) (fun hc1=>?_)
 refine zC ?_
 clear ha
 intro a ha
 refine jEI ha ?_
 refine rg ?_
 refine q2 (.pointer (some r)) (lA (a:=p1) (by kernel_rfl) (isAgg228 _) hp1) ?_
 refine q0 (.pointer (some r)) ?_
 refine q0 (.pointer (some (r.add 1))) ?_
 refine q2 (.int .i64 at_) (lA (a:=r.add 1) (by kernel_rfl) (isAgg3 _) (E1.cell h1 id)) ?_
 refine vR (O:=(.cells #[(.int .i64 0)] 3)) (fun p=>.pointer (some p)) (zJ rfl) (zO (zeroValue3 _) rfl) ?_
 intro p2 w2 hn2
 have E2:Pure w0 w2:=E1.trans (Ext.new hn2)
 have hb2:=hn2.at_size
 have B2:=Box.of_newA hn2
 refine uA (zJ rfl) (zT (a:=p2) (v:=.int .i64 at_) (by kernel_rfl) (by kernel_rfl) rfl (sizeOf3 _) (B2.canW0 (by simp))) ?_
 intro w3 hw3
 have hb3:=World.block_lt_of_cell? w1 p1 hp1
 have E3:Pure w0 w3:=E2.own (p:=p2) (by have:=E1.size;omega) (hw3▸Ext.setCell p2 _)
 have hp3:w3.cell? p1=some (.pointer (some r)):=by
  rw [hw3];exact (Ext.setCell p2 _).cell ((Ext.new (F:=None) hn2).cell hp1 id) (fun e=>by omega)
 have hf3:w3.cell? p2=some (.int .i64 at_):=by
  rw [hw3];exact (B2.set0).cell0
 refine zD ?_
 clear ha
 intro a ha
 refine jPR ha (by decide) ?_
 clear ha
 intro a ha
 refine jML ha ?_
 refine qM (by kernel_rfl) ?_
 refine qF 1 ?_
 refine q0 (.func (.func fd) #[] caps) ?_
 refine zD ?_
 refine jEN (zJ rfl) (by intro c hc;cases hc) (jPN (caps:=caps) (args:=#[]) (args':=caps) (by kernel_rfl) hc rfl (by simp)) ((hdo w3 p1 p2 E3 (by omega) (by have:=E1.size;omega) hp3 hf3).mono ?_)
 rintro e w4 (⟨rfl,hK⟩ | ⟨x,rfl,ha1,ha2,hw1,hw2,hw3',hK⟩)
 ·refine .inl ⟨_,rfl,?_⟩
  refine jSP ?_
  clear ha
  intro a ha
  show Leaves _ _ _ _ _ _ _
  rw [ha.defers]
  refine leaves_cons (f:=310) (args:=#[.pointer (some p2),.pointer (some p1)]) (by simp) (jUM call310 (by simp [evE,put,upd])) ?_
  refine (jSA p2 p1 w4).mono ?_
  rintro e u' w5 ⟨rfl,rfl,rfl⟩
  exact ⟨_,results_none results288 _ _ _,rfl,hK⟩
 ·refine .inr ⟨_,rfl,?_⟩
  intro ρ' 
  clear ha
  intro a ha
  show Leaves _ _ _ _ _ _ _
  rw [ha.defers]
  refine leaves_cons (f:=310) (args:=#[.pointer (some p2),.pointer (some p1)]) (by simp) (jUM call310 (by simp [evE,put,upd])) ?_
  refine (jUD p2 p1 r at_ x [] w4 ha2 ha1 hw1 hw2 hw3').mono ?_
  rintro e u' w5 ⟨rfl,rfl,rfl⟩
  exact ⟨_,results_none results288 _ _ _,rfl,hK⟩
structure RdAt (S:NP) (w:World) (a:Addr) (s:Sl) (bs:List UInt8) (at_ err spot:Int):Prop where
 box:Box w a [s.v,.int .i64 at_,.int .i64 err,.int .i64 spot] 299
 lst:Lst S w 1 s (byr bs)
 apart:∀b,S b→b≠a.block
 small:bs.length≤100000000000
 room:s.len≤s.cap
def jTW (e:Int):List PanicEntry:=[{ v:=.iface 335 (.int .i64 e),recovered:=false }]
section
variable {S:NP} {w w':World} {a:Addr} {s:Sl} {bs:List UInt8} {at_ err spot:Int}
theorem RdAt.ext {F:NP} (h:RdAt S w a s bs at_ err spot) (E:Ext F w w') (hF:∀b,S b→¬ F b) (ha:¬ F a.block):RdAt S w' a s bs at_ err spot :=
 ⟨h.box.ext E ha,h.lst.ext E hF,h.apart,h.small,h.room⟩
theorem RdAt.pure (h:RdAt S w a s bs at_ err spot) (E:Pure w w'):RdAt S w' a s bs at_ err spot:=h.ext E (fun _ _ h=>h) id
theorem RdAt.atC (h:RdAt S w a s bs at_ err spot):w.cell? (a.add 1)=some (.int .i64 at_):=h.box.cell (i:=1) rfl
theorem RdAt.errC (h:RdAt S w a s bs at_ err spot):w.cell? (a.add 2)=some (.int .i64 err):=h.box.cell (i:=2) rfl
theorem RdAt.setAt (h:RdAt S w a s bs at_ err spot) (k:Int):RdAt S (w.setCell (a.add 1) (.int .i64 k)) a s bs k err spot :=
 ⟨h.box.set 1 _,h.lst.ext (Ext.setCell _ _) (fun b hb e=>h.apart b hb (by rw [zX] at e;exact e)),h.apart,h.small,h.room⟩
theorem RdAt.setErr (h:RdAt S w a s bs at_ err spot) (k:Int):RdAt S (w.setCell (a.add 2) (.int .i64 k)) a s bs at_ k spot :=
 ⟨h.box.set 2 _,h.lst.ext (Ext.setCell _ _) (fun b hb e=>h.apart b hb (by rw [zX] at e;exact e)),h.apart,h.small,h.room⟩
theorem RdAt.setSpot (h:RdAt S w a s bs at_ err spot) (k:Int):RdAt S (w.setCell (a.add 3) (.int .i64 k)) a s bs at_ err k :=
 ⟨h.box.set 3 _,h.lst.ext (Ext.setCell _ _) (fun b hb e=>h.apart b hb (by rw [zX] at e;exact e)),h.apart,h.small,h.room⟩
theorem yG {k:Nat} {v:Value}:Ext (·=a.block) w (w.setCell (a.add k) v):=(Ext.setCell _ _).mono (fun i _ e=>by rw [zX] at e;exact e)
end
theorem jUP {S:NP} (a:Addr) (s:Sl) (bs:List UInt8) (at_:Nat) (err spot:Int) (w0:World) (h:RdAt S w0 a s bs at_ err spot) (hat:at_≤bs.length) :
  Calls prog 293 #[.pointer (some a)] w0 (fun e w'=>(∃hlt:at_<bs.length,e=.returned (.int .u8 (bs[at_].toNat:Int))∧RdAt S w' a s bs ((at_+1:Nat):Int) err spot∧Ext (·=a.block) w0 w') ∨
   (at_=bs.length∧e=.panicked (jTW 3)∧RdAt S w' a s bs at_ err spot∧Ext (·=a.block) w0 w')):=by
 refine (w_F1 (some a) w0 (fun o r w'=>(∃hlt:at_<bs.length,o=none∧r=(bs[at_].toNat:Int)∧RdAt S w' a s bs ((at_+1:Nat):Int) err spot∧Ext (·=a.block) w0 w')∨(at_=bs.length∧o=some (jTW 3)∧RdAt S w' a s bs at_ err spot∧Ext (·=a.block) w0 w')) ?_).mono ?_
 ·unfold m_F1
  refine ⟨a,rfl,fun w1 hs=>?_⟩
  have h1:=h.pure hs.first
  have hl:s.len=bs.length:=by rw [h.lst.len,qR]
  refine ⟨_,h1.atC,a,rfl,s,h1.box.cell0,fun hc=>?_,fun hc=>?_⟩
  ·have:at_=bs.length:=by have:=beq_iff_eq.1 hc;omega
   exact .inr ⟨this,rfl,h1,Ext.pure hs.first⟩
  ·have hne:at_≠bs.length:=by have:=beq_eq_false_iff_ne.1 hc;omega
   have hlt:at_<bs.length:=by omega
   unfold m_F1_j1
   refine ⟨a,rfl,_,h1.atC,a,rfl,h1.box.canW (i:=1) (by simp),id,?_⟩
   rintro w2 rfl
   have hw:IntKind.i64.wrap ((at_:Int)+1)=((at_+1:Nat):Int):=vV hlt (by have:=h.small;omega)
   rw [hw]
   have h2:=h1.setAt ((at_+1:Nat):Int)
   refine ⟨a,rfl,fun w3 hs3=>?_⟩
   have h3:=h2.pure hs3.ext
   have hw2:IntKind.i64.wrap (((at_+1:Nat):Int) - 1)=(at_:Int):=by
    rw [IntWalk.i64_in _ (by have:=h.small;omega)];omega
   obtain ⟨c,hc1,_,hc3⟩:=jSI h3.lst hlt
   refine ⟨s,h3.box.cell0,a,rfl,_,h3.atC,c,?_,_,hc3,.inl ⟨hlt,rfl,rfl,h3,((Ext.pure hs.first).trans yG).thenPure hs3.ext⟩⟩
   rw [hw2];exact hc1
 ·rintro e w' (⟨r,rfl,h⟩ | ⟨ch,rfl,h⟩)
  ·rcases h with ⟨hlt,_,rfl,h⟩ | ⟨_,h,_⟩
   ·exact .inl ⟨hlt,rfl,h⟩
   ·cases h
  ·rcases h with ⟨hlt,h,_⟩ | ⟨h1,h2,h⟩
   ·cases h
   ·cases h2;exact .inr ⟨h1,rfl,h⟩
theorem c_num {S:NP} (a:Addr) (s:Sl) (bs:List UInt8) (at_:Nat) (err spot:Int) (w0:World) (h:RdAt S w0 a s bs at_ err spot) (hat:at_≤bs.length) :
  Calls prog 290 #[.pointer (some a)] w0 (fun e w'=>(∃n k:Nat,xX 0 0 (bs.drop at_)=.ok (n,k)∧e=.returned (.int .u64 (n:Int))∧n<18446744073709551616∧at_+k≤bs.length∧RdAt S w' a s bs ((at_+k:Nat):Int) err spot∧Ext (·=a.block) w0 w') ∨
   (∃x:Nat,∃at':Int,xX 0 0 (bs.drop at_)=.error x∧e=.panicked (jTW x)∧RdAt S w' a s bs at' err spot∧Ext (·=a.block) w0 w')):=by
 refine (w_W (some a) w0 (fun o r w' => (∃ n k : Nat, xX 0 0 (bs.drop at_) = .ok (n, k) ∧ o = none ∧ r = (n : Int) ∧ n < 18446744073709551616 ∧ at_ + k ≤ bs.length ∧ RdAt S w' a s bs ((at_ + k : Nat) : Int) err spot ∧ Ext (· = a.block) w0 w') ∨
   (∃x:Nat,∃at':Int,xX 0 0 (bs.drop at_)=.error x∧o=some (jTW x)∧RdAt S w' a s bs at' err spot∧Ext (·=a.block) w0 w')) ?_).mono ?_
 ·unfold m_W
  refine ⟨fun n i w=>∃acc k:Nat,n=(acc:Int)∧i=(k:Int)∧k≤9∧acc<2 ^ (7*k)∧at_+k≤bs.length∧xX k acc (bs.drop (at_+k))=xX 0 0 (bs.drop at_)∧RdAt S w a s bs ((at_+k:Nat):Int) err spot∧Ext (·=a.block) w0 w,fun _ i _=>(10 - i).toNat,⟨0,0,rfl,rfl,by omega,by simp,by simpa using hat,rfl,by simpa using h,Ext.refl _⟩,?_⟩
  rintro _ _ wl ⟨acc,k,rfl,rfl,hk,hacc,hle,hrd,hR,hE⟩
  unfold m_W_l1
  refine (jUP a s bs (at_+k) err spot wl hR hle).mono ?_
  rintro e w1 (⟨hlt,rfl,hR1,hE1⟩ | ⟨heq,rfl,hR1,hE1⟩)
  ·refine .inl ⟨_,rfl,?_⟩
   have hdrop:bs.drop (at_+k)=bs[at_+k] :: bs.drop (at_+k+1):=List.drop_eq_getElem_cons hlt
   generalize hcc:bs[at_+k]=c at *
   have hc:=c.toNat_lt
   rw [hdrop,xH] at hrd
   refine ⟨fun hb=>?_,fun hb=>?_⟩
   ·have hb':k=9∧1<c.toNat:=by simp at hb;omega
    rw [if_pos hb'] at hrd
    exact .inr ⟨11,_,hrd.symm,rfl,hR1,hE.trans hE1⟩
   ·have hb':¬ (k=9∧1<c.toNat):=by intro hh;simp at hb;omega
    rw [if_neg hb'] at hrd
    have hpw:c.toNat % 128*2 ^ (7*k)<18446744073709551616:=by
     by_cases h9:k=9
     ·subst h9;omega
     ·have h8:2 ^ (7*k)≤2 ^ 56:=Nat.pow_le_pow_right (by omega) (by omega);have h127:c.toNat % 128≤127:=by omega
      calc c.toNat % 128*2 ^ (7*k)≤127*2 ^ 56:=Nat.mul_le_mul h127 h8
       _<18446744073709551616:=by decide
    have hac:acc<18446744073709551616:=Nat.lt_of_lt_of_le hacc (by
     calc 2 ^ (7*k)≤2 ^ 63:=Nat.pow_le_pow_right (by omega) (by omega)
      _≤18446744073709551616:=by decide)
    have h7:IntKind.i64.wrap (7*(k:Int))=((7*k:Nat):Int):=by rw [IntWalk.i64_in _ (by omega)];simp
    have h128:128 ^ k=2 ^ (7*k):=by rw [Nat.pow_mul]
    have hsum:acc ||| (c.toNat % 128*2 ^ (7*k))=acc+c.toNat % 128*2 ^ (7*k):=or_add hacc
    have hsl:acc+c.toNat % 128*2 ^ (7*k)<18446744073709551616:=by
     rw [← hsum];exact Nat.or_lt_two_pow (n:=64) hac hpw
    unfold m_W_j2
    rw [h7]
    refine ⟨_,jOG c.toNat hc,_,by rw [yP (by omega)];exact jVG _ _ (by omega) hpw,_,jSY _ _ hac hpw,?_⟩
    rw [hsum]
    refine ⟨fun hs=>?_,fun hs=>?_⟩
    ·have hs':c.toNat<128:=by have:=of_decide_eq_true hs;omega
     rw [if_pos hs'] at hrd
     refine ⟨fun hz=>?_,fun hz=>?_⟩
     ·have hz':c.toNat=0∧0<k:=by simp at hz;omega
      rw [if_pos hz'] at hrd
      exact .inr ⟨10,_,hrd.symm,rfl,hR1,hE.trans hE1⟩
     ·have hz':¬ (c.toNat=0∧0<k):=by intro hh;simp at hz;omega
      rw [if_neg hz',h128] at hrd
      rw [Nat.mod_eq_of_lt hs'] at hsl ⊢
      exact .inl ⟨_,k+1,hrd.symm,rfl,rfl,hsl,by omega,hR1,hE.trans hE1⟩
    ·have hs':¬ c.toNat<128:=by have:=of_decide_eq_false hs;omega
     rw [if_neg hs',h128] at hrd
     have hk9:k≠9:=by omega
     rw [vV (n:=10) (by omega) (by omega)]
     refine ⟨⟨_,k+1,rfl,rfl,by omega,?_,by omega,hrd,hR1,hE.trans hE1⟩,by show (10 - ((k+1:Nat):Int)).toNat<(10 - (k:Int)).toNat;omega⟩
     have:2 ^ (7*(k+1))=128*2 ^ (7*k):=by rw [Nat.mul_add,Nat.pow_add];omega
     rw [this]
     have h127:c.toNat % 128*2 ^ (7*k)≤127*2 ^ (7*k):=Nat.mul_le_mul_right _ (by omega)
     omega
  ·refine .inr ⟨_,rfl,.inr ⟨3,_,?_,rfl,hR1,hE.trans hE1⟩⟩
   rw [← hrd,heq,List.drop_length];rfl
 ·rintro e w' (⟨r,rfl,h⟩ | ⟨ch,rfl,h⟩)
  ·rcases h with ⟨n,k,h1,_,rfl,h⟩ | ⟨_,_,_,h,_⟩
   ·exact .inl ⟨n,k,h1,rfl,h⟩
   ·cases h
  ·rcases h with ⟨n,k,h1,h,_⟩ | ⟨x,at',h1,h2,h⟩
   ·cases h
   ·cases h2;exact .inr ⟨x,at',h1,rfl,h⟩
end Go.Proofs
end
