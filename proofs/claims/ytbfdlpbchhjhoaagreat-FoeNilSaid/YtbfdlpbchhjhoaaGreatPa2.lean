import Derived.Test.YtbfdlpbchhjhoaaGreatProg
import Derived.KernelRfl
import Derived.Test.YtbfdlpbchhjhoaaGreatPa1
import Derived.Laws.IdiomStrings
import Init.Data.Nat
import Derived.Recover
section
open Go Go.SE
open Go.IntKind renaming i64 → q6
namespace Go.Proofs
open Tryz
set_option maxRecDepth 100000
set_option maxHeartbeats 4000000
attribute [local irreducible] wpL wpX opE wpE Calls
def m_T2 (p1:Option Addr) (t1:Int) (w0:World) (K:Bool→WP):Prop :=Br (decide (t1≥1)) (∃a1:Addr,p1=some a1∧∃v1:Sl,w0.cell? a1=some v1.v∧K (decide (t1≤(v1.len:Int))) w0) (K false w0)
theorem w_T2 (p1:Option Addr) (t1:Int) (w0:World) (K:Bool→WP) (h:m_T2 p1 t1 w0 K) :
  Calls prog 122 #[(vp p1),(vi t1)] w0 (fun e w'=>∃r1:Bool,e=.returned (vb r1)∧K r1 w'):=by
 refine cw (args:=[(vp p1),(vi t1)]) func122 ntmps122 (eg (q0 (vb false) (ln (eg (q0 (vi t1) (q0 (vb (decide (t1≥1))) (q0 (vb (decide (t1≥1))) ?_)))))))
 obtain ⟨hg1,h⟩|⟨hg1,h⟩:=h.br
 refine qk 7 hg1 (qk 7 hg1 ?_)
 obtain ⟨a1,hp1,h⟩:=h
 refine q4 7 hg1 (xn hp1) (qk 7 hg1 ?_)
 obtain ⟨v1,hv1,h⟩:=h
 refine q4 7 hg1 (xl (isAgg49 _) hv1) (qk 7 hg1 (qk 7 hg1 (q2 (vb (decide (t1≤(v1.len:Int)))) (xT hg1) (q (ln (er (rs1 results122 ⟨(decide (t1≤(v1.len:Int))),rfl,h⟩)))))))
 refine sj 7 hg1 (sj 7 hg1 (sj 7 hg1 (sj 7 hg1 (sj 7 hg1 (sj 7 hg1 (sj 7 hg1 (q2 (vb false) (xF hg1) (q (ln (er ?_))))))))))
 refine rs1 results122 ⟨false,rfl,h⟩
def s_A (kind1:Int):Int :=(cond (kind1 == 4) 2 (cond (cond (kind1 == 5) (kind1 == 5) (cond (kind1 == 7) (kind1 == 7) (cond (kind1 == 8) (kind1 == 8) (kind1 == 9)))) 1 0))
theorem pw_A (kind1:Int) (w0:World) :
  Calls prog 73 #[(vi kind1)] w0 (fun e w'=>∃b'0 b'1:Bool,((kind1 == 4)=b'0∧(cond (kind1 == 5) (kind1 == 5) (cond (kind1 == 7) (kind1 == 7) (cond (kind1 == 8) (kind1 == 8) (kind1 == 9))))=b'1)∧(e=.returned (vi (cond b'0 2 (cond b'1 1 0))))∧Pure w0 w'):=by
 refine cw (args:=[(vi kind1)]) func73 ntmps73 (eg (q0 (vi 0) (ln (zA (eg (q0 (vi kind1) (ln ?_)))))))
 refine zJ (eg (qb (ln ?_)))
 refine vH (t:=(kind1 == 4)) (by kernel_rfl) (fun hc1=>?_) (fun hc1=>?_)
 refine eg (q (ln (er (uC (vF (rs1 results73 (v:=(vi 2)) ?_))))))
 exact ⟨true,_,⟨hc1,rfl⟩,by kernel_rfl,Ext.refl _⟩
 refine zA (eg (qb (ln ?_)))
 refine vK (fun ρ wJ=>∃b1'0 b1'1 b1'2:Bool,((kind1 == 5)=b1'0)∧((kind1 == 7)=b1'1)∧((kind1 == 8)=b1'2)∧w0=wJ∧Has ρ [(6,(vb (cond b1'0 (kind1 == 5) (cond b1'1 (kind1 == 7) (cond b1'2 (kind1 == 8) (kind1 == 9))))))]) ?_ ?_
 refine vH (t:=(kind1 == 5)) (by kernel_rfl) (fun hc5=>?_) (fun hc5=>?_)
 refine zC (zK ?_)
 exact ⟨true,_,_,hc5,rfl,rfl,rfl,hm⟩
 refine eg (qb (ln ?_))
 refine vH (t:=(kind1 == 7)) (by kernel_rfl) (fun hc6=>?_) (fun hc6=>?_)
 refine zC (zK ?_)
 exact ⟨false,true,_,hc5,hc6,rfl,rfl,hm⟩
 refine eg (qb (ln ?_))
 refine vH (t:=(kind1 == 8)) (by kernel_rfl) (fun hc7=>?_) (fun hc7=>?_)
 refine zC (zK ?_)
 exact ⟨false,false,true,hc5,hc6,hc7,rfl,hm⟩
 refine rg (qb (ln ?_))
 exact ⟨false,false,false,hc5,hc6,hc7,rfl,hm⟩
 rintro ρ w1 ⟨b1'0,b1'1,b1'2,he0,he1,he2,hw,hH⟩
 subst he0
 subst he1
 subst he2
 subst hw
 refine vD hH ?_
 refine zK ?_
 refine vH (t:=(cond (kind1 == 5) (kind1 == 5) (cond (kind1 == 7) (kind1 == 7) (cond (kind1 == 8) (kind1 == 8) (kind1 == 9))))) (by kernel_rfl) (fun hc8=>?_) (fun hc8=>?_)
 refine eg (q (ln (er (uC (vF (rs1 results73 (v:=(vi 1)) ?_))))))
 exact ⟨false,true,⟨hc1,hc8⟩,by kernel_rfl,Ext.refl _⟩
 refine zC (xW (zK (eg (q (ln (er (rs1 results73 (v:=(vi 0)) ?_)))))))
 exact ⟨false,false,⟨hc1,hc8⟩,by kernel_rfl,Ext.refl _⟩
theorem p_A (kind1:Int) (w0:World):Calls prog 73 #[(.int .i64 kind1)] w0 (fun e w'=>e=.returned (.int .i64 (s_A kind1))∧Pure w0 w'):=by
 refine (pw_A kind1 w0).mono ?_;rintro e w' ⟨b'0,b'1,⟨e0,e1⟩,h,E⟩;subst e0;subst e1;exact ⟨h,E⟩
def m_U2  (w0:World) (K:(Option Addr)→WP):Prop :=∀(p1:Addr) (w1:World),New w0 (.cells #[Sl.nil.v,Sl.nil.v,Sl.nil.v] 52) p1 w1→K (some p1) w1
theorem w_U2  (w0:World) (K:(Option Addr)→WP) (h:m_U2  w0 K) :
  Calls prog 54 #[] w0 (fun e w'=>∃r1:Option Addr,e=.returned (vp r1)∧K r1 w'):=by
 refine cw (args:=[]) func54 ntmps54 (eg (q0 (vp none) (ln (eg (q0 (.agg #[Sl.nil.v,Sl.nil.v,Sl.nil.v]) (sn (O:=(.cells #[Sl.nil.v,Sl.nil.v,Sl.nil.v] 52)) xb ?_))))))
 intro p1 w1 hn1
 have h:=h p1 w1 hn1
 refine q (ln (er (rs1 results54 ⟨(some p1),rfl,h⟩)))
def s_A2 (kind1:Int):Bool :=((kind1 == 8) || (kind1 == 9))
theorem pw_A2 (kind1:Int) (w0:World) :
  Calls prog 182 #[(vi kind1)] w0 (fun e w'=>(e=.returned (vb ((kind1 == 8) || (kind1 == 9))))∧Pure w0 w'):=by
 refine cw (args:=[(vi kind1)]) func182 ntmps182 (eg (q0 (vb false) (ln (zA ?_))))
 refine vK (fun ρ wJ=>w0=wJ∧Has ρ [(2,(vb ((kind1 == 8) || (kind1 == 9))))]) ?_ ?_
 refine rg (qc ?_)
 refine zI 3 (fun ρ wJ=>∃b3'0:Bool,((kind1 == 8)=b3'0)∧w0=wJ∧Has ρ [(8,(vb (b3'0 || (kind1 == 9))))]) ?_ ?_
 rintro ρ w3 ⟨b3'0,he0,hw,hH⟩
 subst he0
 subst hw
 refine zM hH ?_
 refine q (ln ?_)
 exact ⟨rfl,hm⟩
 rcases bte (kind1 == 8) with hg4 | hg4
 refine sj 5 hg4 (sj 5 hg4 (q2 (vb true) (xT hg4) (zB ?_)))
 exact ⟨true,hg4,rfl,hm⟩
 refine qk 5 hg4 (qk 5 hg4 (q2 (vb (kind1 == 9)) (xF hg4) (zB ?_)))
 exact ⟨false,hg4,rfl,hm⟩
 rintro ρ w2 ⟨hw,hH⟩
 subst hw
 refine vD hH ?_
 refine zK (er (rs1 results182 (v:=(vb ((kind1 == 8) || (kind1 == 9)))) ?_))
 exact ⟨by kernel_rfl,Ext.refl _⟩
theorem p_A2 (kind1:Int) (w0:World):Calls prog 182 #[(.int .i64 kind1)] w0 (fun e w'=>e=.returned (.bool (s_A2 kind1))∧Pure w0 w'):=pw_A2 kind1 w0
def s_D (kind1:Int):Bool :=((((kind1 == 1) || (kind1 == 6)) || (kind1 == 7)) || ((kind1 == 8) || (kind1 == 9)))
theorem pw_D (kind1:Int) (w0:World) :
  Calls prog 180 #[(vi kind1)] w0 (fun e w'=>(e=.returned (vb ((((kind1 == 1) || (kind1 == 6)) || (kind1 == 7)) || ((kind1 == 8) || (kind1 == 9)))))∧Pure w0 w'):=by
 refine cw (args:=[(vi kind1)]) func180 ntmps180 ?_
 obtain ⟨hs,hb⟩:=st0 w0
 refine eg (q (ln (zA ?_)))
 refine vK (fun ρ wJ=>∃HJ:NP,Hst w0 None w0 HJ wJ∧HB HJ wJ []∧Has ρ [(2,(vb ((((kind1 == 1) || (kind1 == 6)) || (kind1 == 7)) || ((kind1 == 8) || (kind1 == 9)))))]) ?_ ?_
 refine rg (qc ?_)
 refine zI 3 (fun ρ wJ=>∃b5'0:Bool,∃HJ:NP,((kind1 == 1)=b5'0)∧Hst w0 None w0 HJ wJ∧HB HJ wJ []∧Has ρ [(0,(vi kind1)),(8,(vb (b5'0 || (kind1 == 6))))]) ?_ ?_
 rintro ρ w7 ⟨b5'0,H5,he0,hs,hb,hH⟩
 subst he0
 refine zM hH ?_
 refine q ?_
 refine zI 3 (fun ρ wJ=>∃b6'0:Bool,∃HJ:NP,(((kind1 == 1) || (kind1 == 6))=b6'0)∧Hst w0 None w0 HJ wJ∧HB HJ wJ []∧Has ρ [(0,(vi kind1)),(12,(vb (b6'0 || (kind1 == 7))))]) ?_ ?_
 rintro ρ w8 ⟨b6'0,H6,he0,hs,hb,hH⟩
 subst he0
 refine zM hH ?_
 refine q ?_
 refine zI 3 (fun ρ wJ=>∃b7'0:Bool,∃HJ:NP,((((kind1 == 1) || (kind1 == 6)) || (kind1 == 7))=b7'0)∧Hst w0 None w0 HJ wJ∧HB HJ wJ []∧Has ρ [(16,(vb (b7'0 || ((kind1 == 8) || (kind1 == 9)))))]) ?_ ?_
 rintro ρ w10 ⟨b7'0,H7,he0,hs,hb,hH⟩
 subst he0
 refine zM hH ?_
 refine q (ln ?_)
 exact ⟨_,hs,hb,hm⟩
 rcases bte (((kind1 == 1) || (kind1 == 6)) || (kind1 == 7)) with hg12 | hg12
 refine sj 13 hg12 (sj 13 hg12 (q2 (vb true) (xT hg12) (zB ?_)))
 exact ⟨true,_,hg12,hs,hb,hm⟩
 refine qk 13 hg12 ?_
 refine kZ (wy 13 hg12) (xc call182) ((p_A2 kind1 w8).mono ?_)
 rintro e w11 ⟨he,hE⟩
 refine ⟨_,he,?_⟩
 obtain ⟨hs,hb⟩:=hs.pp hb hE
 refine q2 (vb ((kind1 == 8) || (kind1 == 9))) (xF hg12) (zB ?_)
 exact ⟨false,_,hg12,hs,hb,hm⟩
 rcases bte ((kind1 == 1) || (kind1 == 6)) with hg10 | hg10
 refine sj 9 hg10 (sj 9 hg10 (q2 (vb true) (xT hg10) (zB ?_)))
 exact ⟨true,_,hg10,hs,hb,hm⟩
 refine qk 9 hg10 (qk 9 hg10 (q2 (vb (kind1 == 7)) (xF hg10) (zB ?_)))
 exact ⟨false,_,hg10,hs,hb,hm⟩
 rcases bte (kind1 == 1) with hg8 | hg8
 refine sj 5 hg8 (sj 5 hg8 (q2 (vb true) (xT hg8) (zB ?_)))
 exact ⟨true,_,hg8,hs,hb,hm⟩
 refine qk 5 hg8 (qk 5 hg8 (q2 (vb (kind1 == 6)) (xF hg8) (zB ?_)))
 exact ⟨false,_,hg8,hs,hb,hm⟩
 rintro ρ w6 ⟨H4,hs,hb,hH⟩
 refine vD hH ?_
 refine zK (er (rs1 results180 (v:=(vb ((((kind1 == 1) || (kind1 == 6)) || (kind1 == 7)) || ((kind1 == 8) || (kind1 == 9))))) ?_))
 exact ⟨by kernel_rfl,(Ext.refl (F:=None) _).hst hs⟩
theorem p_D (kind1:Int) (w0:World):Calls prog 180 #[(.int .i64 kind1)] w0 (fun e w'=>e=.returned (.bool (s_D kind1))∧Pure w0 w'):=pw_D kind1 w0
def s_A1 (aA aB:Int) (aC aK:Int) (aJ:ByteArray) (aL aM:Int):Bool :=(!((decide (aA<1)) || (decide (aA>9))) && (((((((s_D aA) || (aB == 0)) && (((aA == 8) || (aA == 9)) || (aC == 0))) && ((aA == 2) || (aK == 0))) && ((aA == 3) || (decide (aJ=⟨#[]⟩)))) && ((decide ((s_A aA)≥1)) || (aL == 0))) && ((((s_A aA):Int) == 2) || (aM == 0))))
theorem pw_A1 (aA aB:Int) (aC aK:Int) (aJ:ByteArray) (aL aM:Int) (w0:World) :
  Calls prog 179 #[(.agg #[(vi aA),(vi aB),(vi aC),(vu aK),(vs aJ),(vi aL),(vi aM)])] w0 (fun e w'=>∃b'0:Bool,(((decide (aA<1)) || (decide (aA>9)))=b'0)∧(e=.returned (vb (!b'0 && (((((((s_D aA) || (aB == 0)) && (((aA == 8) || (aA == 9)) || (aC == 0))) && ((aA == 2) || (aK == 0))) && ((aA == 3) || (decide (aJ=⟨#[]⟩)))) && ((decide ((s_A aA)≥1)) || (aL == 0))) && ((((s_A aA):Int) == 2) || (aM == 0))))))∧Pure w0 w'):=by
 refine cw (args:=[(.agg #[(vi aA),(vi aB),(vi aC),(vu aK),(vs aJ),(vi aL),(vi aM)])]) func179 ntmps179 ?_
 obtain ⟨hs,hb⟩:=st0 w0
 refine eg (nw3 [(vi aA),(vi aB),(vi aC),(vu aK),(vs aJ),(vi aL),(vi aM)] 127 hs hb xb fun p1 w1 H1 hs hb=>?_)
 refine q (ln (zA (zA ?_)))
 refine vK (fun ρ wJ=>∃b1'0:Bool,∃HJ:NP,((decide (aA<1))=b1'0)∧Hst w0 None w0 HJ wJ∧HB HJ wJ [(p1,[(vi aA),(vi aB),(vi aC),(vu aK),(vs aJ),(vi aL),(vi aM)],127)]∧Has ρ [(1,(vp (some p1))),(10,(vb (b1'0 || (decide (aA>9)))))]) ?_ ?_
 refine rg (q (q3 (xl (isAgg3 _) (hb.d0 0 gZ)) (qb ?_)))
 rcases bte (decide (aA<1)) with hg2 | hg2
 refine sj 6 hg2 (sj 6 hg2 (sj 6 hg2 (q2 (vb true) (xT hg2) (ln ?_))))
 exact ⟨true,_,hg2,hs,hb,hm⟩
 refine qk 6 hg2 (q4 6 hg2 (xl (isAgg3 _) (hb.d0 0 gZ)) (qk 6 hg2 (q2 (vb (decide (aA>9))) (xF hg2) (ln ?_))))
 exact ⟨false,_,hg2,hs,hb,hm⟩
 rintro ρ w2 ⟨b1'0,H2,he0,hs,hb,hH⟩
 subst he0
 refine vD hH ?_
 refine zK ?_
 refine vH (t:=((decide (aA<1)) || (decide (aA>9)))) (by kernel_rfl) (fun hc1=>?_) (fun hc1=>?_)
 refine eg (q (ln (er (vF (rs1 results179 (v:=(vb false)) ?_)))))
 exact ⟨true,hc1,by kernel_rfl,(Ext.refl (F:=None) _).hst hs⟩
 refine zC (zK (zA ?_))
 refine vK (fun ρ wJ=>∃HJ:NP,Hst w0 None w0 HJ wJ∧HB HJ wJ [(p1,[(vi aA),(vi aB),(vi aC),(vu aK),(vs aJ),(vi aL),(vi aM)],127)]∧Has ρ [(2,(vb (((((((s_D aA) || (aB == 0)) && (((aA == 8) || (aA == 9)) || (aC == 0))) && ((aA == 2) || (aK == 0))) && ((aA == 3) || (decide (aJ=⟨#[]⟩)))) && ((decide ((s_A aA)≥1)) || (aL == 0))) && ((((s_A aA):Int) == 2) || (aM == 0)))))]) ?_ ?_
 refine rg (q (q3 (xl (isAgg3 _) (hb.d0 0 gZ)) ?_))
 refine sc call180 ((p_D aA w2).mono ?_)
 rintro e w27 ⟨he,hE⟩
 refine ⟨_,he,?_⟩
 obtain ⟨hs,hb⟩:=hs.pp hb hE
 refine q ?_
 refine zI 4 (fun ρ wJ=>∃b19'0:Bool,∃HJ:NP,((s_D aA)=b19'0)∧Hst w0 None w0 HJ wJ∧HB HJ wJ [(p1,[(vi aA),(vi aB),(vi aC),(vu aK),(vs aJ),(vi aL),(vi aM)],127)]∧Has ρ [(1,(vp (some p1))),(18,(vb (b19'0 || (aB == 0))))]) ?_ ?_
 rintro ρ w28 ⟨b19'0,H20,he0,hs,hb,hH⟩
 subst he0
 refine zM hH ?_
 refine q ?_
 refine zI 9 (fun ρ wJ=>∃b21'0:Bool,∃HJ:NP,(((s_D aA) || (aB == 0))=b21'0)∧Hst w0 None w0 HJ wJ∧HB HJ wJ [(p1,[(vi aA),(vi aB),(vi aC),(vu aK),(vs aJ),(vi aL),(vi aM)],127)]∧Has ρ [(1,(vp (some p1))),(28,(vb (b21'0 && (((aA == 8) || (aA == 9)) || (aC == 0)))))]) ?_ ?_
 rintro ρ w31 ⟨b21'0,H22,he0,hs,hb,hH⟩
 subst he0
 refine zM hH ?_
 refine q ?_
 refine zI 9 (fun ρ wJ=>∃b24'0:Bool,∃HJ:NP,((((s_D aA) || (aB == 0)) && (((aA == 8) || (aA == 9)) || (aC == 0)))=b24'0)∧Hst w0 None w0 HJ wJ∧HB HJ wJ [(p1,[(vi aA),(vi aB),(vi aC),(vu aK),(vs aJ),(vi aL),(vi aM)],127)]∧Has ρ [(1,(vp (some p1))),(38,(vb (b24'0 && ((aA == 2) || (aK == 0)))))]) ?_ ?_
 rintro ρ w35 ⟨b24'0,H25,he0,hs,hb,hH⟩
 subst he0
 refine zM hH ?_
 refine q ?_
 refine zI 9 (fun ρ wJ=>∃b27'0:Bool,∃HJ:NP,(((((s_D aA) || (aB == 0)) && (((aA == 8) || (aA == 9)) || (aC == 0))) && ((aA == 2) || (aK == 0)))=b27'0)∧Hst w0 None w0 HJ wJ∧HB HJ wJ [(p1,[(vi aA),(vi aB),(vi aC),(vu aK),(vs aJ),(vi aL),(vi aM)],127)]∧Has ρ [(1,(vp (some p1))),(48,(vb (b27'0 && ((aA == 3) || (decide (aJ=⟨#[]⟩))))))]) ?_ ?_
 rintro ρ w38 ⟨b27'0,H28,he0,hs,hb,hH⟩
 subst he0
 refine zM hH ?_
 refine q ?_
 refine zI 10 (fun ρ wJ=>∃b30'0:Bool,∃HJ:NP,((((((s_D aA) || (aB == 0)) && (((aA == 8) || (aA == 9)) || (aC == 0))) && ((aA == 2) || (aK == 0))) && ((aA == 3) || (decide (aJ=⟨#[]⟩))))=b30'0)∧Hst w0 None w0 HJ wJ∧HB HJ wJ [(p1,[(vi aA),(vi aB),(vi aC),(vu aK),(vs aJ),(vi aL),(vi aM)],127)]∧Has ρ [(1,(vp (some p1))),(59,(vb (b30'0 && ((decide ((s_A aA)≥1)) || (aL == 0)))))]) ?_ ?_
 rintro ρ w42 ⟨b30'0,H31,he0,hs,hb,hH⟩
 subst he0
 refine zM hH ?_
 refine q ?_
 refine zI 10 (fun ρ wJ=>∃b33'0:Bool,∃HJ:NP,(((((((s_D aA) || (aB == 0)) && (((aA == 8) || (aA == 9)) || (aC == 0))) && ((aA == 2) || (aK == 0))) && ((aA == 3) || (decide (aJ=⟨#[]⟩)))) && ((decide ((s_A aA)≥1)) || (aL == 0)))=b33'0)∧Hst w0 None w0 HJ wJ∧HB HJ wJ [(p1,[(vi aA),(vi aB),(vi aC),(vu aK),(vs aJ),(vi aL),(vi aM)],127)]∧Has ρ [(70,(vb (b33'0 && ((((s_A aA):Int) == 2) || (aM == 0)))))]) ?_ ?_
 rintro ρ w47 ⟨b33'0,H34,he0,hs,hb,hH⟩
 subst he0
 refine zM hH ?_
 refine q (ln ?_)
 exact ⟨_,hs,hb,hm⟩
 rcases bte ((((((s_D aA) || (aB == 0)) && (((aA == 8) || (aA == 9)) || (aC == 0))) && ((aA == 2) || (aK == 0))) && ((aA == 3) || (decide (aJ=⟨#[]⟩)))) && ((decide ((s_A aA)≥1)) || (aL == 0))) with hg64 | hg64
 refine qk 60 hg64 (q4 60 hg64 (xl (isAgg3 _) (hb.d0 0 gZ)) ?_)
 refine kZ (wy 60 hg64) (xc call73) ((p_A aA w42).mono ?_)
 rintro e w48 ⟨he,hE⟩
 refine ⟨_,he,?_⟩
 obtain ⟨hs,hb⟩:=hs.pp hb hE
 refine qk 60 hg64 (qk 60 hg64 ?_)
 refine zI 4 (fun ρ wJ=>∃b34'0:Bool,∃HJ:NP,((((s_A aA):Int) == 2)=b34'0)∧Hst w0 None w0 HJ wJ∧HB HJ wJ [(p1,[(vi aA),(vi aB),(vi aC),(vu aK),(vs aJ),(vi aL),(vi aM)],127)]∧Has ρ [(60,(vb ((((((s_D aA) || (aB == 0)) && (((aA == 8) || (aA == 9)) || (aC == 0))) && ((aA == 2) || (aK == 0))) && ((aA == 3) || (decide (aJ=⟨#[]⟩)))) && ((decide ((s_A aA)≥1)) || (aL == 0))))),(69,(vb (b34'0 || (aM == 0))))]) ?_ ?_
 rintro ρ w49 ⟨b34'0,H35,he0,hs,hb,hH⟩
 subst he0
 refine zM hH ?_
 refine q2 (vb ((((s_A aA):Int) == 2) || (aM == 0))) (xT hg64) (zB ?_)
 exact ⟨true,_,hg64,hs,hb,hm⟩
 rcases bte (((s_A aA):Int) == 2) with hg66 | hg66
 refine sj 65 hg66 (sj 65 hg66 (sj 65 hg66 (stq (v:=(vb true)) (wy 60 hg64) (xT hg66) (zB ?_))))
 exact ⟨true,_,hg66,hs,hb,hm⟩
 refine qk 65 hg66 (q4 65 hg66 (xl (isAgg78 _) (hb.d 0 6 gZ)) (qk 65 hg66 (stq (v:=(vb (aM == 0))) (wy 60 hg64) (xF hg66) (zB ?_))))
 exact ⟨false,_,hg66,hs,hb,hm⟩
 refine sj 60 hg64 (sj 60 hg64 (sj 60 hg64 (sj 60 hg64 (sj 60 hg64 (sm (sm (sm (sj 60 hg64 (q2 (vb false) (xF hg64) (zB ?_))))))))))
 exact ⟨false,_,hg64,hs,hb,hm⟩
 rcases bte (((((s_D aA) || (aB == 0)) && (((aA == 8) || (aA == 9)) || (aC == 0))) && ((aA == 2) || (aK == 0))) && ((aA == 3) || (decide (aJ=⟨#[]⟩)))) with hg58 | hg58
 refine qk 49 hg58 (q4 49 hg58 (xl (isAgg3 _) (hb.d0 0 gZ)) ?_)
 refine kZ (wy 49 hg58) (xc call73) ((p_A aA w38).mono ?_)
 rintro e w43 ⟨he,hE⟩
 refine ⟨_,he,?_⟩
 obtain ⟨hs,hb⟩:=hs.pp hb hE
 refine qk 49 hg58 (qk 49 hg58 ?_)
 refine zI 4 (fun ρ wJ=>∃b31'0:Bool,∃HJ:NP,((decide ((s_A aA)≥1))=b31'0)∧Hst w0 None w0 HJ wJ∧HB HJ wJ [(p1,[(vi aA),(vi aB),(vi aC),(vu aK),(vs aJ),(vi aL),(vi aM)],127)]∧Has ρ [(1,(vp (some p1))),(49,(vb (((((s_D aA) || (aB == 0)) && (((aA == 8) || (aA == 9)) || (aC == 0))) && ((aA == 2) || (aK == 0))) && ((aA == 3) || (decide (aJ=⟨#[]⟩)))))),(58,(vb (b31'0 || (aL == 0))))]) ?_ ?_
 rintro ρ w44 ⟨b31'0,H32,he0,hs,hb,hH⟩
 subst he0
 refine zM hH ?_
 refine q2 (vb ((decide ((s_A aA)≥1)) || (aL == 0))) (xT hg58) (zB ?_)
 exact ⟨true,_,hg58,hs,hb,hm⟩
 rcases bte (decide ((s_A aA)≥1)) with hg60 | hg60
 refine sj 54 hg60 (sj 54 hg60 (sj 54 hg60 (stq (v:=(vb true)) (wy 49 hg58) (xT hg60) (zB ?_))))
 exact ⟨true,_,hg60,hs,hb,hm⟩
 refine qk 54 hg60 (q4 54 hg60 (xl (isAgg78 _) (hb.d 0 5 gZ)) (qk 54 hg60 (stq (v:=(vb (aL == 0))) (wy 49 hg58) (xF hg60) (zB ?_))))
 exact ⟨false,_,hg60,hs,hb,hm⟩
 refine sj 49 hg58 (sj 49 hg58 (sj 49 hg58 (sj 49 hg58 (sj 49 hg58 (sm (sm (sm (sj 49 hg58 (q2 (vb false) (xF hg58) (zB ?_))))))))))
 exact ⟨false,_,hg58,hs,hb,hm⟩
 rcases bte ((((s_D aA) || (aB == 0)) && (((aA == 8) || (aA == 9)) || (aC == 0))) && ((aA == 2) || (aK == 0))) with hg52 | hg52
 refine qk 39 hg52 (q4 39 hg52 (xl (isAgg3 _) (hb.d0 0 gZ)) (qk 39 hg52 (qk 39 hg52 ?_)))
 refine zI 4 (fun ρ wJ=>∃b28'0:Bool,∃HJ:NP,((aA == 3)=b28'0)∧Hst w0 None w0 HJ wJ∧HB HJ wJ [(p1,[(vi aA),(vi aB),(vi aC),(vu aK),(vs aJ),(vi aL),(vi aM)],127)]∧Has ρ [(1,(vp (some p1))),(39,(vb ((((s_D aA) || (aB == 0)) && (((aA == 8) || (aA == 9)) || (aC == 0))) && ((aA == 2) || (aK == 0))))),(47,(vb (b28'0 || (decide (aJ=⟨#[]⟩)))))]) ?_ ?_
 rintro ρ w39 ⟨b28'0,H29,he0,hs,hb,hH⟩
 subst he0
 refine zM hH ?_
 refine q2 (vb ((aA == 3) || (decide (aJ=⟨#[]⟩)))) (xT hg52) (zB ?_)
 exact ⟨true,_,hg52,hs,hb,hm⟩
 rcases bte (aA == 3) with hg54 | hg54
 refine sj 43 hg54 (sj 43 hg54 (sj 43 hg54 (stq (v:=(vb true)) (wy 39 hg52) (xT hg54) (zB ?_))))
 exact ⟨true,_,hg54,hs,hb,hm⟩
 refine qk 43 hg54 (q4 43 hg54 (xl (isAgg9 _) (hb.d 0 4 gZ)) (stq (v:=(vb (decide (aJ=⟨#[]⟩)))) (wy 43 hg54) (jKX (by kernel_rfl) (by kernel_rfl)) (stq (v:=(vb (decide (aJ=⟨#[]⟩)))) (wy 39 hg52) (xF hg54) (zB ?_))))
 exact ⟨false,_,hg54,hs,hb,hm⟩
 refine sj 39 hg52 (sj 39 hg52 (sj 39 hg52 (sj 39 hg52 (sm (sm (sm (sj 39 hg52 (q2 (vb false) (xF hg52) (zB ?_)))))))))
 exact ⟨false,_,hg52,hs,hb,hm⟩
 rcases bte (((s_D aA) || (aB == 0)) && (((aA == 8) || (aA == 9)) || (aC == 0))) with hg46 | hg46
 refine qk 29 hg46 (q4 29 hg46 (xl (isAgg3 _) (hb.d0 0 gZ)) (qk 29 hg46 (qk 29 hg46 ?_)))
 refine zI 4 (fun ρ wJ=>∃b25'0:Bool,∃HJ:NP,((aA == 2)=b25'0)∧Hst w0 None w0 HJ wJ∧HB HJ wJ [(p1,[(vi aA),(vi aB),(vi aC),(vu aK),(vs aJ),(vi aL),(vi aM)],127)]∧Has ρ [(1,(vp (some p1))),(29,(vb (((s_D aA) || (aB == 0)) && (((aA == 8) || (aA == 9)) || (aC == 0))))),(37,(vb (b25'0 || (aK == 0))))]) ?_ ?_
 rintro ρ w36 ⟨b25'0,H26,he0,hs,hb,hH⟩
 subst he0
 refine zM hH ?_
 refine q2 (vb ((aA == 2) || (aK == 0))) (xT hg46) (zB ?_)
 exact ⟨true,_,hg46,hs,hb,hm⟩
 rcases bte (aA == 2) with hg48 | hg48
 refine sj 33 hg48 (sj 33 hg48 (sj 33 hg48 (stq (v:=(vb true)) (wy 29 hg46) (xT hg48) (zB ?_))))
 exact ⟨true,_,hg48,hs,hb,hm⟩
 refine qk 33 hg48 (q4 33 hg48 (xl (isAgg23 _) (hb.d 0 3 gZ)) (qk 33 hg48 (stq (v:=(vb (aK == 0))) (wy 29 hg46) (xF hg48) (zB ?_))))
 exact ⟨false,_,hg48,hs,hb,hm⟩
 refine sj 29 hg46 (sj 29 hg46 (sj 29 hg46 (sj 29 hg46 (sm (sm (sm (sj 29 hg46 (q2 (vb false) (xF hg46) (zB ?_)))))))))
 exact ⟨false,_,hg46,hs,hb,hm⟩
 rcases bte ((s_D aA) || (aB == 0)) with hg40 | hg40
 refine qk 19 hg40 (q4 19 hg40 (xl (isAgg3 _) (hb.d0 0 gZ)) ?_)
 refine kZ (wy 19 hg40) (xc call182) ((p_A2 aA w28).mono ?_)
 rintro e w32 ⟨he,hE⟩
 refine ⟨_,he,?_⟩
 obtain ⟨hs,hb⟩:=hs.pp hb hE
 refine qk 19 hg40 ?_
 refine zI 4 (fun ρ wJ=>∃b22'0:Bool,∃HJ:NP,(((aA == 8) || (aA == 9))=b22'0)∧Hst w0 None w0 HJ wJ∧HB HJ wJ [(p1,[(vi aA),(vi aB),(vi aC),(vu aK),(vs aJ),(vi aL),(vi aM)],127)]∧Has ρ [(1,(vp (some p1))),(19,(vb ((s_D aA) || (aB == 0)))),(27,(vb (b22'0 || (aC == 0))))]) ?_ ?_
 rintro ρ w33 ⟨b22'0,H23,he0,hs,hb,hH⟩
 subst he0
 refine zM hH ?_
 refine q2 (vb (((aA == 8) || (aA == 9)) || (aC == 0))) (xT hg40) (zB ?_)
 exact ⟨true,_,hg40,hs,hb,hm⟩
 rcases bte ((aA == 8) || (aA == 9)) with hg42 | hg42
 refine sj 23 hg42 (sj 23 hg42 (sj 23 hg42 (stq (v:=(vb true)) (wy 19 hg40) (xT hg42) (zB ?_))))
 exact ⟨true,_,hg42,hs,hb,hm⟩
 refine qk 23 hg42 (q4 23 hg42 (xl (isAgg3 _) (hb.d 0 2 gZ)) (qk 23 hg42 (stq (v:=(vb (aC == 0))) (wy 19 hg40) (xF hg42) (zB ?_))))
 exact ⟨false,_,hg42,hs,hb,hm⟩
 refine sj 19 hg40 (sj 19 hg40 (sj 19 hg40 (sj 19 hg40 (sm (sm (sm (sj 19 hg40 (q2 (vb false) (xF hg40) (zB ?_)))))))))
 exact ⟨false,_,hg40,hs,hb,hm⟩
 rcases bte (s_D aA) with hg36 | hg36
 refine sj 14 hg36 (sj 14 hg36 (sj 14 hg36 (q2 (vb true) (xT hg36) (zB ?_))))
 exact ⟨true,_,hg36,hs,hb,hm⟩
 refine qk 14 hg36 (q4 14 hg36 (xl (isAgg3 _) (hb.d 0 1 gZ)) (qk 14 hg36 (q2 (vb (aB == 0)) (xF hg36) (zB ?_))))
 exact ⟨false,_,hg36,hs,hb,hm⟩
 rintro ρ w26 ⟨H19,hs,hb,hH⟩
 refine vD hH ?_
 refine zK (er (rs1 results179 (v:=(vb (((((((s_D aA) || (aB == 0)) && (((aA == 8) || (aA == 9)) || (aC == 0))) && ((aA == 2) || (aK == 0))) && ((aA == 3) || (decide (aJ=⟨#[]⟩)))) && ((decide ((s_A aA)≥1)) || (aL == 0))) && ((((s_A aA):Int) == 2) || (aM == 0))))) ?_))
 exact ⟨false,hc1,by kernel_rfl,(Ext.refl (F:=None) _).hst hs⟩
theorem p_A1 (aA aB:Int) (aC aK:Int) (aJ:ByteArray) (aL aM:Int) (w0:World):Calls prog 179 #[(.agg #[(.int .i64 aA),(.int .i64 aB),(.int .i64 aC),(.int .u64 aK),(.string aJ),(.int .i64 aL),(.int .i64 aM)])] w0 (fun e w'=>e=.returned (.bool (s_A1 aA aB aC aK aJ aL aM))∧Pure w0 w'):=by
 refine (pw_A1 aA aB aC aK aJ aL aM w0).mono ?_;rintro e w' ⟨b'0,e0,h,E⟩;subst e0;exact ⟨h,E⟩
def s_B2 (n1:Int):Bool :=((decide (n1≥0)) && (decide (n1<16)))
theorem pw_B2 (n1:Int) (w0:World) :
  Calls prog 181 #[(vi n1)] w0 (fun e w'=>(e=.returned (vb ((decide (n1≥0)) && (decide (n1<16)))))∧Pure w0 w'):=by
 refine cw (args:=[(vi n1)]) func181 ntmps181 (eg (q0 (vb false) (ln (zA ?_))))
 refine vK (fun ρ wJ=>w0=wJ∧Has ρ [(2,(vb ((decide (n1≥0)) && (decide (n1<16)))))]) ?_ ?_
 refine rg (qc ?_)
 refine zI 3 (fun ρ wJ=>∃b3'0:Bool,((decide (n1≥0))=b3'0)∧w0=wJ∧Has ρ [(8,(vb (b3'0 && (decide (n1<16)))))]) ?_ ?_
 rintro ρ w3 ⟨b3'0,he0,hw,hH⟩
 subst he0
 subst hw
 refine zM hH ?_
 refine q (ln ?_)
 exact ⟨rfl,hm⟩
 rcases bte (decide (n1≥0)) with hg4 | hg4
 refine qk 5 hg4 (qk 5 hg4 (q2 (vb (decide (n1<16))) (xT hg4) (zB ?_)))
 exact ⟨true,hg4,rfl,hm⟩
 refine sj 5 hg4 (sj 5 hg4 (q2 (vb false) (xF hg4) (zB ?_)))
 exact ⟨false,hg4,rfl,hm⟩
 rintro ρ w2 ⟨hw,hH⟩
 subst hw
 refine vD hH ?_
 refine zK (er (rs1 results181 (v:=(vb ((decide (n1≥0)) && (decide (n1<16))))) ?_))
 exact ⟨by kernel_rfl,Ext.refl _⟩
theorem p_B2 (n1:Int) (w0:World):Calls prog 181 #[(.int .i64 n1)] w0 (fun e w'=>e=.returned (.bool (s_B2 n1))∧Pure w0 w'):=pw_B2 n1 w0
def s_J (aA aB:Int) (aC aK:Int) (aJ:ByteArray) (aL aM:Int):Int :=(cond (!(s_A1 aA aB aC aK aJ aL aM)) 53 (cond (((s_D aA) && (!((decide (aB≥0)) && (decide (aB<16))))) || (((aA == 8) || (aA == 9)) && ((!((decide (aC≥0)) && (decide (aC<16)))) || (aB == aC)))) 50 (cond (decide ((aJ.size:Int)>64)) 1 0)))
theorem pw_J (aA aB:Int) (aC aK:Int) (aJ:ByteArray) (aL aM:Int) (w0:World) :
  Calls prog 130 #[(.agg #[(vi aA),(vi aB),(vi aC),(vu aK),(vs aJ),(vi aL),(vi aM)])] w0 (fun e w'=>∃b'0 b'1 b'2:Bool,((!(s_A1 aA aB aC aK aJ aL aM))=b'0∧(((s_D aA) && (!((decide (aB≥0)) && (decide (aB<16))))) || (((aA == 8) || (aA == 9)) && ((!((decide (aC≥0)) && (decide (aC<16)))) || (aB == aC))))=b'1∧(decide ((aJ.size:Int)>64))=b'2)∧(e=.returned (vi (cond b'0 53 (cond b'1 50 (cond b'2 1 0)))))∧Pure w0 w'):=by
 refine cw (args:=[(.agg #[(vi aA),(vi aB),(vi aC),(vu aK),(vs aJ),(vi aL),(vi aM)])]) func130 ntmps130 ?_
 obtain ⟨hs,hb⟩:=st0 w0
 refine eg (nw3 [(vi aA),(vi aB),(vi aC),(vu aK),(vs aJ),(vi aL),(vi aM)] 127 hs hb xb fun p1 w1 H1 hs hb=>?_)
 refine q (ln (zA (eg (q2 (.agg #[(vi aA),(vi aB),(vi aC),(vu aK),(vs aJ),(vi aL),(vi aM)]) (xa p1 [(vi aA),(vi aB),(vi aC),(vu aK),(vs aJ),(vi aL),(vi aM)] (isAgg127 _) (sizeOf127 _) (hb.r0 0 7 gZ)) ?_))))
 refine sc call179 ((p_A1 aA aB aC aK aJ aL aM w1).mono ?_)
 rintro e w2 ⟨he,hE⟩
 refine ⟨_,he,?_⟩
 obtain ⟨hs,hb⟩:=hs.pp hb hE
 refine q (ln ?_)
 refine vH (t:=(!(s_A1 aA aB aC aK aJ aL aM))) (by kernel_rfl) (fun hc1=>?_) (fun hc1=>?_)
 refine eg (q (ln (er (vF (rs1 results130 (v:=(vi 53)) ?_)))))
 exact ⟨true,_,_,⟨hc1,rfl,rfl⟩,by kernel_rfl,(Ext.refl (F:=None) _).hst hs⟩
 refine zC (zK (zA (zA ?_)))
 refine vK (fun ρ wJ=>∃b5'0:Bool,∃HJ:NP,(((s_D aA) && (!((decide (aB≥0)) && (decide (aB<16)))))=b5'0)∧Hst w0 None w0 HJ wJ∧HB HJ wJ [(p1,[(vi aA),(vi aB),(vi aC),(vu aK),(vs aJ),(vi aL),(vi aM)],127)]∧Has ρ [(1,(vp (some p1))),(32,(vb (b5'0 || (((aA == 8) || (aA == 9)) && ((!((decide (aC≥0)) && (decide (aC<16)))) || (aB == aC))))))]) ?_ ?_
 refine rg (q (q3 (xl (isAgg3 _) (hb.d0 0 gZ)) ?_))
 refine sc call180 ((p_D aA w2).mono ?_)
 rintro e w14 ⟨he,hE⟩
 refine ⟨_,he,?_⟩
 obtain ⟨hs,hb⟩:=hs.pp hb hE
 refine q ?_
 refine zI 5 (fun ρ wJ=>∃b6'0:Bool,∃HJ:NP,((s_D aA)=b6'0)∧Hst w0 None w0 HJ wJ∧HB HJ wJ [(p1,[(vi aA),(vi aB),(vi aC),(vu aK),(vs aJ),(vi aL),(vi aM)],127)]∧Has ρ [(1,(vp (some p1))),(14,(vb (b6'0 && (!((decide (aB≥0)) && (decide (aB<16)))))))]) ?_ ?_
 rintro ρ w16 ⟨b6'0,H7,he0,hs,hb,hH⟩
 subst he0
 refine zM hH ?_
 refine q ?_
 rcases bte ((s_D aA) && (!((decide (aB≥0)) && (decide (aB<16))))) with hg12 | hg12
 refine sj 15 hg12 (sj 15 hg12 (sj 15 hg12 (sj 15 hg12 (sm (sm (sm (sm (sm (sm (sm (sm ?_)))))))))))
 refine sm (sm (sm (sj 15 hg12 (q2 (vb true) (xT hg12) (ln ?_)))))
 exact ⟨true,_,hg12,hs,hb,hm⟩
 refine qk 15 hg12 (q4 15 hg12 (xl (isAgg3 _) (hb.d0 0 gZ)) ?_)
 refine kZ (wy 15 hg12) (xc call182) ((p_A2 aA w16).mono ?_)
 rintro e w18 ⟨he,hE⟩
 refine ⟨_,he,?_⟩
 obtain ⟨hs,hb⟩:=hs.pp hb hE
 refine qk 15 hg12 ?_
 refine zI 12 (fun ρ wJ=>∃b8'0:Bool,∃HJ:NP,(((aA == 8) || (aA == 9))=b8'0)∧Hst w0 None w0 HJ wJ∧HB HJ wJ [(p1,[(vi aA),(vi aB),(vi aC),(vu aK),(vs aJ),(vi aL),(vi aM)],127)]∧Has ρ [(1,(vp (some p1))),(15,(vb ((s_D aA) && (!((decide (aB≥0)) && (decide (aB<16))))))),(31,(vb (b8'0 && ((!((decide (aC≥0)) && (decide (aC<16)))) || (aB == aC)))))]) ?_ ?_
 rintro ρ w21 ⟨b8'0,H9,he0,hs,hb,hH⟩
 subst he0
 refine zM hH ?_
 refine q2 (vb (((aA == 8) || (aA == 9)) && ((!((decide (aC≥0)) && (decide (aC<16)))) || (aB == aC)))) (xF hg12) (ln ?_)
 exact ⟨false,_,hg12,hs,hb,hm⟩
 rcases bte ((aA == 8) || (aA == 9)) with hg16 | hg16
 refine qk 19 hg16 (q4 19 hg16 (xl (isAgg3 _) (hb.d 0 2 gZ)) ?_)
 refine kZ (wy 19 hg16) (xc call181) ((p_B2 aC w18).mono ?_)
 rintro e w22 ⟨he,hE⟩
 refine ⟨_,he,?_⟩
 obtain ⟨hs,hb⟩:=hs.pp hb hE
 refine qk 19 hg16 (qk 19 hg16 ?_)
 refine zI 6 (fun ρ wJ=>∃b9'0:Bool,∃HJ:NP,((!((decide (aC≥0)) && (decide (aC<16))))=b9'0)∧Hst w0 None w0 HJ wJ∧HB HJ wJ [(p1,[(vi aA),(vi aB),(vi aC),(vu aK),(vs aJ),(vi aL),(vi aM)],127)]∧Has ρ [(1,(vp (some p1))),(15,(vb ((s_D aA) && (!((decide (aB≥0)) && (decide (aB<16))))))),(19,(vb ((aA == 8) || (aA == 9)))),(30,(vb (b9'0 || (aB == aC))))]) ?_ ?_
 rintro ρ w23 ⟨b9'0,H10,he0,hs,hb,hH⟩
 subst he0
 refine zM hH ?_
 refine stq (v:=(vb ((!((decide (aC≥0)) && (decide (aC<16)))) || (aB == aC)))) (wy 15 hg12) (xT hg16) (zB ?_)
 exact ⟨true,_,hg16,hs,hb,hm⟩
 rcases bte (!((decide (aC≥0)) && (decide (aC<16)))) with hg18 | hg18
 refine sj 24 hg18 (sj 24 hg18 (sj 24 hg18 (sj 24 hg18 (sj 24 hg18 (stq (v:=(vb true)) (wy 19 hg16) (xT hg18) (zB ?_))))))
 exact ⟨true,_,hg18,hs,hb,hm⟩
 refine qk 24 hg18 (q4 24 hg18 (xl (isAgg3 _) (hb.d 0 1 gZ)) (qk 24 hg18 (q4 24 hg18 (xl (isAgg3 _) (hb.d 0 2 gZ)) (qk 24 hg18 (stq (v:=(vb (aB == aC))) (wy 19 hg16) (xF hg18) (zB ?_))))))
 exact ⟨false,_,hg18,hs,hb,hm⟩
 refine sj 19 hg16 (sj 19 hg16 (sj 19 hg16 (sj 19 hg16 (sj 19 hg16 (sm (sm (sm (sm (sm (sj 19 hg16 (stq (v:=(vb false)) (wy 15 hg12) (xF hg16) ?_)))))))))))
 refine zB ?_
 exact ⟨false,_,hg16,hs,hb,hm⟩
 rcases bte (s_D aA) with hg11 | hg11
 refine qk 9 hg11 (q4 9 hg11 (xl (isAgg3 _) (hb.d 0 1 gZ)) ?_)
 refine kZ (wy 9 hg11) (xc call181) ((p_B2 aB w14).mono ?_)
 rintro e w17 ⟨he,hE⟩
 refine ⟨_,he,?_⟩
 obtain ⟨hs,hb⟩:=hs.pp hb hE
 refine qk 9 hg11 (q2 (vb (!((decide (aB≥0)) && (decide (aB<16))))) (xT hg11) (zB ?_))
 exact ⟨true,_,hg11,hs,hb,hm⟩
 refine sj 9 hg11 (sj 9 hg11 (sj 9 hg11 (sj 9 hg11 (q2 (vb false) (xF hg11) (zB ?_)))))
 exact ⟨false,_,hg11,hs,hb,hm⟩
 rintro ρ w13 ⟨b5'0,H6,he0,hs,hb,hH⟩
 subst he0
 refine vD hH ?_
 refine zK ?_
 refine vH (t:=(((s_D aA) && (!((decide (aB≥0)) && (decide (aB<16))))) || (((aA == 8) || (aA == 9)) && ((!((decide (aC≥0)) && (decide (aC<16)))) || (aB == aC))))) (by kernel_rfl) (fun hc2=>?_) (fun hc2=>?_)
 refine eg (q (ln (er (vF (rs1 results130 (v:=(vi 50)) ?_)))))
 exact ⟨false,true,_,⟨hc1,hc2,rfl⟩,by kernel_rfl,(Ext.refl (F:=None) _).hst hs⟩
 refine zC (zK (zA (eg (q (q3 (xl (isAgg9 _) (hb.d 0 4 gZ)) (qb (ln ?_)))))))
 refine vH (t:=(decide ((aJ.size:Int)>64))) (by kernel_rfl) (fun hc3=>?_) (fun hc3=>?_)
 refine eg (q (ln (er (vF (rs1 results130 (v:=(vi 1)) ?_)))))
 exact ⟨false,false,true,⟨hc1,hc2,hc3⟩,by kernel_rfl,(Ext.refl (F:=None) _).hst hs⟩
 refine zC (zK (eg (q (ln (er (rs1 results130 (v:=(vi 0)) ?_))))))
 exact ⟨false,false,false,⟨hc1,hc2,hc3⟩,by kernel_rfl,(Ext.refl (F:=None) _).hst hs⟩
theorem p_J (aA aB:Int) (aC aK:Int) (aJ:ByteArray) (aL aM:Int) (w0:World):Calls prog 130 #[(.agg #[(.int .i64 aA),(.int .i64 aB),(.int .i64 aC),(.int .u64 aK),(.string aJ),(.int .i64 aL),(.int .i64 aM)])] w0 (fun e w'=>e=.returned (.int .i64 (s_J aA aB aC aK aJ aL aM))∧Pure w0 w'):=by
 refine (pw_J aA aB aC aK aJ aL aM w0).mono ?_;rintro e w' ⟨b'0,b'1,b'2,⟨e0,e1,e2⟩,h,E⟩;subst e0;subst e1;subst e2;exact ⟨h,E⟩
def m_V2 (p1:Option Addr) (t1:Int) (w0:World) (K:Int→WP):Prop :=Calls prog 122 #[(vp p1),(vi t1)] w0 (fun e w1=>∃r1:Bool,e=.returned (vb r1)∧Br (!r1) (K 0 w1) (∃a1:Addr,p1=some a1∧∃v1:Sl,w1.cell? (a1.add 1)=some v1.v∧∃a2:Addr,At v1 (q6.wrap (t1 - 1)) 1 a2∧∃v2:Int,w1.cell? a2=some (vi v2)∧K v2 w1))
theorem w_V2 (p1:Option Addr) (t1:Int) (w0:World) (K:Int→WP) (h:m_V2 p1 t1 w0 K) :
  Calls prog 123 #[(vp p1),(vi t1)] w0 (fun e w'=>∃r2:Int,e=.returned (vi r2)∧K r2 w'):=by
 refine cw (args:=[(vp p1),(vi t1)]) func123 ntmps123 (eg (q0 (vi 0) (ln (zA (eg (q0 (vp p1) (q0 (vi t1) ?_)))))))
 refine sc call122 (h.mono fun e w1 ⟨r1,k,h⟩=>⟨_,k,?_⟩)
 refine q (ln ?_)
 refine cbr h ?_ ?_<;>intro h
 refine eg (q (ln (er (vF (rs1 results123 ⟨0,rfl,h⟩)))))
 refine zC (zK (eg (q ?_)))
 refine qm h fun a1 h=>q ?_
 refine ql (isAgg50 _) h fun v1 h=>qb ?_
 refine qi (runUnderlying50 _) (sizeOf3 _) h fun a2 h=>?_
 refine ql (isAgg3 _) h fun v2 h=>q (ln (er (rs1 results123 ⟨v2,rfl,h⟩)))
def m_W2 (p1:Option Addr) (t1:Int) (w0:World) (K:Int→WP):Prop :=Calls prog 122 #[(vp p1),(vi t1)] w0 (fun e w1=>∃r1:Bool,e=.returned (vb r1)∧Br (!r1) (K 0 w1) (∃a1:Addr,p1=some a1∧∃v1:Sl,w1.cell? (a1.add 2)=some v1.v∧∃a2:Addr,At v1 (q6.wrap (t1 - 1)) 1 a2∧∃v2:Int,w1.cell? a2=some (vi v2)∧K v2 w1))
theorem w_W2 (p1:Option Addr) (t1:Int) (w0:World) (K:Int→WP) (h:m_W2 p1 t1 w0 K) :
  Calls prog 131 #[(vp p1),(vi t1)] w0 (fun e w'=>∃r2:Int,e=.returned (vi r2)∧K r2 w'):=by
 refine cw (args:=[(vp p1),(vi t1)]) func131 ntmps131 (eg (q0 (vi 0) (ln (zA (eg (q0 (vp p1) (q0 (vi t1) ?_)))))))
 refine sc call122 (h.mono fun e w1 ⟨r1,k,h⟩=>⟨_,k,?_⟩)
 refine q (ln ?_)
 refine cbr h ?_ ?_<;>intro h
 refine eg (q (ln (er (vF (rs1 results131 ⟨0,rfl,h⟩)))))
 refine zC (zK (eg (q ?_)))
 refine qm h fun a1 h=>q ?_
 refine ql (isAgg50 _) h fun v1 h=>qb ?_
 refine qi (runUnderlying50 _) (sizeOf3 _) h fun a2 h=>?_
 refine ql (isAgg3 _) h fun v2 h=>q (ln (er (rs1 results131 ⟨v2,rfl,h⟩)))
theorem xY (a0 a1:Int) (a2 a3:Int) (a4:ByteArray) (a5 a6:Int) (b0 b1:Int) (b2 b3:Int) (b4:ByteArray) (b5 b6:Int) (w:World):(Go.binOp .eql 127 (.agg #[(.int .i64 a0),(.int .i64 a1),(.int .i64 a2),(.int .u64 a3),(.string a4),(.int .i64 a5),(.int .i64 a6)]) (.agg #[(.int .i64 b0),(.int .i64 b1),(.int .i64 b2),(.int .u64 b3),(.string b4),(.int .i64 b5),(.int .i64 b6)])).run prog w=.ok (.bool ((a0 == b0) && ((a1 == b1) && ((a2 == b2) && ((a3 == b3) && ((decide (a4=b4)) && ((a5 == b5) && (a6 == b6)))))))) w:=by
 simp [Go.binOp,Op.equal,Op.maxDepth,go_sem,jSV,bne]
 repeat' split
 all_goals simp_all
def m_F1_l1 (p1:Option Addr) (aA aB:Int) (aC aK:Int) (aJ:ByteArray) (aL aM i1:Int) (w0:World) (Hl1:NP) (wl1:World) (Kc1:Int→NP→WP) (K:Int→Bool→WP):Prop :=∃a1:Addr,p1=some a1∧∃v1:Sl,wl1.cell? a1=some v1.v∧Br (decide (i1<(v1.len:Int))) (∃a2:Addr,p1=some a2∧∀(w2:World),Hst w0 Hl1 wl1 Hl1 w2→∃v2:Sl,w2.cell? a2=some v2.v∧∃a3:Addr,At v2 i1 7 a3∧∃aO aP:Int,∃aQ aR:Int,∃aS:ByteArray,∃bN bO:Int,Row w2 a3 [(vi aO),(vi aP),(vi aQ),(vu aR),(vs aS),(vi bN),(vi bO)]∧Br ((aO == aA) && ((aP == aB) && ((aQ == aC) && ((aR == aK) && ((decide (aS=aJ)) && ((bN == aL) && (bO == aM))))))) (K (q6.wrap (i1+1)) true w2) (Kc1 (q6.wrap (i1+1)) Hl1 w2)) (K 0 false wl1)
def m_F1 (p1:Option Addr) (aA aB:Int) (aC aK:Int) (aJ:ByteArray) (aL aM:Int) (w0:World) (K:Int→Bool→WP):Prop :=∀(H1:NP) (w1:World),Hst w0 None w0 H1 w1→∃(I1:Int→NP→WP) (mu1:Int→World→Nat),I1 0 H1 w1∧∀(i1:Int) (Hl1:NP) (wl1:World),Hst w0 Hl1 wl1 Hl1 wl1→I1 i1 Hl1 wl1→m_F1_l1 p1 aA aB aC aK aJ aL aM i1 w0 Hl1 wl1 (fun y'0 H' w'=>I1 y'0 H' w'∧mu1 y'0 w'<mu1 i1 wl1) K
theorem w_F1 (p1:Option Addr) (aA aB:Int) (aC aK:Int) (aJ:ByteArray) (aL aM:Int) (w0:World) (K:Int→Bool→WP) (h:m_F1 p1 aA aB aC aK aJ aL aM w0 K) :
  Calls prog 132 #[(vp p1),(.agg #[(vi aA),(vi aB),(vi aC),(vu aK),(vs aJ),(vi aL),(vi aM)])] w0 (fun e w'=>∃r1:Int,∃r2:Bool,e=.returned (.tuple #[(vi r1),(vb r2)])∧K r1 r2 w'):=by
 refine cw (args:=[(vp p1),(.agg #[(vi aA),(vi aB),(vi aC),(vu aK),(vs aJ),(vi aL),(vi aM)])]) func132 ntmps132 ?_
 obtain ⟨hs,hb⟩:=st0 w0
 refine eg (nw3 [(vi aA),(vi aB),(vi aC),(vu aK),(vs aJ),(vi aL),(vi aM)] 127 hs hb xb fun p2 w1 H1 hs hb=>?_)
 refine qb (ln (zA (eg (q (ln (zJ ?_))))))
 have ⟨h,hs⟩:=hs.hr (h H1 w1)
 obtain ⟨I1,mu1,h0,hr⟩:=h
 refine vP (σ:=Int×NP×World) (fun s ρ w=>w=s.2.2∧Has ρ [(0,(vp p1)),(3,(vp (some p2))),(6,(vi s.1))]∧Hst w0 s.2.1 w s.2.1 w∧HB s.2.1 w [(p2,[(vi aA),(vi aB),(vi aC),(vu aK),(vs aJ),(vi aL),(vi aM)],127)]∧I1 s.1 s.2.1 s.2.2) (fun s=>mu1 s.1 s.2.2) (0,H1,w1) ⟨rfl,hm,hs,hb,h0⟩ ?_
 rintro ⟨i1,Hl1,wl1⟩ ρ w ⟨hw,hH,hs,hb,hI⟩
 dsimp only at hw hH hs hb;subst w
 have h:=hr i1 Hl1 wl1 hs hI
 refine zW hH ?_
 refine zA (eg (qb ?_))
 refine qm h fun a1 h=>q ?_
 refine ql (isAgg49 _) h fun v1 h=>qb (ln ?_)
 refine cbr h ?_ ?_<;>intro h
 refine zC (zK (zA (zJ (zA (qE (by kernel_rfl) (by kernel_rfl) (by kernel_rfl) (by kernel_rfl) ?_)))))
 intro w2 hw2
 have hs:Hst w0 Hl1 wl1 Hl1 w2:=by rw [hw2];exact hs.drew
 have hb:HB Hl1 w2 [(p2,[(vi aA),(vi aB),(vi aC),(vu aK),(vs aJ),(vi aL),(vi aM)],127)]:=by rw [hw2];exact hb.drew
 refine qq 0 (vp p1) Kp0 (qg 1 ?_)
 obtain ⟨a2,hp2,h⟩:=h
 refine sxQ Kp1 (zL rfl) rfl (xn hp2) (qq 2 (vp (some a2)) Kp2 (qg 3 ?_))
 have ⟨h,hs⟩:=hs.hr (h w2)
 obtain ⟨v2,hv3,h⟩:=h
 refine sxQ Kp3 (zL rfl) rfl (xl (isAgg49 _) hv3) (qq 4 (vi i1) Kp4 (qg 5 ?_))
 obtain ⟨a3,hv2,h⟩:=h
 refine sxQ Kp5 (zL rfl) rfl (xi (runUnderlying49 _) (sizeOf127 _) hv2) (qg 6 ?_)
 obtain ⟨aO,aP,aQ,aR,aS,bN,bO,hv1,h⟩:=h
 refine sxQ (v:=(.agg #[(vi aO),(vi aP),(vi aQ),(vu aR),(vs aS),(vi bN),(vi bO)])) Kp6 (zL rfl) rfl (xa a3 [(vi aO),(vi aP),(vi aQ),(vu aR),(vs aS),(vi bN),(vi bO)] (isAgg127 _) (sizeOf127 _) hv1) (qr 7 (.agg #[(vi aA),(vi aB),(vi aC),(vu aK),(vs aJ),(vi aL),(vi aM)]) Kp7 (xa p2 [(vi aA),(vi aB),(vi aC),(vu aK),(vs aJ),(vi aL),(vi aM)] (isAgg127 _) (sizeOf127 _) (hb.r0 0 7 gZ)) (qr 8 (vb ((aO == aA) && ((aP == aB) && ((aQ == aC) && ((aR == aK) && ((decide (aS=aJ)) && ((bN == aL) && (bO == aM)))))))) Kp8 (jVG (by kernel_rfl) (by kernel_rfl) (by kernel_rfl) (xY aO aP aQ aR aS bN bO aA aB aC aK aJ aL aM _)) (wn (zK ?_))))
 refine cbr h ?_ ?_<;>intro h
 refine eg (qd (ln (er (uC (vF (vF ?_))))))
 refine uC (vF (xO (.inl rfl) results132 (v:=(vi (q6.wrap (i1+1)))) (by kernel_rfl) (v':=(vb true)) (by kernel_rfl) ?_))
 exact ⟨(q6.wrap (i1+1)),true,rfl,h⟩
 refine zC (xW (zK (rg (qc (ln ?_)))))
 exact ⟨((q6.wrap (i1+1)),Hl1,w2),⟨rfl,hm,hs,hb,h.1⟩,h.2⟩
 refine vO (uU (uU (uY (zK (eg (q0 (vi 0) (q0 (vb false) (ln (er ?_)))))))))
 refine xO (.inl rfl) results132 (v:=(vi 0)) (by kernel_rfl) (v':=(vb false)) (by kernel_rfl) ?_
 exact ⟨0,false,rfl,h⟩
def m_P_j1 (p1:Option Addr) (aA aB:Int) (aC aK:Int) (aJ:ByteArray) (aL aM:Int) (x1:Bool) (w0:World) (H:NP) (w:World) (K:Int→Int→WP):Prop :=Br x1 (K 0 51 w) (∃C1:WP,C1 w.drew∧∀w4,w4=w.drew→Calls prog 123 #[(vp p1),(vi aL)] w4 (fun e w5=>∃r1:Int,e=.returned (vi r1)∧C1 w5∧Kept H w4 w5∧Calls prog 123 #[(vp p1),(vi aM)] w5 (fun e w6=>∃r2:Int,e=.returned (vi r2)∧C1 w6∧Kept H w5 w6∧∃C2:WP,C2 w6.drew∧∀w7,w7=w6.drew→Calls prog 131 #[(vp p1),(vi aL)] w7 (fun e w8=>∃r3:Int,e=.returned (vi r3)∧C2 w8∧Kept H w7 w8∧Calls prog 131 #[(vp p1),(vi aM)] w8 (fun e w9=>∃r4:Int,e=.returned (vi r4)∧C2 w9∧Kept H w8 w9∧∃z1:Int,(∀w',C2 w'→(Builtin.max_ #[3,3] 3 #[(vi r3),(vi r4)]).run prog w'=.ok (vi z1) w')∧∀y1:Bool,y1=((decide ((q6.wrap ((q6.wrap (1+r1))+r2))>4096)) || (decide ((q6.wrap (1+z1))>64)))→Br y1 (∀(H2:NP) (w10:World),Hst w0 H w9 H2 w10→K 0 52 w10) (∀(H2:NP) (w10:World),Hst w0 H w9 H2 w10→Calls prog 132 #[(vp p1),(.agg #[(vi aA),(vi aB),(vi aC),(vu aK),(vs aJ),(vi aL),(vi aM)])] w10 (fun e w11=>∃r5:Int,∃r6:Bool,e=.returned (.tuple #[(vi r5),(vb r6)])∧Kept H2 w10 w11∧Br r6 (K r5 0 w11) (∃a1:Addr,p1=some a1∧∃v1:Sl,w11.cell? a1=some v1.v∧Br (decide ((v1.len:Int)≥65536)) (K 0 6 w11) (∃C3:WP,C3 w11.drew∧∀w12,w12=w11.drew→∃a2:Addr,p1=some a2∧∃v2:Sl,(∀w',C3 w'→w'.cell? a2=some v2.v)∧∀(p3:Addr) (w13:World),New w12 (.cells #[(vi aA),(vi aB),(vi aC),(vu aK),(vs aJ),(vi aL),(vi aM)] 127) p3 w13→C3 w13∧∃s1:Sl,∃w14:World,(Builtin.append_ #[49,49] 49 #[v2.v,(Sl.mk (some p3) 1 1).v]).run prog w13=.ok s1.v w14∧C3 w14∧Kept H2 w13 w14∧∃a3:Addr,p1=some a3∧CanW w14 a3∧¬ H2 a3.block∧∀w15:World,w15=w14.setCell a3 s1.v→∃a4:Addr,p1=some a4∧∃v3:Sl,w15.cell? (a4.add 1)=some v3.v∧∀(p4:Addr) (w16:World),New w15 (.cells #[(vi (q6.wrap ((q6.wrap (1+r1))+r2)))] 3) p4 w16→∃s2:Sl,∃w17:World,(Builtin.append_ #[50,50] 50 #[v3.v,(Sl.mk (some p4) 1 1).v]).run prog w16=.ok s2.v w17∧Kept H2 w16 w17∧∃a5:Addr,p1=some a5∧CanW w17 (a5.add 1)∧¬ H2 (a5.add 1).block∧∀w18:World,w18=w17.setCell (a5.add 1) s2.v→∃a6:Addr,p1=some a6∧∃v4:Sl,w18.cell? (a6.add 2)=some v4.v∧∀(p5:Addr) (w19:World),New w18 (.cells #[(vi (q6.wrap (1+z1)))] 3) p5 w19→∃s3:Sl,∃w20:World,(Builtin.append_ #[50,50] 50 #[v4.v,(Sl.mk (some p5) 1 1).v]).run prog w19=.ok s3.v w20∧Kept H2 w19 w20∧∃a7:Addr,p1=some a7∧CanW w20 (a7.add 2)∧¬ H2 (a7.add 2).block∧∀w21:World,w21=w20.setCell (a7.add 2) s3.v→∃a8:Addr,p1=some a8∧∃v5:Sl,w21.cell? a8=some v5.v∧K (v5.len:Int) 0 w21)))))))))
def m_P_j2 (p1:Option Addr) (aA aB:Int) (aC aK:Int) (aJ:ByteArray) (aL aM:Int) (x2:Bool) (w0:World) (H:NP) (w:World) (K:Int→Int→WP):Prop :=Br x2 (m_P_j1 p1 aA aB aC aK aJ aL aM true w0 H w K) (Br (((s_A aA):Int) == 2) (Calls prog 122 #[(vp p1),(vi aM)] w (fun e w22=>∃r7:Bool,e=.returned (vb r7)∧Kept H w w22∧m_P_j1 p1 aA aB aC aK aJ aL aM (!r7) w0 H w22 K)) (m_P_j1 p1 aA aB aC aK aJ aL aM false w0 H w K))
def m_P (p1:Option Addr) (aA aB:Int) (aC aK:Int) (aJ:ByteArray) (aL aM:Int) (w0:World) (K:Int→Int→WP):Prop :=Br (((s_J aA aB aC aK aJ aL aM):Int) != 0) (∀(H1:NP) (w2:World),Hst w0 None w0 H1 w2→K 0 (s_J aA aB aC aK aJ aL aM) w2) (Br (decide ((s_A aA)≥1)) (∀(H1:NP) (w3:World),Hst w0 None w0 H1 w3→Calls prog 122 #[(vp p1),(vi aL)] w3 (fun e w23=>∃r8:Bool,e=.returned (vb r8)∧Kept H1 w3 w23∧m_P_j2 p1 aA aB aC aK aJ aL aM (!r8) w0 H1 w23 K)) (∀(H1:NP) (w3:World),Hst w0 None w0 H1 w3→m_P_j2 p1 aA aB aC aK aJ aL aM false w0 H1 w3 K))
theorem w_P (p1:Option Addr) (aA aB:Int) (aC aK:Int) (aJ:ByteArray) (aL aM:Int) (w0:World) (K:Int→Int→WP) (h:m_P p1 aA aB aC aK aJ aL aM w0 K) :
  Calls prog 68 #[(vp p1),(.agg #[(vi aA),(vi aB),(vi aC),(vu aK),(vs aJ),(vi aL),(vi aM)])] w0 (fun e w'=>∃r9 r10:Int,e=.returned (.tuple #[(vi r9),(vi r10)])∧K r9 r10 w'):=by
 refine cw (args:=[(vp p1),(.agg #[(vi aA),(vi aB),(vi aC),(vu aK),(vs aJ),(vi aL),(vi aM)])]) func68 ntmps68 ?_
 obtain ⟨hs,hb⟩:=st0 w0
 refine eg (nw3 [(vi aA),(vi aB),(vi aC),(vu aK),(vs aJ),(vi aL),(vi aM)] 127 hs hb xb fun p2 w1 H1 hs hb=>?_)
 refine qb (ln (eg (q2 (.agg #[(vi aA),(vi aB),(vi aC),(vu aK),(vs aJ),(vi aL),(vi aM)]) (xa p2 [(vi aA),(vi aB),(vi aC),(vu aK),(vs aJ),(vi aL),(vi aM)] (isAgg127 _) (sizeOf127 _) (hb.r0 0 7 gZ)) ?_)))
 refine sc call130 ((p_J aA aB aC aK aJ aL aM w1).mono ?_)
 rintro e w2 ⟨he,hE⟩
 refine ⟨_,he,?_⟩
 obtain ⟨hs,hb⟩:=hs.pp hb hE
 refine q (ln (zA (eg (qb (ln ?_)))))
 refine cbr h ?_ ?_<;>intro h
 refine eg (qc (ln (er (vF ?_))))
 have ⟨h,hs⟩:=hs.hr (h H1 w2)
 refine xO (.inl rfl) results68 (v:=(vi 0)) (by kernel_rfl) (v':=(vi (s_J aA aB aC aK aJ aL aM))) (by kernel_rfl) ?_
 exact ⟨0,(s_J aA aB aC aK aJ aL aM),rfl,h⟩
 refine zC (zK (eg (q (q3 (xl (isAgg3 _) (hb.d0 0 gZ)) ?_))))
 refine sc call73 ((p_A aA w2).mono ?_)
 rintro e w3 ⟨he,hE⟩
 refine ⟨_,he,?_⟩
 obtain ⟨hs,hb⟩:=hs.pp hb hE
 refine q (ln (zA (zA ?_)))
 refine vE (fun ρ w=>∃x1:Bool,∃H:NP,Has ρ [(0,(vp p1)),(3,(vp (some p2))),(39,(vb x1))]∧Hst w0 H w H w∧HB H w [(p2,[(vi aA),(vi aB),(vi aC),(vu aK),(vs aJ),(vi aL),(vi aM)],127)]∧m_P_j1 p1 aA aB aC aK aJ aL aM x1 w0 H w K) ?_ ?_
 rintro ρ w ⟨x1,H,hH,hs,hb,h⟩
 refine zW hH ?_
 refine cbr h ?_ ?_<;>intro h
 refine eg (qb (ln (er (vF (xO (.inl rfl) results68 (v:=(vi 0)) (by kernel_rfl) (v':=(vi 51)) (by kernel_rfl) ?_)))))
 exact ⟨0,51,rfl,h⟩
 refine zC (zK (zA ?_))
 obtain ⟨C1,hC,h⟩:=h
 refine dr2 (fun x=>C1 x∧HB H x _) [3,8] [] ⟨hC,hb.drew⟩ h hs hb fun w4 hs hb h=>?_
 have hs:=hs.here
 refine qx 0 (vp p1) Kp0 (qx 1 (vp (some (p2.add 5))) Kp1 (qz 2 (vi aL) Kp2 (fun w' hw'=>(xl (isAgg78 _) (hw'.2.cell 0 5 gZ (by kernel_rfl)))) (qx 5 (vp p1) Kp5 (qx 6 (vp (some (p2.add 6))) Kp6 (qz 7 (vi aM) Kp7 (fun w' hw'=>(xl (isAgg78 _) (hw'.2.cell 0 6 gZ (by kernel_rfl)))) (lg 3 ?_))))))
 refine slc Kp3 call123 (h.mono ?_)
 rintro e w5 ⟨r1,rfl,hC,hk,h⟩
 refine ⟨_,rfl,.inr ⟨hC,hb.kept hk⟩,?_⟩
 obtain ⟨hs,hb⟩:=hk.hh hs hb
 refine qx 4 (vi (q6.wrap (1+r1))) Kp4 (lg 8 ?_)
 refine slc Kp8 call123 (h.mono ?_)
 rintro e w6 ⟨r2,rfl,hC,hk,h⟩
 refine ⟨_,rfl,.inr ⟨hC,hb.kept hk⟩,?_⟩
 obtain ⟨hs,hb⟩:=hk.hh hs hb
 refine qx 9 (vi (q6.wrap ((q6.wrap (1+r1))+r2))) Kp9 (qx 10 (vi (q6.wrap ((q6.wrap (1+r1))+r2))) (zT (S8 (zH (zH zS)))) (wn (zK (zA ?_))))
 obtain ⟨C2,hC,h⟩:=h
 refine dr2 (fun x=>C2 x∧HB H x _) [3,7] [] ⟨hC,hb.drew⟩ h hs hb fun w7 hs hb h=>?_
 have hs:=hs.here
 refine qx 0 (vp p1) Kp0 (qx 1 (vp (some (p2.add 5))) Kp1 (qz 2 (vi aL) Kp2 (fun w' hw'=>(xl (isAgg78 _) (hw'.2.cell 0 5 gZ (by kernel_rfl)))) (qx 4 (vp p1) Kp4 (qx 5 (vp (some (p2.add 6))) Kp5 (qz 6 (vi aM) Kp6 (fun w' hw'=>(xl (isAgg78 _) (hw'.2.cell 0 6 gZ (by kernel_rfl)))) (lg 3 ?_))))))
 refine slc Kp3 call131 (h.mono ?_)
 rintro e w8 ⟨r3,rfl,hC,hk,h⟩
 refine ⟨_,rfl,.inr ⟨hC,hb.kept hk⟩,?_⟩
 obtain ⟨hs,hb⟩:=hk.hh hs hb
 refine lg 7 ?_
 refine slc Kp7 call131 (h.mono ?_)
 rintro e w9 ⟨r4,rfl,hC,hk,h⟩
 refine ⟨_,rfl,.inr ⟨hC,hb.kept hk⟩,?_⟩
 obtain ⟨hs,hb⟩:=hk.hh hs hb
 refine qg 8 ?_
 obtain ⟨z1,hv9,h⟩:=h
 refine sy (v:=(vi z1)) Kp8 (fun w' hw'=>(vI (args:=#[(vi r3),(vi r4)]) (by kernel_rfl) (fun _=>rfl) (hv9 w' hw'.1))) (qx 9 (vi (q6.wrap (1+z1))) Kp9 (qx 10 (vi (q6.wrap (1+z1))) (zT (S8 (zH (zH zS)))) (wn (zK (zA (zA ?_))))))
 refine vK (fun ρ wJ=>∃b1'0 y1:Bool,∃HJ:NP,((decide ((q6.wrap ((q6.wrap (1+r1))+r2))>4096))=b1'0)∧(y1=(b1'0 || (decide ((q6.wrap (1+z1))>64))))∧Hst w0 H w9 HJ wJ∧HB HJ wJ [(p2,[(vi aA),(vi aB),(vi aC),(vu aK),(vs aJ),(vi aL),(vi aM)],127)]∧Has ρ [(0,(vp p1)),(3,(vp (some p2))),(8,(vi (q6.wrap ((q6.wrap (1+r1))+r2)))),(9,(vi (q6.wrap (1+z1)))),(65,(vb y1))]) ?_ ?_
 refine rg (qc ?_)
 rcases bte (decide ((q6.wrap ((q6.wrap (1+r1))+r2))>4096)) with hg2 | hg2
 refine sj 62 hg2 (sj 62 hg2 (q2 (vb true) (xT hg2) (ln ?_)))
 exact ⟨true,_,_,hg2,rfl,hs,hb,hm⟩
 refine qk 62 hg2 (qk 62 hg2 (q2 (vb (decide ((q6.wrap (1+z1))>64))) (xF hg2) (ln ?_)))
 exact ⟨false,_,_,hg2,rfl,hs,hb,hm⟩
 rintro ρ w10 ⟨b1'0,y1,H2,he0,hy1,hs,hb,hH⟩
 subst he0
 have h:=h y1 hy1
 refine vD hH ?_
 refine zK ?_
 refine cbr h ?_ ?_<;>intro h
 refine eg (qb (ln (er (vF ?_))))
 have ⟨h,hs⟩:=hs.hr (h H2 w10)
 refine xO (.inl rfl) results68 (v:=(vi 0)) (by kernel_rfl) (v':=(vi 52)) (by kernel_rfl) ?_
 exact ⟨0,52,rfl,h⟩
 refine zC (zK (eg (q (q2 (.agg #[(vi aA),(vi aB),(vi aC),(vu aK),(vs aJ),(vi aL),(vi aM)]) (xa p2 [(vi aA),(vi aB),(vi aC),(vu aK),(vs aJ),(vi aL),(vi aM)] (isAgg127 _) (sizeOf127 _) (hb.r0 0 7 gZ)) ?_))))
 have ⟨h,hs⟩:=hs.hr (h H2 w10)
 refine sc call132 (h.mono fun e w11 ⟨r5,r6,k,hk,h⟩=>have ⟨hs,hb⟩:=hk.hh hs hb;⟨_,k,?_⟩)
 refine q (qd (ln (zA (eg (q (zB ?_))))))
 refine zK ?_
 refine cbr h ?_ ?_<;>intro h
 refine eg (qc (ln (er (vF (xO (.inl rfl) results68 (v:=(vi r5)) (by kernel_rfl) (v':=(vi 0)) (by kernel_rfl) ?_)))))
 exact ⟨r5,0,rfl,h⟩
 refine zC (zK (zA (eg (q ?_))))
 refine qm h fun a1 h=>q ?_
 refine ql (isAgg49 _) h fun v1 h=>qb (ln ?_)
 refine cbr h ?_ ?_<;>intro h
 refine eg (qb (ln (er (vF (xO (.inl rfl) results68 (v:=(vi 0)) (by kernel_rfl) (v':=(vi 6)) (by kernel_rfl) ?_)))))
 exact ⟨0,6,rfl,h⟩
 refine zC (zK (zA ?_))
 obtain ⟨C3,hC,h⟩:=h
 refine dr2 (fun x=>C3 x∧HB H2 x _) [6,7,10] [10] ⟨hC,hb.drew⟩ h hs hb fun w12 hs hb h=>?_
 have hs:=hs.here
 refine qx 0 (vp p1) Kp0 (qx 1 (vp p1) Kp1 (qg 2 ?_))
 obtain ⟨a2,hp2,h⟩:=h
 refine sy Kp2 (fun _ _=>xn hp2) (qx 3 (vp (some a2)) Kp3 (qg 4 ?_))
 obtain ⟨v2,hv7,h⟩:=h
 refine sy Kp4 (fun _ k=>xl (isAgg49 _) (hv7 _ k.1)) (qz 5 (.agg #[(vi aA),(vi aB),(vi aC),(vu aK),(vs aJ),(vi aL),(vi aM)]) Kp5 (fun w' hw'=>(xa p2 [(vi aA),(vi aB),(vi aC),(vu aK),(vs aJ),(vi aL),(vi aM)] (isAgg127 _) (sizeOf127 _) (hw'.2.r0 0 7 gZ))) (lg 6 (jBQ (O:=(.cells #[(vi aA),(vi aB),(vi aC),(vu aK),(vs aJ),(vi aL),(vi aM)] 127)) (fun p=>(Sl.mk (some p) 1 1).v) Kp6 (zL rfl) (by kernel_rfl) (vJ (vs:=#[(0,(.agg #[(vi aA),(vi aB),(vi aC),(vu aK),(vs aJ),(vi aL),(vi aM)]))]) (by kernel_rfl) (by kernel_rfl)) ?_)))
 intro p3 w13 hn7
 have h:=h p3 w13 hn7
 refine ⟨.inr ⟨h.1,hb.kept (Ext.new (F:=None) hn7).keptP⟩,?_⟩
 have h:=h.2
 obtain ⟨hs,hb⟩:=hs.nw hb hn7
 refine lg 7 ?_
 obtain ⟨s1,w14,hv6,hC,hk,h⟩:=h
 refine sl (v:=s1.v) Kp7 (zL rfl) (by kernel_rfl) (vI (args:=#[v2.v,(Sl.mk (some p3) 1 1).v]) (by kernel_rfl) (fun _=>rfl) hv6) (.inr ⟨hC,hb.kept hk⟩) ?_
 obtain ⟨hs,hb⟩:=hk.hh hs hb
 refine qg 8 ?_
 obtain ⟨a3,hp3,h⟩:=h
 refine sy Kp8 (fun _ _=>xn hp3) (qx 9 (vp (some a3)) Kp9 (lg 10 ?_))
 obtain ⟨hp4,hnh,h⟩:=h
 refine jSX (zT (S8 (zH (zH zS)))) (xs (v:=s1.v) (sizeOf49 _) hp4) ?_
 intro w15 hn2
 have h:=h w15 hn2
 refine ⟨.inl (by kernel_rfl),?_⟩
 have hk:=Kept.sc hnh hn2
 obtain ⟨hs,hb⟩:=hk.hh hs hb
 refine wn (zK (eg (qb ?_)))
 refine qm h fun a4 h=>q ?_
 refine ql (isAgg50 _) h fun v3 h=>q (uE (O:=(.cells #[(vi (q6.wrap ((q6.wrap (1+r1))+r2)))] 3)) (fun p=>(Sl.mk (some p) 1 1).v) (zL rfl) (vJ (vs:=#[(0,(vi (q6.wrap ((q6.wrap (1+r1))+r2))))]) (by kernel_rfl) (by kernel_rfl)) ?_)
 intro p4 w16 hn6
 have h:=h p4 w16 hn6
 obtain ⟨hs,hb⟩:=hs.nw hb hn6
 obtain ⟨s2,w17,hv4,hk,h⟩:=h
 refine st (v:=s2.v) (zL rfl) (vI (args:=#[v3.v,(Sl.mk (some p4) 1 1).v]) (by kernel_rfl) (fun _=>rfl) hv4) ?_
 obtain ⟨hs,hb⟩:=hk.hh hs hb
 refine qm h fun a5 h=>q ?_
 refine st2 (sizeOf50 _) hs hb h fun w18 hs hb h=>?_
 refine ln (eg (qb ?_))
 refine qm h fun a6 h=>q ?_
 refine ql (isAgg50 _) h fun v4 h=>q (uE (O:=(.cells #[(vi (q6.wrap (1+z1)))] 3)) (fun p=>(Sl.mk (some p) 1 1).v) (zL rfl) (vJ (vs:=#[(0,(vi (q6.wrap (1+z1))))]) (by kernel_rfl) (by kernel_rfl)) ?_)
 intro p5 w19 hn5
 have h:=h p5 w19 hn5
 obtain ⟨hs,hb⟩:=hs.nw hb hn5
 obtain ⟨s3,w20,hv2,hk,h⟩:=h
 refine st (v:=s3.v) (zL rfl) (vI (args:=#[v4.v,(Sl.mk (some p5) 1 1).v]) (by kernel_rfl) (fun _=>rfl) hv2) ?_
 obtain ⟨hs,hb⟩:=hk.hh hs hb
 refine qm h fun a7 h=>q ?_
 refine st2 (sizeOf50 _) hs hb h fun w21 hs hb h=>?_
 refine ln (eg (q ?_))
 refine qm h fun a8 h=>q ?_
 refine ql (isAgg49 _) h fun v5 h=>qc (ln (er (xO (.inl rfl) results68 (v:=(vi (v5.len:Int))) (by kernel_rfl) (v':=(vi 0)) (by kernel_rfl) ?_)))
 exact ⟨(v5.len:Int),0,rfl,h⟩
 refine rg (qc ?_)
 refine zI 6 (fun ρ w=>∃x2:Bool,∃H:NP,Has ρ [(0,(vp p1)),(3,(vp (some p2))),(7,(vi (s_A aA))),(28,(vb x2))]∧Hst w0 H w H w∧HB H w [(p2,[(vi aA),(vi aB),(vi aC),(vu aK),(vs aJ),(vi aL),(vi aM)],127)]∧m_P_j2 p1 aA aB aC aK aJ aL aM x2 w0 H w K) ?_ ?_
 rintro ρ w ⟨x2,H,hH,hs,hb,h⟩
 refine zM hH ?_
 refine q ?_
 obtain ⟨hg3,h⟩|⟨hg3,h⟩:=h.br
 refine sj 29 hg3 (sj 29 hg3 (sj 29 hg3 (sm (sm (sm (sm (sm (sj 29 hg3 (q2 (vb true) (xT hg3) (ln ?_))))))))))
 exact ⟨true,H,hm,hs,hb,h⟩
 refine qk 29 hg3 (qk 29 hg3 (qk 29 hg3 ?_))
 obtain ⟨hg4,h⟩|⟨hg4,h⟩:=h.br
 refine qk 32 hg4 (qk 32 hg4 (q4 32 hg4 (xl (isAgg78 _) (hb.d 0 6 gZ)) ?_))
 refine kZ (wy 32 hg4) (xc call122) (h.mono ?_)
 rintro e w22 ⟨r7,rfl,hk,h⟩
 refine ⟨_,rfl,?_⟩
 obtain ⟨hs,hb⟩:=hk.hh hs hb
 refine qk 32 hg4 (stq (v:=(vb (!r7))) (wy 29 hg3) (xT hg4) (q2 (vb (!r7)) (xF hg3) (ln ?_)))
 exact ⟨(!r7),H,hm,hs,hb,h⟩
 refine sj 32 hg4 (sj 32 hg4 (sj 32 hg4 (sj 32 hg4 (sj 32 hg4 (stq (v:=(vb false)) (wy 29 hg3) (xF hg4) (q2 (vb false) (xF hg3) (ln ?_)))))))
 exact ⟨false,H,hm,hs,hb,h⟩
 obtain ⟨hg5,h⟩|⟨hg5,h⟩:=h.br
 refine qk 22 hg5 (qk 22 hg5 (q4 22 hg5 (xl (isAgg78 _) (hb.d 0 5 gZ)) ?_))
 have ⟨h,hs⟩:=hs.hr (h H1 w3)
 refine kZ (wy 22 hg5) (xc call122) (h.mono ?_)
 rintro e w23 ⟨r8,rfl,hk,h⟩
 refine ⟨_,rfl,?_⟩
 obtain ⟨hs,hb⟩:=hk.hh hs hb
 refine qk 22 hg5 (q2 (vb (!r8)) (xT hg5) (zB ?_))
 exact ⟨(!r8),H1,hm,hs,hb,h⟩
 refine sj 22 hg5 (sj 22 hg5 (sj 22 hg5 (sj 22 hg5 (sj 22 hg5 (q2 (vb false) (xF hg5) (zB ?_))))))
 have ⟨h,hs⟩:=hs.hr (h H1 w3)
 exact ⟨false,H1,hm,hs,hb,h⟩
def m_Y_j1 (w1:Option Addr) (t1:Int) (x1:Bool) (w:World) (K:WP):Prop :=Br x1 (K w) (∃a1:Addr,w1=some a1∧∃v1:Sl,w.cell? (a1.add 1)=some v1.v∧∃a2:Addr,At v1 t1 1 a2∧CanW w a2∧∀w2:World,w2=w.setCell a2 (vb true)→∃a3:Addr,w1=some a3∧∃v2:Option Addr,w2.cell? a3=some (vp v2)∧∃a4:Addr,v2=some a4∧∃v3:Sl,w2.cell? a4=some v3.v∧∃a5:Addr,At v3 (q6.wrap (t1 - 1)) 7 a5∧∃v4:Int,w2.cell? (a5.add 5)=some (vi v4)∧Calls prog 133 #[(vp w1),(vi v4)] w2 (fun e w3=>e=.returned (.tuple #[])∧∃a6:Addr,w1=some a6∧∃v5:Option Addr,w3.cell? a6=some (vp v5)∧∃a7:Addr,v5=some a7∧∃v6:Sl,w3.cell? a7=some v6.v∧∃a8:Addr,At v6 (q6.wrap (t1 - 1)) 7 a8∧∃v7:Int,w3.cell? (a8.add 6)=some (vi v7)∧Calls prog 133 #[(vp w1),(vi v7)] w3 (fun e w4=>e=.returned (.tuple #[])∧∃a9:Addr,w1=some a9∧∃v8:Sl,w4.cell? (a9.add 2)=some v8.v∧∀(p1:Addr) (w5:World),New w4 (.cells #[(vi t1)] 78) p1 w5→∃s1:Sl,∃w6:World,(Builtin.append_ #[54,54] 54 #[v8.v,(Sl.mk (some p1) 1 1).v]).run prog w5=.ok s1.v w6∧∃a10:Addr,w1=some a10∧CanW w6 (a10.add 2)∧∀w7:World,w7=w6.setCell (a10.add 2) s1.v→K w7)))
def m_Y (w1:Option Addr) (t1:Int) (w0:World) (K:WP):Prop :=∃a11:Addr,w1=some a11∧∃v9:Option Addr,w0.cell? a11=some (vp v9)∧Calls prog 122 #[(vp v9),(vi t1)] w0 (fun e w8=>∃r1:Bool,e=.returned (vb r1)∧Br (!r1) (m_Y_j1 w1 t1 true w8 K) (∃a12:Addr,w1=some a12∧∃v10:Sl,w8.cell? (a12.add 1)=some v10.v∧∃a13:Addr,At v10 t1 1 a13∧∃v11:Bool,w8.cell? a13=some (vb v11)∧m_Y_j1 w1 t1 v11 w8 K))
theorem w_Y (w1:Option Addr) (t1:Int) (w0:World) (K:WP) (h:m_Y w1 t1 w0 K) :
  Calls prog 133 #[(vp w1),(vi t1)] w0 (fun e w'=>e=.returned (.tuple #[])∧K  w'):=by
 refine cw (args:=[(vp w1),(vi t1)]) func133 ntmps133 (zA (zA ?_))
 refine vE (fun ρ w=>∃x1:Bool,Has ρ [(0,(vp w1)),(1,(vi t1)),(19,(vb x1))]∧m_Y_j1 w1 t1 x1 w K) ?_ ?_
 rintro ρ w ⟨x1,hH,h⟩
 refine zW hH ?_
 refine cbr h ?_ ?_<;>intro h
 refine er (vF (jFI (.inl rfl) results133 ?_))
 exact ⟨rfl,h⟩
 refine zC (zK (eg (q ?_)))
 refine qm h fun a1 h=>q ?_
 refine ql (isAgg199 _) h fun v1 h=>q ?_
 refine qi (runUnderlying199 _) (sizeOf4 _) h fun a2 h=>?_
 refine st1 (sizeOf4 _) h fun w2 h=>?_
 refine ln (eg (qb ?_))
 refine qm h fun a3 h=>q ?_
 refine ql (isAgg53 _) h fun v2 h=>?_
 refine qm h fun a4 h=>q ?_
 refine ql (isAgg49 _) h fun v3 h=>qb ?_
 refine qi (runUnderlying49 _) (sizeOf127 _) h fun a5 h=>q ?_
 refine ql (isAgg78 _) h fun v4 h=>?_
 refine sc call133 (h.mono fun e w3 ⟨k,h⟩=>⟨_,k,?_⟩)
 refine ln (eg (qb ?_))
 refine qm h fun a6 h=>q ?_
 refine ql (isAgg53 _) h fun v5 h=>?_
 refine qm h fun a7 h=>q ?_
 refine ql (isAgg49 _) h fun v6 h=>qb ?_
 refine qi (runUnderlying49 _) (sizeOf127 _) h fun a8 h=>q ?_
 refine ql (isAgg78 _) h fun v7 h=>?_
 refine sc call133 (h.mono fun e w4 ⟨k,h⟩=>⟨_,k,?_⟩)
 refine ln (rg (qb ?_))
 refine qm h fun a9 h=>q ?_
 refine ql (isAgg54 _) h fun v8 h=>q (uE (O:=(.cells #[(vi t1)] 78)) (fun p=>(Sl.mk (some p) 1 1).v) (zL rfl) (vJ (vs:=#[(0,(vi t1))]) (by kernel_rfl) (by kernel_rfl)) ?_)
 intro p1 w5 hn3
 have h:=h p1 w5 hn3
 obtain ⟨s1,w6,hv1,h⟩:=h
 refine st (v:=s1.v) (zL rfl) (vI (args:=#[v8.v,(Sl.mk (some p1) 1 1).v]) (by kernel_rfl) (fun _=>rfl) hv1) ?_
 refine qm h fun a10 h=>q ?_
 refine st1 (sizeOf54 _) h fun w7 h=>?_
 refine zB (jFI (.inr rfl) results133 ?_)
 exact ⟨rfl,h⟩
 refine rg (q ?_)
 refine qm h fun a11 h=>q ?_
 refine ql (isAgg53 _) h fun v9 h=>q ?_
 refine sc call122 (h.mono fun e w8 ⟨r1,k,h⟩=>⟨_,k,?_⟩)
 refine qb ?_
 obtain ⟨hg1,h⟩|⟨hg1,h⟩:=h.br
 refine sj 11 hg1 (sj 11 hg1 (sj 11 hg1 (sj 11 hg1 (sj 11 hg1 (sj 11 hg1 (sj 11 hg1 (q2 (vb true) (xT hg1) (ln ?_))))))))
 exact ⟨true,hm,h⟩
 refine qk 11 hg1 ?_
 obtain ⟨a12,hp11,h⟩:=h
 refine q4 11 hg1 (xn hp11) (qk 11 hg1 ?_)
 obtain ⟨v10,hv15,h⟩:=h
 refine q4 11 hg1 (xl (isAgg199 _) hv15) (qk 11 hg1 ?_)
 obtain ⟨a13,hv14,h⟩:=h
 refine q4 11 hg1 (xi (runUnderlying199 _) (sizeOf4 _) hv14) ?_
 obtain ⟨v11,hv13,h⟩:=h
 refine q4 11 hg1 (xl (isAgg4 _) hv13) (q2 (vb v11) (xF hg1) (ln ?_))
 exact ⟨v11,hm,h⟩
def m_X2 (p1:Option Addr) (t1:Int) (w0:World) (K:Sl→WP):Prop :=∃a1:Addr,p1=some a1∧∃v1:Sl,w0.cell? a1=some v1.v∧∃s1:Sl,∃w1:World,(Instr.makeSlice 199 (vi (q6.wrap ((v1.len:Int)+1))) (vi (q6.wrap ((v1.len:Int)+1)))).run prog w0=.ok s1.v w1∧∀(p2:Addr) (w2:World),New w1 (.cells #[(vp p1),s1.v,Sl.nil.v] 201) p2 w2→Calls prog 133 #[(vp (some p2)),(vi t1)] w2 (fun e w3=>e=.returned (.tuple #[])∧∃v2:Sl,w3.cell? (p2.add 2)=some v2.v∧K v2 w3)
theorem w_X2 (p1:Option Addr) (t1:Int) (w0:World) (K:Sl→WP) (h:m_X2 p1 t1 w0 K) :
  Calls prog 69 #[(vp p1),(vi t1)] w0 (fun e w'=>∃r1:Sl,e=.returned r1.v∧K r1 w'):=by
 refine cw (args:=[(vp p1),(vi t1)]) func69 ntmps69 (eg (q0 Sl.nil.v (ln (eg (q0 (vp p1) (q0 (vp p1) ?_))))))
 refine qm h fun a1 h=>q ?_
 refine ql (isAgg49 _) h fun v1 h=>qb ?_
 obtain ⟨s1,w1,hv2,h⟩:=h
 refine st (v:=s1.v) (zL rfl) (jEA (by kernel_rfl) (by kernel_rfl) hv2) (q0 (.agg #[(vp p1),s1.v,Sl.nil.v]) (sn (O:=(.cells #[(vp p1),s1.v,Sl.nil.v] 201)) xb ?_))
 intro p2 w2 hn1
 have h:=h p2 w2 hn1
 refine q (ln (eg (qb ?_)))
 refine sc call133 (h.mono fun e w3 ⟨k,h⟩=>⟨_,k,?_⟩)
 refine ln (eg (qc ?_))
 refine ql (isAgg54 _) h fun v2 h=>q (ln (er (rs1 results69 ⟨v2,rfl,h⟩)))
def s_B1 (aD aE:Int) (aF aG:Int) (aH:ByteArray) (aI:Sl):Int×Int×Int×Int×ByteArray×Int×Int :=(aD,aE,aF,aG,aH,0,0)
theorem pw_B1 (aD aE:Int) (aF aG:Int) (aH:ByteArray) (aI:Sl) (w0:World) :
  Calls prog 213 #[(.agg #[(vi aD),(vi aE),(vi aF),(vu aG),(vs aH),aI.v])] w0 (fun e w'=>(e=.returned (.agg #[(vi aD),(vi aE),(vi aF),(vu aG),(vs aH),(vi 0),(vi 0)]))∧Pure w0 w'):=by
 refine cw (args:=[(.agg #[(vi aD),(vi aE),(vi aF),(vu aG),(vs aH),aI.v])]) func213 ntmps213 ?_
 obtain ⟨hs,hb⟩:=st0 w0
 refine eg (nw3 [(vi aD),(vi aE),(vi aF),(vu aG),(vs aH),aI.v] 76 hs hb xb fun p1 w1 H1 hs hb=>?_)
 refine nw3 [(vi 0),(vi 0),(vi 0),(vu 0),ve,(vi 0),(vi 0)] 127 hs hb (zQ (zeroValue127 _) rfl) fun p2 w2 H2 hs hb=>?_
 refine ln (eg (q (q3 (xl (isAgg3 _) (hb.d0 1 (gS gZ))) (q (q3 (xl (isAgg3 _) (hb.d 1 1 (gS gZ))) (q (q3 (xl (isAgg3 _) (hb.d 1 2 (gS gZ))) (q (q3 (xl (isAgg23 _) (hb.d 1 3 (gS gZ))) ?_)))))))))
 refine q (q3 (xl (isAgg9 _) (hb.d 1 4 (gS gZ))) (q (yW (zL rfl) (xo p2 [(vi aD),(vi aE),(vi aF),(vu aG),(vs aH),(vi 0),(vi 0)] (sizeOf127 _) (hb.k0 0 7 gZ)) ?_)))
 intro w3 hn3
 obtain ⟨hs,hb⟩:=hb.st1 0 hs hn3 gZ
 refine ln (er (jKT (.inl rfl) (vs:=[(.agg #[(vi aD),(vi aE),(vi aF),(vu aG),(vs aH),(vi 0),(vi 0)])]) (v:=(.agg #[(vi aD),(vi aE),(vi aF),(vu aG),(vs aH),(vi 0),(vi 0)])) results213 ⟨(rva (isAgg127 _) (sizeOf127 _) (hb.r0 0 7 gZ)),trivial⟩ (by kernel_rfl) ?_))
 exact ⟨by kernel_rfl,(Ext.refl (F:=None) _).hst hs⟩
theorem p_B1 (aD aE:Int) (aF aG:Int) (aH:ByteArray) (aI:Sl) (w0:World):Calls prog 213 #[(.agg #[(.int .i64 aD),(.int .i64 aE),(.int .i64 aF),(.int .u64 aG),(.string aH),aI.v])] w0 (fun e w'=>e=.returned (.agg #[(.int .i64 (s_B1 aD aE aF aG aH aI).1),(.int .i64 (s_B1 aD aE aF aG aH aI).2.1),(.int .i64 (s_B1 aD aE aF aG aH aI).2.2.1),(.int .u64 (s_B1 aD aE aF aG aH aI).2.2.2.1),(.string (s_B1 aD aE aF aG aH aI).2.2.2.2.1),(.int .i64 (s_B1 aD aE aF aG aH aI).2.2.2.2.2.1),(.int .i64 (s_B1 aD aE aF aG aH aI).2.2.2.2.2.2)])∧Pure w0 w'):=pw_B1 aD aE aF aG aH aI w0
def m_W_l2 (aI:Sl) (deep1:Int) (seen1:Option Addr) (e1 i1:Int) (w0:World) (Hl1:NP) (wl1:World) (Kc2:Int→Int→NP→WP) (K:Int→WP):Prop :=Br ((e1 == 0) && (decide (i1<(aI.len:Int)))) (∃a3:Addr,At aI i1 6 a3∧∀(H4:NP) (w11:World),Hst w0 Hl1 wl1 H4 w11→∃aO aP:Int,∃aQ aR:Int,∃aS:ByteArray,∃bB:Sl,Row w11 a3 [(vi aO),(vi aP),(vi aQ),(vu aR),(vs aS),bB.v]∧Calls prog 212 #[(.agg #[(vi aO),(vi aP),(vi aQ),(vu aR),(vs aS),bB.v]),(vi (q6.wrap (deep1+1))),(vp seen1)] w11 (fun e w12=>∃r1:Int,e=.returned (vi r1)∧Kept H4 w11 w12∧Kc2 r1 (q6.wrap (i1+1)) H4 w12)) (∀(H4:NP) (w11:World),Hst w0 Hl1 wl1 H4 w11→K e1 w11)
def m_W_j1 (aD aE:Int) (aF aG:Int) (aH:ByteArray) (aI:Sl) (deep1:Int) (seen1:Option Addr) (x1:Bool) (w0:World) (H:NP) (w:World) (K:Int→WP):Prop :=Br x1 (K 52 w) (∃a1:Addr,seen1=some a1∧∃v1:Int,w.cell? a1=some (vi v1)∧∃a2:Addr,seen1=some a2∧CanW w a2∧¬ H a2.block∧∀w2:World,w2=w.setCell a2 (vi (q6.wrap (v1+1)))→∀y1:Bool,y1=((((s_J aD aE aF aG aH 0 0):Int) != 53) && (((aI.len:Int):Int) != (s_A aD)))→∀(H3:NP) (w10:World),Hst w0 H w2 H3 w10→∃(I1:Int→Int→NP→WP) (mu1:Int→Int→World→Nat),I1 (cond y1 53 (s_J aD aE aF aG aH 0 0)) 0 H3 w10∧∀(e1 i1:Int) (Hl1:NP) (wl1:World),Hst w0 Hl1 wl1 Hl1 wl1→I1 e1 i1 Hl1 wl1→m_W_l2 aI deep1 seen1 e1 i1 w0 Hl1 wl1 (fun y'0 y'1 H' w'=>I1 y'0 y'1 H' w'∧mu1 y'0 y'1 w'<mu1 e1 i1 wl1) K)
def m_W (aD aE:Int) (aF aG:Int) (aH:ByteArray) (aI:Sl) (deep1:Int) (seen1:Option Addr) (w0:World) (K:Int→WP):Prop :=∃a4:Addr,seen1=some a4∧∀(H1:NP) (w1:World),Hst w0 None w0 H1 w1→∃v2:Int,w1.cell? a4=some (vi v2)∧∀(H5:NP) (w13:World),Hst w0 H1 w1 H5 w13→m_W_j1 aD aE aF aG aH aI deep1 seen1 ((decide (v2≥4096)) || (decide (deep1≥64))) w0 H5 w13 K
theorem w_W (aD aE:Int) (aF aG:Int) (aH:ByteArray) (aI:Sl) (deep1:Int) (seen1:Option Addr) (w0:World) (K:Int→WP) (h:m_W aD aE aF aG aH aI deep1 seen1 w0 K) :
  Calls prog 212 #[(.agg #[(vi aD),(vi aE),(vi aF),(vu aG),(vs aH),aI.v]),(vi deep1),(vp seen1)] w0 (fun e w'=>∃r2:Int,e=.returned (vi r2)∧K r2 w'):=by
 refine cw (args:=[(.agg #[(vi aD),(vi aE),(vi aF),(vu aG),(vs aH),aI.v]),(vi deep1),(vp seen1)]) func212 ntmps212 ?_
 obtain ⟨hs,hb⟩:=st0 w0
 refine eg (nw3 [(vi aD),(vi aE),(vi aF),(vu aG),(vs aH),aI.v] 76 hs hb xb fun p1 w1 H1 hs hb=>?_)
 refine q (ln (zA (zA ?_)))
 refine vE (fun ρ w=>∃x1:Bool,∃H:NP,Has ρ [(1,(vi deep1)),(2,(vp seen1)),(3,(vp (some p1))),(16,(vb x1))]∧Hst w0 H w H w∧HB H w [(p1,[(vi aD),(vi aE),(vi aF),(vu aG),(vs aH),aI.v],76)]∧m_W_j1 aD aE aF aG aH aI deep1 seen1 x1 w0 H w K) ?_ ?_
 rintro ρ w ⟨x1,H,hH,hs,hb,h⟩
 refine zW hH ?_
 refine cbr h ?_ ?_<;>intro h
 refine eg (q (ln (er (vF (rs1 results212 ⟨52,rfl,h⟩)))))
 refine zC (zK (eg (qb ?_)))
 refine qm h fun a1 h=>?_
 refine ql (isAgg3 _) h fun v1 h=>q ?_
 refine qm h fun a2 h=>?_
 refine st2 (sizeOf3 _) hs hb h fun w2 hs hb h=>?_
 refine ln (eg (q2 (.agg #[(vi aD),(vi aE),(vi aF),(vu aG),(vs aH),aI.v]) (xa p1 [(vi aD),(vi aE),(vi aF),(vu aG),(vs aH),aI.v] (isAgg76 _) (sizeOf76 _) (hb.r0 0 6 gZ)) ?_))
 refine sc call213 ((p_B1 aD aE aF aG aH aI w2).mono ?_)
 rintro e w3 ⟨he,hE⟩
 refine ⟨_,he,?_⟩
 obtain ⟨hs,hb⟩:=hs.pp hb hE
 refine sc call130 ((p_J aD aE aF aG aH 0 0 w3).mono ?_)
 rintro e w4 ⟨he,hE⟩
 refine ⟨_,he,?_⟩
 obtain ⟨hs,hb⟩:=hs.pp hb hE
 refine q (ln (zA (zA ?_)))
 refine vK (fun ρ wJ=>∃b1'0 y1:Bool,∃HJ:NP,((((s_J aD aE aF aG aH 0 0):Int) != 53)=b1'0)∧(y1=(b1'0 && (((aI.len:Int):Int) != (s_A aD))))∧Hst w0 H w2 HJ wJ∧HB HJ wJ [(p1,[(vi aD),(vi aE),(vi aF),(vu aG),(vs aH),aI.v],76)]∧Has ρ [(1,(vi deep1)),(2,(vp seen1)),(3,(vp (some p1))),(7,(vi (s_J aD aE aF aG aH 0 0))),(36,(vb y1))]) ?_ ?_
 refine tZ (fun x=>∃H',Hst w0 H w2 H' x∧HB H' x [(p1,[(vi aD),(vi aE),(vi aF),(vu aG),(vs aH),aI.v],76)]) [8] [] (by kernel_rfl) (by kernel_rfl) (by kernel_rfl) (by kernel_rfl) ⟨_,hs.drew,hb.drew⟩ ?_
 intro w8 hw8
 have hs:Hst w0 H w2 H w8:=by rw [hw8];exact hs.drew
 have hb:HB H w8 [(p1,[(vi aD),(vi aE),(vi aF),(vu aG),(vs aH),aI.v],76)]:=by rw [hw8];exact hb.drew
 refine qx 0 (vi (s_J aD aE aF aG aH 0 0)) Kp0 (qx 1 (vb (((s_J aD aE aF aG aH 0 0):Int) != 53)) Kp1 (qx 2 (vb (((s_J aD aE aF aG aH 0 0):Int) != 53)) Kp2 (qg 3 ?_)))
 rcases bte (((s_J aD aE aF aG aH 0 0):Int) != 53) with hg2 | hg2
 refine sz (v:=(vp (some (p1.add 5)))) Kp3 (wy 28 hg2) (fun _ _=>(by kernel_rfl)) (qg 4 (sz (v:=aI.v) Kp4 (wy 28 hg2) (fun w' hw'=>(by obtain ⟨H',hs',hb'⟩:=hw';exact (xl (isAgg74 _) (hb'.cell 0 5 gZ (by kernel_rfl))))) (qw 5 (vi (aI.len:Int)) Kp5 (wy 28 hg2) (qw 6 (vp (some p1)) Kp6 (wy 28 hg2) (qg 7 (sz (v:=(vi aD)) Kp7 (wy 28 hg2) (fun w' hw'=>(by obtain ⟨H',hs',hb'⟩:=hw';exact (xl (isAgg3 _) (hb'.cell0 0 gZ (by kernel_rfl))))) (lg 8 ?_)))))))
 refine jLF Kp8 (wy 28 hg2) (by kernel_rfl) (xc call73) ((p_A aD w8).mono ?_)
 rintro e w9 ⟨he,hE⟩
 obtain ⟨hs,hb⟩:=hs.pp hb hE
 refine ⟨(vi (s_A aD)),he.trans (by kernel_rfl),.inr ⟨_,hs,hb⟩,?_⟩
 refine qw 9 (vb (((aI.len:Int):Int) != (s_A aD))) Kp9 (wy 28 hg2) (qz 10 (vb (((aI.len:Int):Int) != (s_A aD))) (zT (S8 (zH (zH zS)))) (fun _ _=>(xT hg2)) (wn (zK ?_)))
 exact ⟨true,_,_,hg2,rfl,hs,hb,hm⟩
 refine jCY Kp3 (xM rfl (yD 28 hg2) rfl) (qn 4 Kp4 (xM rfl (yD 28 hg2) rfl) (qn 5 Kp5 (xM rfl (yD 28 hg2) rfl) (qn 6 Kp6 (xM rfl (yD 28 hg2) rfl) (qn 7 Kp7 (xM rfl (yD 28 hg2) rfl) (lg 8 (jCY Kp8 (xM rfl (yD 28 hg2) rfl) (qn 9 Kp9 (xM rfl (yD 28 hg2) rfl) (qz 10 (vb false) (zT (S8 (zH (zH zS)))) (fun _ _=>(xF hg2)) (wn (zK ?_))))))))))
 exact ⟨false,_,_,hg2,rfl,hs,hb,hm⟩
 rintro ρ w7 ⟨b1'0,y1,H2,he0,hy1,hs,hb,hH⟩
 subst he0
 have h:=h y1 hy1
 refine vD hH ?_
 refine zK ?_
 refine vK (fun ρ wJ=>∃b2'0:Bool,∃HJ:NP,(y1=b2'0)∧Hst w0 H w2 HJ wJ∧HB HJ wJ [(p1,[(vi aD),(vi aE),(vi aF),(vu aG),(vs aH),aI.v],76)]∧Has ρ [(1,(vi deep1)),(2,(vp seen1)),(3,(vp (some p1))),(7,(vi (cond b2'0 53 (s_J aD aE aF aG aH 0 0))))]) ?_ ?_
 refine vH (t:=y1) (by kernel_rfl) (fun hc3=>?_) (fun hc3=>?_)
 refine rg (q (ln ?_))
 exact ⟨true,_,hc3,hs,hb,hm⟩
 refine zC (zK ?_)
 exact ⟨false,_,hc3,hs,hb,hm⟩
 rintro ρ w10 ⟨b2'0,H3,he0,hs,hb,hH⟩
 subst he0
 refine vD hH ?_
 refine zK (zA (eg (q (ln (zJ ?_)))))
 have ⟨h,hs⟩:=hs.hr (h H3 w10)
 obtain ⟨I1,mu1,h0,hr⟩:=h
 refine vP (σ:=Int×Int×NP×World) (fun s ρ w=>w=s.2.2.2∧Has ρ [(1,(vi deep1)),(2,(vp seen1)),(3,(vp (some p1))),(7,(vi s.1)),(8,(vi s.2.1))]∧Hst w0 s.2.2.1 w s.2.2.1 w∧HB s.2.2.1 w [(p1,[(vi aD),(vi aE),(vi aF),(vu aG),(vs aH),aI.v],76)]∧I1 s.1 s.2.1 s.2.2.1 s.2.2.2) (fun s=>mu1 s.1 s.2.1 s.2.2.2) ((cond y1 53 (s_J aD aE aF aG aH 0 0)),0,H3,w10) ⟨rfl,hm,hs,hb,h0⟩ ?_
 rintro ⟨e1,i1,Hl1,wl1⟩ ρ w ⟨hw,hH,hs,hb,hI⟩
 dsimp only at hw hH hs hb;subst w
 have h:=hr e1 i1 Hl1 wl1 hs hI
 refine zW hH ?_
 refine zA (zA ?_)
 refine vK (fun ρ wJ=>∃b3'0:Bool,∃HJ:NP,((e1 == 0)=b3'0)∧Hst w0 Hl1 wl1 HJ wJ∧HB HJ wJ [(p1,[(vi aD),(vi aE),(vi aF),(vu aG),(vs aH),aI.v],76)]∧Has ρ [(1,(vi deep1)),(2,(vp seen1)),(3,(vp (some p1))),(7,(vi e1)),(8,(vi i1)),(45,(vb (b3'0 && (decide (i1<(aI.len:Int))))))]) ?_ ?_
 refine rg (qc ?_)
 rcases bte (e1 == 0) with hg4 | hg4
 refine qk 39 hg4 (qk 39 hg4 (q4 39 hg4 (xl (isAgg74 _) (hb.d 0 5 gZ)) (qk 39 hg4 (qk 39 hg4 (q2 (vb (decide (i1<(aI.len:Int)))) (xT hg4) (ln ?_))))))
 exact ⟨true,_,hg4,hs,hb,hm⟩
 refine sj 39 hg4 (sj 39 hg4 (sj 39 hg4 (sj 39 hg4 (sj 39 hg4 (q2 (vb false) (xF hg4) (ln ?_))))))
 exact ⟨false,_,hg4,hs,hb,hm⟩
 rintro ρ w11 ⟨b3'0,H4,he0,hs,hb,hH⟩
 subst he0
 refine vD hH ?_
 refine zK ?_
 refine cbr h ?_ ?_<;>intro h
 refine zC (zK (zA (zJ (rg (q (q3 (xl (isAgg74 _) (hb.d 0 5 gZ)) (q ?_)))))))
 refine qi (runUnderlying74 _) (sizeOf76 _) h fun a3 h=>?_
 have ⟨h,hs⟩:=hs.hr (h H4 w11)
 obtain ⟨aO,aP,aQ,aR,aS,bB,hv1,h⟩:=h
 refine qa (isAgg76 _) (sizeOf76 _) hv1 (qc ?_)
 refine sc call212 (h.mono fun e w12 ⟨r1,k,hk,h⟩=>have ⟨hs,hb⟩:=hk.hh hs hb;⟨_,k,?_⟩)
 refine q (zB (xW (zK (rg (qc (ln ?_))))))
 exact ⟨(r1,(q6.wrap (i1+1)),H4,w12),⟨rfl,hm,hs,hb,h.1⟩,h.2⟩
 refine vO (uU (uU (uY (zK (eg (q0 (vi e1) (q0 (vi e1) (ln (er ?_)))))))))
 have ⟨h,hs⟩:=hs.hr (h H4 w11)
 refine rs1 results212 ⟨e1,rfl,h⟩
 refine rg (q ?_)
 refine qm h fun a4 h=>?_
 have ⟨h,hs⟩:=hs.hr (h H1 w1)
 refine ql (isAgg3 _) h fun v2 h=>qb ?_
 refine zI 3 (fun ρ wJ=>∃b4'0:Bool,∃HJ:NP,((decide (v2≥4096))=b4'0)∧Hst w0 H1 w1 HJ wJ∧HB HJ wJ [(p1,[(vi aD),(vi aE),(vi aF),(vu aG),(vs aH),aI.v],76)]∧Has ρ [(1,(vi deep1)),(2,(vp seen1)),(3,(vp (some p1))),(16,(vb (b4'0 || (decide (deep1≥64)))))]) ?_ ?_
 rintro ρ w13 ⟨b4'0,H5,he0,hs,hb,hH⟩
 subst he0
 refine zM hH ?_
 refine zB ?_
 have ⟨h,hs⟩:=hs.hr (h H5 w13)
 refine zK ?_
 exact ⟨((decide (v2≥4096)) || (decide (deep1≥64))),H5,hm,hs,hb,h⟩
 rcases bte (decide (v2≥4096)) with hg6 | hg6
 refine sj 13 hg6 (sj 13 hg6 (q2 (vb true) (xT hg6) (zB ?_)))
 exact ⟨true,_,hg6,hs,hb,hm⟩
 refine qk 13 hg6 (qk 13 hg6 (q2 (vb (decide (deep1≥64))) (xF hg6) (zB ?_)))
 exact ⟨false,_,hg6,hs,hb,hm⟩
def m_Y2 (aD aE:Int) (aF aG:Int) (aH:ByteArray) (aI:Sl) (w0:World) (K:Int→WP):Prop :=∀(H1:NP) (w1:World),Hst w0 None w0 H1 w1→∀(p2:Addr) (w2:World),New w1 (.cells #[(vi 0)] 3) p2 w2→CanW w2 p2∧¬ H1 p2.block∧∀w3:World,w3=w2.setCell p2 (vi 0)→Calls prog 212 #[(.agg #[(vi aD),(vi aE),(vi aF),(vu aG),(vs aH),aI.v]),(vi 0),(vp (some p2))] w3 (fun e w4=>∃r1:Int,e=.returned (vi r1)∧Kept H1 w3 w4∧K r1 w4)
theorem w_Y2 (aD aE:Int) (aF aG:Int) (aH:ByteArray) (aI:Sl) (w0:World) (K:Int→WP) (h:m_Y2 aD aE aF aG aH aI w0 K) :
  Calls prog 154 #[(.agg #[(vi aD),(vi aE),(vi aF),(vu aG),(vs aH),aI.v])] w0 (fun e w'=>∃r2:Int,e=.returned (vi r2)∧K r2 w'):=by
 refine cw (args:=[(.agg #[(vi aD),(vi aE),(vi aF),(vu aG),(vs aH),aI.v])]) func154 ntmps154 ?_
 obtain ⟨hs,hb⟩:=st0 w0
 refine eg (nw3 [(vi aD),(vi aE),(vi aF),(vu aG),(vs aH),aI.v] 76 hs hb xb fun p1 w1 H1 hs hb=>?_)
 refine q (ln (eg ?_))
 have ⟨h,hs⟩:=hs.hr (h H1 w1)
 refine nw2 hs hb h (zQ (zeroValue3 _) rfl) fun p2 w2 hs hb h=>?_
 refine st2 (sizeOf3 _) hs hb h fun w3 hs hb h=>?_
 refine ln (eg (q2 (.agg #[(vi aD),(vi aE),(vi aF),(vu aG),(vs aH),aI.v]) (xa p1 [(vi aD),(vi aE),(vi aF),(vu aG),(vs aH),aI.v] (isAgg76 _) (sizeOf76 _) (hb.r0 0 6 gZ)) ?_))
 refine sc call212 (h.mono fun e w4 ⟨r1,k,hk,h⟩=>have ⟨hs,hb⟩:=hk.hh hs hb;⟨_,k,?_⟩)
 refine q (ln (er (rs1 results154 ⟨r1,rfl,h⟩)))
def m_G1_l1 (p1:Option Addr) (aI:Sl) (i1 aA:Int) (aB aC aK:Int) (aJ:ByteArray) (aL aM:Int) (w0:World) (Hl1:NP) (wl1:World) (Kc1:Int→Int→Int→Int→Int→ByteArray→Int→Int→NP→WP) (K:Int→Int→WP):Prop :=Br (decide (i1<(aI.len:Int))) (∃a1:Addr,At aI i1 6 a1∧∃aO aP:Int,∃aQ aR:Int,∃aS:ByteArray,∃bB:Sl,Row wl1 a1 [(vi aO),(vi aP),(vi aQ),(vu aR),(vs aS),bB.v]∧Calls prog 155 #[(vp p1),(.agg #[(vi aO),(vi aP),(vi aQ),(vu aR),(vs aS),bB.v])] wl1 (fun e w5=>∃r1 r2:Int,e=.returned (.tuple #[(vi r1),(vi r2)])∧Kept Hl1 wl1 w5∧Br (r2 != 0) (K 0 r2 w5) (∀(H3:NP) (w8:World),Hst w0 Hl1 w5 H3 w8→Kc1 (q6.wrap (i1+1)) aA aB aC aK aJ (cond (i1 == 0) r1 aL) (cond (i1 == 0) aM r1) H3 w8))) (Calls prog 68 #[(vp p1),(.agg #[(vi aA),(vi aB),(vi aC),(vu aK),(vs aJ),(vi aL),(vi aM)])] wl1 (fun e w11=>∃r3 r4:Int,e=.returned (.tuple #[(vi r3),(vi r4)])∧Kept Hl1 wl1 w11∧K r3 r4 w11))
def m_G1 (p1:Option Addr) (aD aE:Int) (aF aG:Int) (aH:ByteArray) (aI:Sl) (w0:World) (K:Int→Int→WP):Prop :=∀(H2:NP) (w4:World),Hst w0 None w0 H2 w4→∃(I1:Int→Int→Int→Int→Int→ByteArray→Int→Int→NP→WP) (mu1:Int→Int→Int→Int→Int→ByteArray→Int→Int→World→Nat),I1 0 aD aE aF aG aH 0 0 H2 w4∧∀(i1 aA:Int) (aB aC aK:Int) (aJ:ByteArray) (aL aM:Int) (Hl1:NP) (wl1:World),Hst w0 Hl1 wl1 Hl1 wl1→I1 i1 aA aB aC aK aJ aL aM Hl1 wl1→m_G1_l1 p1 aI i1 aA aB aC aK aJ aL aM w0 Hl1 wl1 (fun y'0 y'1 y'2 y'3 y'4 y'5 y'6 y'7 H' w'=>I1 y'0 y'1 y'2 y'3 y'4 y'5 y'6 y'7 H' w'∧mu1 y'0 y'1 y'2 y'3 y'4 y'5 y'6 y'7 w'<mu1 i1 aA aB aC aK aJ aL aM wl1) K
theorem w_G1 (p1:Option Addr) (aD aE:Int) (aF aG:Int) (aH:ByteArray) (aI:Sl) (w0:World) (K:Int→Int→WP) (h:m_G1 p1 aD aE aF aG aH aI w0 K) :
  Calls prog 155 #[(vp p1),(.agg #[(vi aD),(vi aE),(vi aF),(vu aG),(vs aH),aI.v])] w0 (fun e w'=>∃r5 r6:Int,e=.returned (.tuple #[(vi r5),(vi r6)])∧K r5 r6 w'):=by
 refine cw (args:=[(vp p1),(.agg #[(vi aD),(vi aE),(vi aF),(vu aG),(vs aH),aI.v])]) func155 ntmps155 ?_
 obtain ⟨hs,hb⟩:=st0 w0
 refine eg (nw3 [(vi aD),(vi aE),(vi aF),(vu aG),(vs aH),aI.v] 76 hs hb xb fun p2 w1 H1 hs hb=>?_)
 refine qb (ln (eg (q2 (.agg #[(vi aD),(vi aE),(vi aF),(vu aG),(vs aH),aI.v]) (xa p2 [(vi aD),(vi aE),(vi aF),(vu aG),(vs aH),aI.v] (isAgg76 _) (sizeOf76 _) (hb.r0 0 6 gZ)) ?_)))
 refine sc call213 ((p_B1 aD aE aF aG aH aI w1).mono ?_)
 rintro e w2 ⟨he,hE⟩
 refine ⟨_,he,?_⟩
 obtain ⟨hs,hb⟩:=hs.pp hb hE
 refine nw3 [(vi 0),(vi 0),(vi 0),(vu 0),ve,(vi 0),(vi 0)] 127 hs hb (zQ (zeroValue127 _) rfl) fun p3 w3 H2 hs hb=>?_
 refine sbx 0 [(vi aD),(vi aE),(vi aF),(vu aG),(vs aH),(vi 0),(vi 0)] (sizeOf127 _) hs hb gZ fun w4 hs hb=>?_
 refine ln (zA (eg (q (ln (zJ ?_)))))
 have ⟨h,hs⟩:=hs.hr (h H2 w4)
 obtain ⟨I1,mu1,h0,hr⟩:=h
 refine vP (σ:=Int×Int×Int×Int×Int×ByteArray×Int×Int×NP×World) (fun s ρ w=>w=s.2.2.2.2.2.2.2.2.2∧Has ρ [(0,(vp p1)),(3,(vp (some p2))),(6,(vp (some p3))),(7,(vi s.1))]∧Hst w0 s.2.2.2.2.2.2.2.2.1 w s.2.2.2.2.2.2.2.2.1 w∧HB s.2.2.2.2.2.2.2.2.1 w [(p3,[(vi s.2.1),(vi s.2.2.1),(vi s.2.2.2.1),(vu s.2.2.2.2.1),(vs s.2.2.2.2.2.1),(vi s.2.2.2.2.2.2.1),(vi s.2.2.2.2.2.2.2.1)],127),(p2,[(vi aD),(vi aE),(vi aF),(vu aG),(vs aH),aI.v],76)]∧I1 s.1 s.2.1 s.2.2.1 s.2.2.2.1 s.2.2.2.2.1 s.2.2.2.2.2.1 s.2.2.2.2.2.2.1 s.2.2.2.2.2.2.2.1 s.2.2.2.2.2.2.2.2.1 s.2.2.2.2.2.2.2.2.2) (fun s=>mu1 s.1 s.2.1 s.2.2.1 s.2.2.2.1 s.2.2.2.2.1 s.2.2.2.2.2.1 s.2.2.2.2.2.2.1 s.2.2.2.2.2.2.2.1 s.2.2.2.2.2.2.2.2.2) (0,aD,aE,aF,aG,aH,0,0,H2,w4) ⟨rfl,hm,hs,hb,h0⟩ ?_
 rintro ⟨i1,aA,aB,aC,aK,aJ,aL,aM,Hl1,wl1⟩ ρ w ⟨hw,hH,hs,hb,hI⟩
 dsimp only at hw hH hs hb;subst w
 have h:=hr i1 aA aB aC aK aJ aL aM Hl1 wl1 hs hI
 refine zW hH ?_
 refine zA (eg (qb (q3 (xl (isAgg74 _) (hb.d 1 5 (gS gZ))) (qb (ln ?_)))))
 refine cbr h ?_ ?_<;>intro h
 refine zC (zK (zA (zJ (eg (qb (q3 (xl (isAgg74 _) (hb.d 1 5 (gS gZ))) (q ?_)))))))
 refine qi (runUnderlying74 _) (sizeOf76 _) h fun a1 h=>?_
 obtain ⟨aO,aP,aQ,aR,aS,bB,hv1,h⟩:=h
 refine qa (isAgg76 _) (sizeOf76 _) hv1 ?_
 refine sc call155 (h.mono fun e w5 ⟨r1,r2,k,hk,h⟩=>have ⟨hs,hb⟩:=hk.hh hs hb;⟨_,k,?_⟩)
 refine q (qd (ln (zA (eg (qb ?_)))))
 refine ln ?_
 refine cbr h ?_ ?_<;>intro h
 refine eg (qc (ln (er (vF (uC (vF (vF ?_)))))))
 refine uC (vF (xO (.inl rfl) results155 (v:=(vi 0)) (by kernel_rfl) (v':=(vi r2)) (by kernel_rfl) ?_))
 exact ⟨0,r2,rfl,h⟩
 refine zC (zK (eg (qb (ln ?_))))
 refine vK (fun ρ wJ=>∃b1'0:Bool,∃HJ:NP,((i1 == 0)=b1'0)∧Hst w0 Hl1 w5 HJ wJ∧HB HJ wJ [(p3,[(vi aA),(vi aB),(vi aC),(vu aK),(vs aJ),(vi (cond b1'0 r1 aL)),(vi (cond b1'0 aM r1))],127),(p2,[(vi aD),(vi aE),(vi aF),(vu aG),(vs aH),aI.v],76)]∧Has ρ [(0,(vp p1)),(3,(vp (some p2))),(6,(vp (some p3))),(7,(vi i1))]) ?_ ?_
 refine vH (t:=(i1 == 0)) (by kernel_rfl) (fun hc4=>?_) (fun hc4=>?_)
 refine rg (qb (yW (zL rfl) (yQ (a:=(p3.add 5)) (v:=(vi r1)) (by kernel_rfl) (by kernel_rfl) rfl (sizeOf78 _) (hb.canW 0 5 gZ (by kernel_rfl))) ?_))
 intro w9 hn6
 have hsb:Hst w0 Hl1 w5 Hl1 w9∧HB Hl1 w9 [(p3,[(vi aA),(vi aB),(vi aC),(vu aK),(vs aJ),(vi r1),(vi aM)],127),(p2,[(vi aD),(vi aE),(vi aF),(vu aG),(vs aH),aI.v],76)]:=by
  rw [hn6];exact hb.set (i:=0) 5 (v:=(vi r1)) hs gZ (by kernel_rfl)
 obtain ⟨hs,hb⟩:=hsb
 refine ln ?_
 exact ⟨true,_,hc4,hs,hb,hm⟩
 refine rg (qb (yW (zL rfl) (yQ (a:=(p3.add 6)) (v:=(vi r1)) (by kernel_rfl) (by kernel_rfl) rfl (sizeOf78 _) (hb.canW 0 6 gZ (by kernel_rfl))) ?_))
 intro w10 hn7
 have hsb:Hst w0 Hl1 w5 Hl1 w10∧HB Hl1 w10 [(p3,[(vi aA),(vi aB),(vi aC),(vu aK),(vs aJ),(vi aL),(vi r1)],127),(p2,[(vi aD),(vi aE),(vi aF),(vu aG),(vs aH),aI.v],76)]:=by
  rw [hn7];exact hb.set (i:=0) 6 (v:=(vi r1)) hs gZ (by kernel_rfl)
 obtain ⟨hs,hb⟩:=hsb
 refine ln ?_
 exact ⟨false,_,hc4,hs,hb,hm⟩
 rintro ρ w8 ⟨b1'0,H3,he0,hs,hb,hH⟩
 subst he0
 refine vD hH ?_
 refine xW (zK (rg (qc (zB ?_))))
 have ⟨h,hs⟩:=hs.hr (h H3 w8)
 refine zK ?_
 exact ⟨((q6.wrap (i1+1)),aA,aB,aC,aK,aJ,(cond (i1 == 0) r1 aL),(cond (i1 == 0) aM r1),H3,w8),⟨rfl,hm,hs,hb,h.1⟩,h.2⟩
 refine vO (uU (uU (uY (zK (eg (q0 (vp p1) (q2 (.agg #[(vi aA),(vi aB),(vi aC),(vu aK),(vs aJ),(vi aL),(vi aM)]) (xa p3 [(vi aA),(vi aB),(vi aC),(vu aK),(vs aJ),(vi aL),(vi aM)] (isAgg127 _) (sizeOf127 _) (hb.r0 0 7 gZ)) ?_)))))))
 refine sc call68 (h.mono fun e w11 ⟨r3,r4,k,hk,h⟩=>have ⟨hs,hb⟩:=hk.hh hs hb;⟨_,k,?_⟩)
 refine qd (ln (er (xO (.inl rfl) results155 (v:=(vi r3)) (by kernel_rfl) (v':=(vi r4)) (by kernel_rfl) ?_)))
 exact ⟨r3,r4,rfl,h⟩
def m_C2 (p1:Option Addr) (n1:Int) (w0:World) (K:WP):Prop :=∃a1:Addr,p1=some a1∧∃v1:Sl,w0.cell? a1=some v1.v∧∃s1:Sl,(Instr.sliceAt 49 v1.v none (some (vi n1)) none).run prog w0=.ok s1.v w0∧∃a2:Addr,p1=some a2∧CanW w0 a2∧∀w1:World,w1=w0.setCell a2 s1.v→∃a3:Addr,p1=some a3∧∃v2:Sl,w1.cell? (a3.add 1)=some v2.v∧∃s2:Sl,(Instr.sliceAt 50 v2.v none (some (vi n1)) none).run prog w1=.ok s2.v w1∧∃a4:Addr,p1=some a4∧CanW w1 (a4.add 1)∧∀w2:World,w2=w1.setCell (a4.add 1) s2.v→∃a5:Addr,p1=some a5∧∃v3:Sl,w2.cell? (a5.add 2)=some v3.v∧∃s3:Sl,(Instr.sliceAt 50 v3.v none (some (vi n1)) none).run prog w2=.ok s3.v w2∧∃a6:Addr,p1=some a6∧CanW w2 (a6.add 2)∧∀w3:World,w3=w2.setCell (a6.add 2) s3.v→K w3
theorem w_C2 (p1:Option Addr) (n1:Int) (w0:World) (K:WP) (h:m_C2 p1 n1 w0 K) :
  Calls prog 156 #[(vp p1),(vi n1)] w0 (fun e w'=>e=.returned (.tuple #[])∧K  w'):=by
 refine cw (args:=[(vp p1),(vi n1)]) func156 ntmps156 (eg (q0 (vp p1) (q0 (vp p1) ?_)))
 refine qm h fun a1 h=>q ?_
 refine ql (isAgg49 _) h fun v1 h=>q ?_
 obtain ⟨s1,hv5,h⟩:=h
 refine q2 s1.v (xI (by kernel_rfl) (by kernel_rfl) (by kernel_rfl) (by kernel_rfl) hv5) ?_
 refine qm h fun a2 h=>q ?_
 refine st1 (sizeOf49 _) h fun w1 h=>?_
 refine ln (eg (qb ?_))
 refine qm h fun a3 h=>q ?_
 refine ql (isAgg50 _) h fun v2 h=>q ?_
 obtain ⟨s2,hv3,h⟩:=h
 refine q2 s2.v (xI (by kernel_rfl) (by kernel_rfl) (by kernel_rfl) (by kernel_rfl) hv3) ?_
 refine qm h fun a4 h=>q ?_
 refine st1 (sizeOf50 _) h fun w2 h=>?_
 refine ln (rg (qb ?_))
 refine qm h fun a5 h=>q ?_
 refine ql (isAgg50 _) h fun v3 h=>q ?_
 obtain ⟨s3,hv1,h⟩:=h
 refine q2 s3.v (xI (by kernel_rfl) (by kernel_rfl) (by kernel_rfl) (by kernel_rfl) hv1) ?_
 refine qm h fun a6 h=>q ?_
 refine st1 (sizeOf50 _) h fun w3 h=>?_
 refine zB (jFI (.inr rfl) results156 ?_)
 exact ⟨rfl,h⟩
def m_D2 (p1:Option Addr) (aD aE:Int) (aF aG:Int) (aH:ByteArray) (aI:Sl) (w0:World) (K:Int→Int→WP):Prop :=∀(H1:NP) (w1:World),Hst w0 None w0 H1 w1→Calls prog 154 #[(.agg #[(vi aD),(vi aE),(vi aF),(vu aG),(vs aH),aI.v])] w1 (fun e w2=>∃r1:Int,e=.returned (vi r1)∧Kept H1 w1 w2∧Br (r1 != 0) (K 0 r1 w2) (∃a1:Addr,p1=some a1∧∃v1:Sl,w2.cell? a1=some v1.v∧Calls prog 155 #[(vp p1),(.agg #[(vi aD),(vi aE),(vi aF),(vu aG),(vs aH),aI.v])] w2 (fun e w3=>∃r2 r3:Int,e=.returned (.tuple #[(vi r2),(vi r3)])∧Kept H1 w2 w3∧Br (r3 != 0) (Calls prog 156 #[(vp p1),(vi (v1.len:Int))] w3 (fun e w4=>e=.returned (.tuple #[])∧Kept H1 w3 w4∧K r2 r3 w4)) (K r2 r3 w3))))
theorem w_D2 (p1:Option Addr) (aD aE:Int) (aF aG:Int) (aH:ByteArray) (aI:Sl) (w0:World) (K:Int→Int→WP) (h:m_D2 p1 aD aE aF aG aH aI w0 K) :
  Calls prog 100 #[(vp p1),(.agg #[(vi aD),(vi aE),(vi aF),(vu aG),(vs aH),aI.v])] w0 (fun e w'=>∃r4 r5:Int,e=.returned (.tuple #[(vi r4),(vi r5)])∧K r4 r5 w'):=by
 refine cw (args:=[(vp p1),(.agg #[(vi aD),(vi aE),(vi aF),(vu aG),(vs aH),aI.v])]) func100 ntmps100 ?_
 obtain ⟨hs,hb⟩:=st0 w0
 refine eg (nw3 [(vi aD),(vi aE),(vi aF),(vu aG),(vs aH),aI.v] 76 hs hb xb fun p2 w1 H1 hs hb=>?_)
 refine qb (ln (eg (q2 (.agg #[(vi aD),(vi aE),(vi aF),(vu aG),(vs aH),aI.v]) (xa p2 [(vi aD),(vi aE),(vi aF),(vu aG),(vs aH),aI.v] (isAgg76 _) (sizeOf76 _) (hb.r0 0 6 gZ)) ?_)))
 have ⟨h,hs⟩:=hs.hr (h H1 w1)
 refine sc call154 (h.mono fun e w2 ⟨r1,k,hk,h⟩=>have ⟨hs,hb⟩:=hk.hh hs hb;⟨_,k,?_⟩)
 refine q (ln (zA (eg (qb (ln ?_)))))
 refine cbr h ?_ ?_<;>intro h
 refine eg (qc (ln (er (vF (xO (.inl rfl) results100 (v:=(vi 0)) (by kernel_rfl) (v':=(vi r1)) (by kernel_rfl) ?_)))))
 exact ⟨0,r1,rfl,h⟩
 refine zC (zK (eg (q ?_)))
 refine qm h fun a1 h=>q ?_
 refine ql (isAgg49 _) h fun v1 h=>qb (ln (eg (q (q2 (.agg #[(vi aD),(vi aE),(vi aF),(vu aG),(vs aH),aI.v]) (xa p2 [(vi aD),(vi aE),(vi aF),(vu aG),(vs aH),aI.v] (isAgg76 _) (sizeOf76 _) (hb.r0 0 6 gZ)) ?_))))
 refine sc call155 (h.mono fun e w3 ⟨r2,r3,k,hk,h⟩=>have ⟨hs,hb⟩:=hk.hh hs hb;⟨_,k,?_⟩)
 refine q (qd (ln (zA (eg (qb ?_)))))
 refine ln ?_
 refine cbr h ?_ ?_<;>intro h
 refine rg (qb ?_)
 refine sc call156 (h.mono fun e w4 ⟨k,hk,h⟩=>have ⟨hs,hb⟩:=hk.hh hs hb;⟨_,k,?_⟩)
 refine ln (eg (qd (ln (er (xO (.inl rfl) results100 (v:=(vi r2)) (by kernel_rfl) (v':=(vi r3)) (by kernel_rfl) ?_)))))
 exact ⟨r2,r3,rfl,h⟩
 refine zC (zK (eg (qd (ln (er (xO (.inl rfl) results100 (v:=(vi r2)) (by kernel_rfl) (v':=(vi r3)) (by kernel_rfl) ?_))))))
 exact ⟨r2,r3,rfl,h⟩
end Go.Proofs
end
section
open Go Go.SE
open Go.IntKind renaming i64 → q6
namespace Go.Proofs
open Tryz
set_option maxRecDepth 100000
set_option maxHeartbeats 4000000
attribute [local irreducible] wpL wpX opE wpE Calls
def s_D1 (kind1:Int):Bool :=(((((kind1 == 1) || (kind1 == 6)) || (kind1 == 7)) || (kind1 == 8)) || (kind1 == 9))
theorem pw_D1 (kind1:Int) (w0:World) :
  Calls prog 126 #[(vi kind1)] w0 (fun e w'=>(e=.returned (vb (((((kind1 == 1) || (kind1 == 6)) || (kind1 == 7)) || (kind1 == 8)) || (kind1 == 9))))∧Pure w0 w'):=by
 refine cw (args:=[(vi kind1)]) func126 ntmps126 (eg (q0 (vb false) (ln (zA ?_))))
 refine vK (fun ρ wJ=>w0=wJ∧Has ρ [(2,(vb (((((kind1 == 1) || (kind1 == 6)) || (kind1 == 7)) || (kind1 == 8)) || (kind1 == 9))))]) ?_ ?_
 refine rg (qc ?_)
 refine zI 3 (fun ρ wJ=>∃b6'0:Bool,((kind1 == 1)=b6'0)∧w0=wJ∧Has ρ [(0,(vi kind1)),(8,(vb (b6'0 || (kind1 == 6))))]) ?_ ?_
 rintro ρ w6 ⟨b6'0,he0,hw,hH⟩
 subst he0
 subst hw
 refine zM hH ?_
 refine q ?_
 refine zI 3 (fun ρ wJ=>∃b7'0:Bool,(((kind1 == 1) || (kind1 == 6))=b7'0)∧w0=wJ∧Has ρ [(0,(vi kind1)),(12,(vb (b7'0 || (kind1 == 7))))]) ?_ ?_
 rintro ρ w7 ⟨b7'0,he0,hw,hH⟩
 subst he0
 subst hw
 refine zM hH ?_
 refine q ?_
 refine zI 3 (fun ρ wJ=>∃b8'0:Bool,((((kind1 == 1) || (kind1 == 6)) || (kind1 == 7))=b8'0)∧w0=wJ∧Has ρ [(0,(vi kind1)),(16,(vb (b8'0 || (kind1 == 8))))]) ?_ ?_
 rintro ρ w8 ⟨b8'0,he0,hw,hH⟩
 subst he0
 subst hw
 refine zM hH ?_
 refine q ?_
 refine zI 3 (fun ρ wJ=>∃b9'0:Bool,(((((kind1 == 1) || (kind1 == 6)) || (kind1 == 7)) || (kind1 == 8))=b9'0)∧w0=wJ∧Has ρ [(20,(vb (b9'0 || (kind1 == 9))))]) ?_ ?_
 rintro ρ w9 ⟨b9'0,he0,hw,hH⟩
 subst he0
 subst hw
 refine zM hH ?_
 refine q (ln ?_)
 exact ⟨rfl,hm⟩
 rcases bte ((((kind1 == 1) || (kind1 == 6)) || (kind1 == 7)) || (kind1 == 8)) with hg16 | hg16
 refine sj 17 hg16 (sj 17 hg16 (q2 (vb true) (xT hg16) (zB ?_)))
 exact ⟨true,hg16,rfl,hm⟩
 refine qk 17 hg16 (qk 17 hg16 (q2 (vb (kind1 == 9)) (xF hg16) (zB ?_)))
 exact ⟨false,hg16,rfl,hm⟩
 rcases bte (((kind1 == 1) || (kind1 == 6)) || (kind1 == 7)) with hg14 | hg14
 refine sj 13 hg14 (sj 13 hg14 (q2 (vb true) (xT hg14) (zB ?_)))
 exact ⟨true,hg14,rfl,hm⟩
 refine qk 13 hg14 (qk 13 hg14 (q2 (vb (kind1 == 8)) (xF hg14) (zB ?_)))
 exact ⟨false,hg14,rfl,hm⟩
 rcases bte ((kind1 == 1) || (kind1 == 6)) with hg12 | hg12
 refine sj 9 hg12 (sj 9 hg12 (q2 (vb true) (xT hg12) (zB ?_)))
 exact ⟨true,hg12,rfl,hm⟩
 refine qk 9 hg12 (qk 9 hg12 (q2 (vb (kind1 == 7)) (xF hg12) (zB ?_)))
 exact ⟨false,hg12,rfl,hm⟩
 rcases bte (kind1 == 1) with hg10 | hg10
 refine sj 5 hg10 (sj 5 hg10 (q2 (vb true) (xT hg10) (zB ?_)))
 exact ⟨true,hg10,rfl,hm⟩
 refine qk 5 hg10 (qk 5 hg10 (q2 (vb (kind1 == 6)) (xF hg10) (zB ?_)))
 exact ⟨false,hg10,rfl,hm⟩
 rintro ρ w5 ⟨hw,hH⟩
 subst hw
 refine vD hH ?_
 refine zK (er (rs1 results126 (v:=(vb (((((kind1 == 1) || (kind1 == 6)) || (kind1 == 7)) || (kind1 == 8)) || (kind1 == 9)))) ?_))
 exact ⟨by kernel_rfl,Ext.refl _⟩
theorem p_D1 (kind1:Int) (w0:World):Calls prog 126 #[(.int .i64 kind1)] w0 (fun e w'=>e=.returned (.bool (s_D1 kind1))∧Pure w0 w'):=pw_D1 kind1 w0
def m_Z2 (p1:Sl) (w0:World) (K:(Option Addr)→WP):Prop :=Calls prog 215 #[p1.v] w0 (fun e w1=>∃r1:Sl,e=.returned r1.v∧∀(p2:Addr) (w2:World),New w1 (.cells #[r1.v,(vi 0),(vi 0),(vi 0)] 299) p2 w2→K (some p2) w2)
theorem w_Z2 (p1:Sl) (w0:World) (K:(Option Addr)→WP) (h:m_Z2 p1 w0 K) :
  Calls prog 158 #[p1.v] w0 (fun e w'=>∃r2:Option Addr,e=.returned (vp r2)∧K r2 w'):=by
 refine cw (args:=[p1.v]) func158 ntmps158 (eg (q0 (vp none) (ln (eg (q0 p1.v ?_)))))
 refine sc call215 (h.mono fun e w1 ⟨r1,k,h⟩=>⟨_,k,?_⟩)
 refine q (nw1 h xb fun p2 w2 h=>?_)
 refine q (ln (er (rs1 results158 ⟨(some p2),rfl,h⟩)))
def m_A3  (w0:World) (K:(Option Nat)→WP):Prop :=∀(p1:Addr) (w1:World),New w0 (.cells #[(.nilFunc:Value),(.nilFunc:Value)] 263) p1 w1→(∀j,j<2→CanW w1 (p1.add j))∧∀w2:World,w2=storeRow w1 p1 [(.func (.func 216) #[] #[]),(.func (.func 218) #[] #[])]→∀(p2:Addr) (w3:World),New w2 (.cells #[(.nilFunc:Value),(.nilFunc:Value)] 263) p2 w3→(∀j,j<2→CanW w3 (p2.add j))∧∀w4:World,w4=storeRow w3 p2 [(.func (.func 220) #[] #[]),(.func (.func 221) #[] #[])]→∀(p3:Addr) (w5:World),New w4 (.cells #[(.nilFunc:Value),(.nilFunc:Value)] 263) p3 w5→(∀j,j<2→CanW w5 (p3.add j))∧∀w6:World,w6=storeRow w5 p3 [(.func (.func 222) #[] #[]),(.func (.func 223) #[] #[])]→∀(p4:Addr) (w7:World),New w6 (.cells #[(.nilFunc:Value),(.nilFunc:Value)] 263) p4 w7→(∀j,j<2→CanW w7 (p4.add j))∧∀w8:World,w8=storeRow w7 p4 [(.func (.func 224) #[] #[]),(.func (.func 226) #[] #[])]→∀(p5:Addr) (w9:World),New w8 (.cells #[(.nilFunc:Value),(.nilFunc:Value)] 263) p5 w9→(∀j,j<2→CanW w9 (p5.add j))∧∀w10:World,w10=storeRow w9 p5 [(.func (.func 228) #[] #[]),(.func (.func 229) #[] #[])]→∀(p6:Addr) (w11:World),New w10 (.cells #[(.nilFunc:Value),(.nilFunc:Value)] 263) p6 w11→(∀j,j<2→CanW w11 (p6.add j))∧∀w12:World,w12=storeRow w11 p6 [(.func (.func 230) #[] #[]),(.func (.func 231) #[] #[])]→∀(p7:Addr) (w13:World),New w12 (.map #[] 0) p7 w13→∃vput1:Value,∃vget1:Value,Row w13 p1 [vput1,vget1]∧∀(p8:Addr) (w14:World),New w13 (.cells #[vput1,vget1] 263) p8 w14→∃w15:World,(Instr.mapUpdate 230 (.map (some p7.block)) (vi 1) (Sl.mk (some p8) 1 1).v).run prog w14=.ok () w15∧∃vput2:Value,∃vget2:Value,Row w15 p3 [vput2,vget2]∧∀(p9:Addr) (w16:World),New w15 (.cells #[vput2,vget2] 263) p9 w16→∃w17:World,(Instr.mapUpdate 230 (.map (some p7.block)) (vi 2) (Sl.mk (some p9) 1 1).v).run prog w16=.ok () w17∧∃vput3:Value,∃vget3:Value,Row w17 p4 [vput3,vget3]∧∀(p10:Addr) (w18:World),New w17 (.cells #[vput3,vget3] 263) p10 w18→∃w19:World,(Instr.mapUpdate 230 (.map (some p7.block)) (vi 3) (Sl.mk (some p10) 1 1).v).run prog w18=.ok () w19∧∃vput4:Value,∃vget4:Value,Row w19 p5 [vput4,vget4]∧∃vput5:Value,∃vget5:Value,Row w19 p6 [vput5,vget5]∧∀(p11:Addr) (w20:World),New w19 (.cells #[vput4,vget4,vput5,vget5] 263) p11 w20→∃w21:World,(Instr.mapUpdate 230 (.map (some p7.block)) (vi 4) (Sl.mk (some p11) 2 2).v).run prog w20=.ok () w21∧∃vput6:Value,∃vget6:Value,Row w21 p5 [vput6,vget6]∧∀(p12:Addr) (w22:World),New w21 (.cells #[vput6,vget6] 263) p12 w22→∃w23:World,(Instr.mapUpdate 230 (.map (some p7.block)) (vi 5) (Sl.mk (some p12) 1 1).v).run prog w22=.ok () w23∧∃vput7:Value,∃vget7:Value,Row w23 p1 [vput7,vget7]∧∀(p13:Addr) (w24:World),New w23 (.cells #[vput7,vget7] 263) p13 w24→∃w25:World,(Instr.mapUpdate 230 (.map (some p7.block)) (vi 6) (Sl.mk (some p13) 1 1).v).run prog w24=.ok () w25∧∃vput8:Value,∃vget8:Value,Row w25 p1 [vput8,vget8]∧∃vput9:Value,∃vget9:Value,Row w25 p5 [vput9,vget9]∧∀(p14:Addr) (w26:World),New w25 (.cells #[vput8,vget8,vput9,vget9] 263) p14 w26→∃w27:World,(Instr.mapUpdate 230 (.map (some p7.block)) (vi 7) (Sl.mk (some p14) 2 2).v).run prog w26=.ok () w27∧∃vput10:Value,∃vget10:Value,Row w27 p1 [vput10,vget10]∧∃vput11:Value,∃vget11:Value,Row w27 p2 [vput11,vget11]∧∃vput12:Value,∃vget12:Value,Row w27 p5 [vput12,vget12]∧∀(p15:Addr) (w28:World),New w27 (.cells #[vput10,vget10,vput11,vget11,vput12,vget12] 263) p15 w28→∃w29:World,(Instr.mapUpdate 230 (.map (some p7.block)) (vi 8) (Sl.mk (some p15) 3 3).v).run prog w28=.ok () w29∧∃vput13:Value,∃vget13:Value,Row w29 p1 [vput13,vget13]∧∃vput14:Value,∃vget14:Value,Row w29 p2 [vput14,vget14]∧∃vput15:Value,∃vget15:Value,Row w29 p5 [vput15,vget15]∧∀(p16:Addr) (w30:World),New w29 (.cells #[vput13,vget13,vput14,vget14,vput15,vget15] 263) p16 w30→∃w31:World,(Instr.mapUpdate 230 (.map (some p7.block)) (vi 9) (Sl.mk (some p16) 3 3).v).run prog w30=.ok () w31∧K (some p7.block) w31
theorem w_A3  (w0:World) (K:(Option Nat)→WP) (h:m_A3  w0 K) :
  Calls prog 159 #[] w0 (fun e w'=>∃r1:Option Nat,e=.returned (.map r1)∧K r1 w'):=by
 refine cw (args:=[]) func159 ntmps159 (eg (q0 (.map none) (ln (eg (q0 (.agg #[(.func (.func 216) #[] #[]),(.func (.func 218) #[] #[])]) (sn (O:=(.cells #[(.nilFunc:Value),(.nilFunc:Value)] 263)) (zQ (zeroValue263 _) rfl) ?_))))))
 intro p1 w1 hn22
 have h:=h p1 w1 hn22
 refine sro (sizeOf263 _) h fun w2 h=>?_
 refine ln (eg (q (nw1 h (zQ (zeroValue263 _) rfl) fun p2 w3 h=>?_)))
 refine sro (sizeOf263 _) h fun w4 h=>?_
 refine ln (eg (q (nw1 h (zQ (zeroValue263 _) rfl) fun p3 w5 h=>?_)))
 refine sro (sizeOf263 _) h fun w6 h=>?_
 refine ln (eg (q (nw1 h (zQ (zeroValue263 _) rfl) fun p4 w7 h=>?_)))
 refine sro (sizeOf263 _) h fun w8 h=>?_
 refine ln (eg (q (nw1 h (zQ (zeroValue263 _) rfl) fun p5 w9 h=>?_)))
 refine sro (sizeOf263 _) h fun w10 h=>?_
 refine ln (eg (q (nw1 h (zQ (zeroValue263 _) rfl) fun p6 w11 h=>?_)))
 refine sro (sizeOf263 _) h fun w12 h=>?_
 refine ln (eg (nw4 (fun p=>.map (some p.block)) h fun p7 w13 h=>?_))
 obtain ⟨vput1,vget1,hv24,h⟩:=h
 refine qa (isAgg263 _) (sizeOf263 _) hv24 (nw4 (fun p=>(Sl.mk (some p) 1 1).v) h fun p8 w14 h=>?_)
 obtain ⟨w15,hv23,h⟩:=h
 refine qV (zL rfl) (uT (by kernel_rfl) (by kernel_rfl) (by kernel_rfl) hv23) ?_
 obtain ⟨vput2,vget2,hv22,h⟩:=h
 refine qa (isAgg263 _) (sizeOf263 _) hv22 (nw4 (fun p=>(Sl.mk (some p) 1 1).v) h fun p9 w16 h=>?_)
 obtain ⟨w17,hv21,h⟩:=h
 refine qV (zL rfl) (uT (by kernel_rfl) (by kernel_rfl) (by kernel_rfl) hv21) ?_
 obtain ⟨vput3,vget3,hv20,h⟩:=h
 refine qa (isAgg263 _) (sizeOf263 _) hv20 (nw4 (fun p=>(Sl.mk (some p) 1 1).v) h fun p10 w18 h=>?_)
 obtain ⟨w19,hv19,h⟩:=h
 refine qV (zL rfl) (uT (by kernel_rfl) (by kernel_rfl) (by kernel_rfl) hv19) ?_
 obtain ⟨vput4,vget4,hv18,h⟩:=h
 refine qa (isAgg263 _) (sizeOf263 _) hv18 ?_
 obtain ⟨vput5,vget5,hv17,h⟩:=h
 refine qa (isAgg263 _) (sizeOf263 _) hv17 (nw4 (fun p=>(Sl.mk (some p) 2 2).v) h fun p11 w20 h=>?_)
 obtain ⟨w21,hv16,h⟩:=h
 refine qV (zL rfl) (uT (by kernel_rfl) (by kernel_rfl) (by kernel_rfl) hv16) ?_
 obtain ⟨vput6,vget6,hv15,h⟩:=h
 refine qa (isAgg263 _) (sizeOf263 _) hv15 (nw4 (fun p=>(Sl.mk (some p) 1 1).v) h fun p12 w22 h=>?_)
 obtain ⟨w23,hv14,h⟩:=h
 refine qV (zL rfl) (uT (by kernel_rfl) (by kernel_rfl) (by kernel_rfl) hv14) ?_
 obtain ⟨vput7,vget7,hv13,h⟩:=h
 refine qa (isAgg263 _) (sizeOf263 _) hv13 (nw4 (fun p=>(Sl.mk (some p) 1 1).v) h fun p13 w24 h=>?_)
 obtain ⟨w25,hv12,h⟩:=h
 refine qV (zL rfl) (uT (by kernel_rfl) (by kernel_rfl) (by kernel_rfl) hv12) ?_
 obtain ⟨vput8,vget8,hv11,h⟩:=h
 refine qa (isAgg263 _) (sizeOf263 _) hv11 ?_
 obtain ⟨vput9,vget9,hv10,h⟩:=h
 refine qa (isAgg263 _) (sizeOf263 _) hv10 (nw4 (fun p=>(Sl.mk (some p) 2 2).v) h fun p14 w26 h=>?_)
 obtain ⟨w27,hv9,h⟩:=h
 refine qV (zL rfl) (uT (by kernel_rfl) (by kernel_rfl) (by kernel_rfl) hv9) ?_
 obtain ⟨vput10,vget10,hv8,h⟩:=h
 refine qa (isAgg263 _) (sizeOf263 _) hv8 ?_
 obtain ⟨vput11,vget11,hv7,h⟩:=h
 refine qa (isAgg263 _) (sizeOf263 _) hv7 ?_
 obtain ⟨vput12,vget12,hv6,h⟩:=h
 refine qa (isAgg263 _) (sizeOf263 _) hv6 (nw4 (fun p=>(Sl.mk (some p) 3 3).v) h fun p15 w28 h=>?_)
 obtain ⟨w29,hv5,h⟩:=h
 refine qV (zL rfl) (uT (by kernel_rfl) (by kernel_rfl) (by kernel_rfl) hv5) ?_
 obtain ⟨vput13,vget13,hv4,h⟩:=h
 refine qa (isAgg263 _) (sizeOf263 _) hv4 ?_
 obtain ⟨vput14,vget14,hv3,h⟩:=h
 refine qa (isAgg263 _) (sizeOf263 _) hv3 ?_
 obtain ⟨vput15,vget15,hv2,h⟩:=h
 refine qa (isAgg263 _) (sizeOf263 _) hv2 (nw4 (fun p=>(Sl.mk (some p) 3 3).v) h fun p16 w30 h=>?_)
 obtain ⟨w31,hv1,h⟩:=h
 refine qV (zL rfl) (uT (by kernel_rfl) (by kernel_rfl) (by kernel_rfl) hv1) (q0 (.map (some p7.block)) (q0 (.map (some p7.block)) (ln (er (rs1 results159 ⟨(some p7.block),rfl,h⟩)))))
def m_B3 (r1:Option Addr) (w0:World) (K:Int→WP):Prop :=Br (Option.isNone r1) (K 0 w0) (∃a1:Addr,r1=some a1∧∀(w1:World),Hst w0 None w0 None w1→∃v1:Sl,w1.cell? a1=some v1.v∧∃a2:Addr,r1=some a2∧∃v2:Int,w1.cell? (a2.add 1)=some (vi v2)∧K (q6.wrap ((v1.len:Int) - v2)) w1)
theorem w_B3 (r1:Option Addr) (w0:World) (K:Int→WP) (h:m_B3 r1 w0 K) :
  Calls prog 160 #[(vp r1)] w0 (fun e w'=>∃r2:Int,e=.returned (vi r2)∧K r2 w'):=by
 refine cw (args:=[(vp r1)]) func160 ntmps160 ?_
 obtain ⟨hs,hb⟩:=st0 w0
 refine eg (q (ln (zA (eg (q (q2 (vb (Option.isNone r1)) (vY (by kernel_rfl) rfl underlying228) (ln ?_)))))))
 refine cbr h ?_ ?_<;>intro h
 refine eg (q (ln (er (vF (rs1 results160 ⟨0,rfl,h⟩)))))
 refine zC (zK (zA (qE (by kernel_rfl) (by kernel_rfl) (by kernel_rfl) (by kernel_rfl) ?_)))
 intro w1 hw1
 have hs:Hst w0 None w0 None w1:=by rw [hw1];exact hs.drew
 have hb:HB None w1 []:=by rw [hw1];exact hb.drew
 refine qq 0 (vp r1) Kp0 (qg 1 ?_)
 obtain ⟨a1,hp1,h⟩:=h
 refine sxQ Kp1 (zL rfl) rfl (xn hp1) (qq 2 (vp (some a1)) Kp2 (qg 3 ?_))
 have ⟨h,hs⟩:=hs.hr (h w1)
 obtain ⟨v1,hv2,h⟩:=h
 refine sxQ Kp3 (zL rfl) rfl (xl (isAgg65 _) hv2) (qq 4 (vi (v1.len:Int)) Kp4 (qq 5 (vp r1) Kp5 (qg 6 ?_)))
 obtain ⟨a2,hp2,h⟩:=h
 refine sxQ Kp6 (zL rfl) rfl (xn hp2) (qq 7 (vp (some (a2.add 1))) Kp7 (qg 8 ?_))
 obtain ⟨v2,hv1,h⟩:=h
 refine sxQ Kp8 (zL rfl) rfl (xl (isAgg3 _) hv1) (qq 9 (vi (q6.wrap ((v1.len:Int) - v2))) Kp9 (qq 10 (vi (q6.wrap ((v1.len:Int) - v2))) (zT (S8 (zH (zH zS)))) (wn (zK (er (rs1 results160 ⟨(q6.wrap ((v1.len:Int) - v2)),rfl,h⟩))))))
def m_C3 (r1:Option Addr) (w0:World) (K:Int→WP):Prop :=Br (Option.isNone r1) (K 0 w0) (∃a1:Addr,r1=some a1∧∃v1:Int,w0.cell? (a1.add 1)=some (vi v1)∧K v1 w0)
theorem w_C3 (r1:Option Addr) (w0:World) (K:Int→WP) (h:m_C3 r1 w0 K) :
  Calls prog 161 #[(vp r1)] w0 (fun e w'=>∃r2:Int,e=.returned (vi r2)∧K r2 w'):=by
 refine cw (args:=[(vp r1)]) func161 ntmps161 (eg (q0 (vi 0) (ln (zA (eg (q0 (vp r1) (q2 (vb (Option.isNone r1)) (vY (by kernel_rfl) rfl underlying228) (zB ?_))))))))
 refine zK ?_
 refine cbr h ?_ ?_<;>intro h
 refine eg (q (ln (er (vF (rs1 results161 ⟨0,rfl,h⟩)))))
 refine zC (zK (eg (q ?_)))
 refine qm h fun a1 h=>q ?_
 refine ql (isAgg3 _) h fun v1 h=>q (ln (er (rs1 results161 ⟨v1,rfl,h⟩)))
def m_D3 (r1:Option Addr) (w0:World) (K:Int→WP):Prop :=∀(p1:Addr) (w1:World),New w0 (.cells #[(vp r1)] 228) p1 w1→∀(p2:Addr) (w2:World),New w1 (.cells #[(.int .u8 0)] 5) p2 w2→∃v1:Option Addr,w2.cell? p1=some (vp v1)∧Calls prog 288 #[(vp v1),(.func (.func 292) #[] #[(vp (some p1)),(vp (some p2))])] w2 (fun e w3=>e=.returned (.tuple #[])∧∃v2:Int,w3.cell? p2=some (.int .u8 v2)∧CanW w3 p2∧∀w4:World,w4=w3.setCell p2 (.int .u8 v2)→∃aE:Int,w4.cell? p2=some (.int .u8 aE)∧K aE w4)
theorem w_D3 (r1:Option Addr) (w0:World) (K:Int→WP) (h:m_D3 r1 w0 K) :
  Calls prog 232 #[(vp r1)] w0 (fun e w'=>∃r2:Int,e=.returned (.int .u8 r2)∧K r2 w'):=by
 refine cw (args:=[(vp r1)]) func232 ntmps232 (eg (sn (O:=(.cells #[(vp r1)] 228)) xb ?_))
 intro p1 w1 hn3
 have h:=h p1 w1 hn3
 refine nw1 h (zQ (zeroValue5 _) rfl) fun p2 w2 h=>?_
 refine ln (eg ?_)
 refine ql (isAgg228 _) h fun v1 h=>q ?_
 refine sc call288 (h.mono fun e w3 ⟨k,h⟩=>⟨_,k,?_⟩)
 refine ln (eg ?_)
 refine ql (isAgg5 _) h fun v2 h=>?_
 refine st1 (sizeOf5 _) h fun w4 h=>?_
 refine ln (er ?_)
 obtain ⟨aE,hv1,h⟩:=h
 refine gg1 results232 (RV.cell1 (A:=p2) (by kernel_rfl) (isAgg5 _) hv1) ⟨aE,rfl,h⟩
def m_E3 (r1:Option Addr) (w0:World) (K:Int→Int→WP):Prop :=Br (Option.isNone r1) (K 0 0 w0) (∃a1:Addr,r1=some a1∧∀(w1:World),Hst w0 None w0 None w1→∃v1:Int,w1.cell? (a1.add 2)=some (vi v1)∧∃a2:Addr,r1=some a2∧∃v2:Int,w1.cell? (a2.add 3)=some (vi v2)∧K v1 v2 w1)
theorem w_E3 (r1:Option Addr) (w0:World) (K:Int→Int→WP) (h:m_E3 r1 w0 K) :
  Calls prog 233 #[(vp r1)] w0 (fun e w'=>∃r2 r3:Int,e=.returned (.tuple #[(vi r2),(vi r3)])∧K r2 r3 w'):=by
 refine cw (args:=[(vp r1)]) func233 ntmps233 ?_
 obtain ⟨hs,hb⟩:=st0 w0
 refine eg (qb (ln (zA (eg (q (q2 (vb (Option.isNone r1)) (vY (by kernel_rfl) rfl underlying228) (zB ?_)))))))
 refine zK ?_
 refine cbr h ?_ ?_<;>intro h
 refine eg (qb (ln (er (vF (xO (.inl rfl) results233 (v:=(vi 0)) (by kernel_rfl) (v':=(vi 0)) (by kernel_rfl) ?_)))))
 exact ⟨0,0,rfl,h⟩
 refine zC (zK (zA (qE (by kernel_rfl) (by kernel_rfl) (by kernel_rfl) (by kernel_rfl) ?_)))
 intro w1 hw1
 have hs:Hst w0 None w0 None w1:=by rw [hw1];exact hs.drew
 have hb:HB None w1 []:=by rw [hw1];exact hb.drew
 refine qq 0 (vp r1) Kp0 (qg 1 ?_)
 obtain ⟨a1,hp1,h⟩:=h
 refine sxQ Kp1 (zL rfl) rfl (xn hp1) (qq 2 (vp (some (a1.add 2))) Kp2 (qg 3 ?_))
 have ⟨h,hs⟩:=hs.hr (h w1)
 obtain ⟨v1,hv2,h⟩:=h
 refine sxQ Kp3 (zL rfl) rfl (xl (isAgg33 _) hv2) (qq 4 (vp r1) Kp4 (qg 5 ?_))
 obtain ⟨a2,hp2,h⟩:=h
 refine sxQ Kp5 (zL rfl) rfl (xn hp2) (qq 6 (vp (some (a2.add 3))) Kp6 (qg 7 ?_))
 obtain ⟨v2,hv1,h⟩:=h
 refine sxQ Kp7 (zL rfl) rfl (xl (isAgg3 _) hv1) (qq 8 (vi v1) Kp8 (qq 9 (vi v2) Kp9 (wn (zK (er (xO (.inl rfl) results233 (v:=(vi v1)) (by kernel_rfl) (v':=(vi v2)) (by kernel_rfl) ?_))))))
 exact ⟨v1,v2,rfl,h⟩
def s_N (n1:Int):Int :=(cond (decide (n1>2147483647)) (-1) (q6.wrap n1))
theorem pw_N (n1:Int) (w0:World) :
  Calls prog 234 #[(vu n1)] w0 (fun e w'=>∃b'0:Bool,((decide (n1>2147483647))=b'0)∧(e=.returned (vi (cond b'0 (-1) (q6.wrap n1))))∧Pure w0 w'):=by
 refine cw (args:=[(vu n1)]) func234 ntmps234 (eg (q0 (vi 0) (ln (zA (eg (q0 (vu n1) (q0 (vb (decide (n1>2147483647))) (zB ?_))))))))
 refine zK ?_
 refine vH (t:=(decide (n1>2147483647))) (by kernel_rfl) (fun hc1=>?_) (fun hc1=>?_)
 refine eg (q (ln (er (vF (rs1 results234 (v:=(vi (-1))) ?_)))))
 exact ⟨true,hc1,by kernel_rfl,Ext.refl _⟩
 refine zC (zK (eg (qc (ln (er (rs1 results234 (v:=(vi (q6.wrap n1))) ?_))))))
 exact ⟨false,hc1,by kernel_rfl,Ext.refl _⟩
theorem p_N (n1:Int) (w0:World):Calls prog 234 #[(.int .u64 n1)] w0 (fun e w'=>e=.returned (.int .i64 (s_N n1))∧Pure w0 w'):=by
 refine (pw_N n1 w0).mono ?_;rintro e w' ⟨b'0,e0,h,E⟩;subst e0;exact ⟨h,E⟩
def s_S (aC aA:Int) (aD aF:Int) (aG:ByteArray) (aH aI:Int):Int :=(cond (((((decide (aA<0)) || (decide (aA≥16))) || (decide (aD<0))) || (decide (aD≥16))) || (((aC == 8) || (aC == 9)) && (aA == aD))) 50 0)
theorem pw_S (aC aA:Int) (aD aF:Int) (aG:ByteArray) (aH aI:Int) (w0:World) :
  Calls prog 235 #[(.agg #[(vi aC),(vi aA),(vi aD),(vu aF),(vs aG),(vi aH),(vi aI)])] w0 (fun e w'=>∃b'0:Bool,((((((decide (aA<0)) || (decide (aA≥16))) || (decide (aD<0))) || (decide (aD≥16))) || (((aC == 8) || (aC == 9)) && (aA == aD)))=b'0)∧(e=.returned (vi (cond b'0 50 0)))∧Pure w0 w'):=by
 refine cw (args:=[(.agg #[(vi aC),(vi aA),(vi aD),(vu aF),(vs aG),(vi aH),(vi aI)])]) func235 ntmps235 ?_
 obtain ⟨hs,hb⟩:=st0 w0
 refine eg (nw3 [(vi aC),(vi aA),(vi aD),(vu aF),(vs aG),(vi aH),(vi aI)] 127 hs hb xb fun p1 w1 H1 hs hb=>?_)
 refine q (ln (zA ?_))
 refine vK (fun ρ wJ=>∃HJ:NP,Hst w0 None w0 HJ wJ∧HB HJ wJ [(p1,[(vi aC),(vi aA),(vi aD),(vu aF),(vs aG),(vi aH),(vi aI)],127)]∧Has ρ [(1,(vp (some p1))),(3,(vb ((aC == 8) || (aC == 9))))]) ?_ ?_
 refine rg (q (q3 (xl (isAgg3 _) (hb.d0 0 gZ)) (qb ?_)))
 refine zI 4 (fun ρ wJ=>∃b3'0:Bool,∃HJ:NP,((aC == 8)=b3'0)∧Hst w0 None w0 HJ wJ∧HB HJ wJ [(p1,[(vi aC),(vi aA),(vi aD),(vu aF),(vs aG),(vi aH),(vi aI)],127)]∧Has ρ [(1,(vp (some p1))),(11,(vb (b3'0 || (aC == 9))))]) ?_ ?_
 rintro ρ w4 ⟨b3'0,H4,he0,hs,hb,hH⟩
 subst he0
 refine zM hH ?_
 refine q (ln ?_)
 exact ⟨_,hs,hb,hm⟩
 rcases bte (aC == 8) with hg4 | hg4
 refine sj 7 hg4 (sj 7 hg4 (sj 7 hg4 (q2 (vb true) (xT hg4) (zB ?_))))
 exact ⟨true,_,hg4,hs,hb,hm⟩
 refine qk 7 hg4 (q4 7 hg4 (xl (isAgg3 _) (hb.d0 0 gZ)) (qk 7 hg4 (q2 (vb (aC == 9)) (xF hg4) (zB ?_))))
 exact ⟨false,_,hg4,hs,hb,hm⟩
 rintro ρ w3 ⟨H3,hs,hb,hH⟩
 refine vD hH ?_
 refine zK (zA (zA ?_))
 refine vK (fun ρ wJ=>∃b8'0:Bool,∃HJ:NP,(((((decide (aA<0)) || (decide (aA≥16))) || (decide (aD<0))) || (decide (aD≥16)))=b8'0)∧Hst w0 None w0 HJ wJ∧HB HJ wJ [(p1,[(vi aC),(vi aA),(vi aD),(vu aF),(vs aG),(vi aH),(vi aI)],127)]∧Has ρ [(39,(vb (b8'0 || (((aC == 8) || (aC == 9)) && (aA == aD)))))]) ?_ ?_
 refine rg (q (q3 (xl (isAgg3 _) (hb.d 0 1 gZ)) (qb ?_)))
 refine zI 4 (fun ρ wJ=>∃b9'0:Bool,∃HJ:NP,((decide (aA<0))=b9'0)∧Hst w0 None w0 HJ wJ∧HB HJ wJ [(p1,[(vi aC),(vi aA),(vi aD),(vu aF),(vs aG),(vi aH),(vi aI)],127)]∧Has ρ [(1,(vp (some p1))),(3,(vb ((aC == 8) || (aC == 9)))),(19,(vb (b9'0 || (decide (aA≥16)))))]) ?_ ?_
 rintro ρ w10 ⟨b9'0,H10,he0,hs,hb,hH⟩
 subst he0
 refine zM hH ?_
 refine q ?_
 refine zI 4 (fun ρ wJ=>∃b10'0:Bool,∃HJ:NP,(((decide (aA<0)) || (decide (aA≥16)))=b10'0)∧Hst w0 None w0 HJ wJ∧HB HJ wJ [(p1,[(vi aC),(vi aA),(vi aD),(vu aF),(vs aG),(vi aH),(vi aI)],127)]∧Has ρ [(1,(vp (some p1))),(3,(vb ((aC == 8) || (aC == 9)))),(24,(vb (b10'0 || (decide (aD<0)))))]) ?_ ?_
 rintro ρ w11 ⟨b10'0,H11,he0,hs,hb,hH⟩
 subst he0
 refine zM hH ?_
 refine q ?_
 refine zI 4 (fun ρ wJ=>∃b11'0:Bool,∃HJ:NP,((((decide (aA<0)) || (decide (aA≥16))) || (decide (aD<0)))=b11'0)∧Hst w0 None w0 HJ wJ∧HB HJ wJ [(p1,[(vi aC),(vi aA),(vi aD),(vu aF),(vs aG),(vi aH),(vi aI)],127)]∧Has ρ [(1,(vp (some p1))),(3,(vb ((aC == 8) || (aC == 9)))),(29,(vb (b11'0 || (decide (aD≥16)))))]) ?_ ?_
 rintro ρ w12 ⟨b11'0,H12,he0,hs,hb,hH⟩
 subst he0
 refine zM hH ?_
 refine q ?_
 rcases bte ((((decide (aA<0)) || (decide (aA≥16))) || (decide (aD<0))) || (decide (aD≥16))) with hg20 | hg20
 refine sj 30 hg20 (sj 30 hg20 (sm (sm (sm (sm (sm (sj 30 hg20 (q2 (vb true) (xT hg20) (ln ?_)))))))))
 exact ⟨true,_,hg20,hs,hb,hm⟩
 refine qk 30 hg20 (qk 30 hg20 ?_)
 refine zI 6 (fun ρ wJ=>∃b12'0:Bool,∃HJ:NP,(((aC == 8) || (aC == 9))=b12'0)∧Hst w0 None w0 HJ wJ∧HB HJ wJ [(p1,[(vi aC),(vi aA),(vi aD),(vu aF),(vs aG),(vi aH),(vi aI)],127)]∧Has ρ [(30,(vb ((((decide (aA<0)) || (decide (aA≥16))) || (decide (aD<0))) || (decide (aD≥16))))),(38,(vb (b12'0 && (aA == aD))))]) ?_ ?_
 rintro ρ w13 ⟨b12'0,H13,he0,hs,hb,hH⟩
 subst he0
 refine zM hH ?_
 refine q2 (vb (((aC == 8) || (aC == 9)) && (aA == aD))) (xF hg20) (ln ?_)
 exact ⟨false,_,hg20,hs,hb,hm⟩
 rcases bte ((aC == 8) || (aC == 9)) with hg22 | hg22
 refine qk 32 hg22 (q4 32 hg22 (xl (isAgg3 _) (hb.d 0 1 gZ)) (qk 32 hg22 (q4 32 hg22 (xl (isAgg3 _) (hb.d 0 2 gZ)) (qk 32 hg22 (stq (v:=(vb (aA == aD))) (wy 30 hg20) (xT hg22) (zB ?_))))))
 exact ⟨true,_,hg22,hs,hb,hm⟩
 refine sj 32 hg22 (sj 32 hg22 (sj 32 hg22 (sj 32 hg22 (sj 32 hg22 (stq (v:=(vb false)) (wy 30 hg20) (xF hg22) (zB ?_))))))
 exact ⟨false,_,hg22,hs,hb,hm⟩
 rcases bte (((decide (aA<0)) || (decide (aA≥16))) || (decide (aD<0))) with hg19 | hg19
 refine sj 25 hg19 (sj 25 hg19 (sj 25 hg19 (q2 (vb true) (xT hg19) (zB ?_))))
 exact ⟨true,_,hg19,hs,hb,hm⟩
 refine qk 25 hg19 (q4 25 hg19 (xl (isAgg3 _) (hb.d 0 2 gZ)) (qk 25 hg19 (q2 (vb (decide (aD≥16))) (xF hg19) (zB ?_))))
 exact ⟨false,_,hg19,hs,hb,hm⟩
 rcases bte ((decide (aA<0)) || (decide (aA≥16))) with hg17 | hg17
 refine sj 20 hg17 (sj 20 hg17 (sj 20 hg17 (q2 (vb true) (xT hg17) (zB ?_))))
 exact ⟨true,_,hg17,hs,hb,hm⟩
 refine qk 20 hg17 (q4 20 hg17 (xl (isAgg3 _) (hb.d 0 2 gZ)) (qk 20 hg17 (q2 (vb (decide (aD<0))) (xF hg17) (zB ?_))))
 exact ⟨false,_,hg17,hs,hb,hm⟩
 rcases bte (decide (aA<0)) with hg15 | hg15
 refine sj 15 hg15 (sj 15 hg15 (sj 15 hg15 (q2 (vb true) (xT hg15) (zB ?_))))
 exact ⟨true,_,hg15,hs,hb,hm⟩
 refine qk 15 hg15 (q4 15 hg15 (xl (isAgg3 _) (hb.d 0 1 gZ)) (qk 15 hg15 (q2 (vb (decide (aA≥16))) (xF hg15) (zB ?_))))
 exact ⟨false,_,hg15,hs,hb,hm⟩
 rintro ρ w9 ⟨b8'0,H9,he0,hs,hb,hH⟩
 subst he0
 refine vD hH ?_
 refine zK ?_
 refine vH (t:=(((((decide (aA<0)) || (decide (aA≥16))) || (decide (aD<0))) || (decide (aD≥16))) || (((aC == 8) || (aC == 9)) && (aA == aD)))) (by kernel_rfl) (fun hc1=>?_) (fun hc1=>?_)
 refine eg (q (ln (er (vF (rs1 results235 (v:=(vi 50)) ?_)))))
 exact ⟨true,hc1,by kernel_rfl,(Ext.refl (F:=None) _).hst hs⟩
 refine zC (zK (eg (q (ln (er (rs1 results235 (v:=(vi 0)) ?_))))))
 exact ⟨false,hc1,by kernel_rfl,(Ext.refl (F:=None) _).hst hs⟩
theorem p_S (aC aA:Int) (aD aF:Int) (aG:ByteArray) (aH aI:Int) (w0:World):Calls prog 235 #[(.agg #[(.int .i64 aC),(.int .i64 aA),(.int .i64 aD),(.int .u64 aF),(.string aG),(.int .i64 aH),(.int .i64 aI)])] w0 (fun e w'=>e=.returned (.int .i64 (s_S aC aA aD aF aG aH aI))∧Pure w0 w'):=by
 refine (pw_S aC aA aD aF aG aH aI w0).mono ?_;rintro e w' ⟨b'0,e0,h,E⟩;subst e0;exact ⟨h,E⟩
def m_H_j4 (aE:Option Addr) (p1:Addr) (H:NP) (w:World) (K:Int→WP):Prop :=∃aW aX:Int,∃aY aZ:Int,∃bA:ByteArray,∃bB bC:Int,Row w p1 [(vi aW),(vi aX),(vi aY),(vu aZ),(vs bA),(vi bB),(vi bC)]∧Calls prog 112 #[(vp aE),(.agg #[(vi aW),(vi aX),(vi aY),(vu aZ),(vs bA),(vi bB),(vi bC)])] w (fun e w14=>∃r8:Int,∃r9:Bool,e=.returned (.tuple #[(vi r8),(vb r9)])∧Kept H w w14∧Br r9 (K 72 w14) (∃bD bE:Int,∃bF bG:Int,∃bH:ByteArray,∃bI bJ:Int,Row w14 p1 [(vi bD),(vi bE),(vi bF),(vu bG),(vs bH),(vi bI),(vi bJ)]∧Calls prog 109 #[(vp aE),(.agg #[(vi bD),(vi bE),(vi bF),(vu bG),(vs bH),(vi bI),(vi bJ)])] w14 (fun e w15=>∃r10 r11:Int,e=.returned (.tuple #[(vi r10),(vi r11)])∧Kept H w14 w15∧K r11 w15)))
def m_H_j3 (aE:Option Addr) (p1:Addr) (H:NP) (w:World) (K:Int→WP):Prop :=∃v7:Int,w.cell? (p1.add 11)=some (vi v7)∧Br (decide (v7>1)) (∃v8:Int,w.cell? (p1.add 10)=some (vu v8)∧CanW w (p1.add 6)∧¬ H (p1.add 6).block∧∀w16:World,w16=w.setCell (p1.add 6) (vi (q6.wrap (IntKind.u64.wrap (v8+1))))→m_H_j4 aE p1 H w16 K) (m_H_j4 aE p1 H w K)
def m_H_j2 (aE:Option Addr) (p1:Addr) (x2:Bool) (H:NP) (w:World) (K:Int→WP):Prop :=Br x2 (K 71 w) (∃v6:Int,w.cell? (p1.add 11)=some (vi v6)∧Br (decide (v6>0)) (∃v9:Int,w.cell? (p1.add 9)=some (vu v9)∧CanW w (p1.add 5)∧¬ H (p1.add 5).block∧∀w17:World,w17=w.setCell (p1.add 5) (vi (q6.wrap (IntKind.u64.wrap (v9+1))))→m_H_j3 aE p1 H w17 K) (m_H_j3 aE p1 H w K))
def m_H_j5 (aE:Option Addr) (p1:Addr) (r7:Int) (x3:Bool) (H:NP) (w:World) (K:Int→WP):Prop :=Br x3 (m_H_j2 aE p1 true H w K) (∃v11:Int,w.cell? (p1.add 11)=some (vi v11)∧Br (decide (v11>1)) (∃v12:Int,w.cell? (p1.add 10)=some (vu v12)∧m_H_j2 aE p1 (decide (v12≥(IntKind.u64.wrap r7))) H w K) (m_H_j2 aE p1 false H w K))
def m_H_l1 (aE:Option Addr) (r1:Option Addr) (p1:Addr) (v2:Sl) (x1:Int) (w0:World) (Hl1:NP) (wl1:World) (Kc1:Int→NP→WP) (K:Int→WP):Prop :=Br (decide (x1<(v2.len:Int))) (∃a1:Addr,At v2 x1 2 a1∧∃vput1:Value,∃vget1:Value,Row wl1 a1 [vput1,vget1]∧∀(p2:Addr) (w3:World),New wl1 (.cells #[(.nilFunc:Value),(.nilFunc:Value)] 263) p2 w3→([vput1,vget1].all qH=true∧∀j,j<2→CanW w3 (p2.add j))∧¬ Hl1 p2.block∧∀w4:World,w4=storeRow w3 p2 [vput1,vget1]→∃v3:Value,w4.cell? (p2.add 1)=some v3∧∃(f1:FuncId) (fs1 cs1:Array Value),v3=.func (.func f1) fs1 cs1∧(∀args w,(callFunc f1 args).run prog w=.ok (.enter f1 args) w)∧Calls prog f1 (fs1++#[(vp r1),(vp (some p1))]++cs1) w4 (fun e w5=>e=.returned (.tuple #[])∧Kept Hl1 w4 w5∧Kc1 (q6.wrap (x1+1)) Hl1 w5)) (Calls prog 233 #[(vp r1)] wl1 (fun e w6=>∃r3 r4:Int,e=.returned (.tuple #[(vi r3),(vi r4)])∧Kept Hl1 wl1 w6∧Br (r3 != 0) (K r3 w6) (∃C1:WP,C1 w6.drew∧∀w7,w7=w6.drew→∃v4:Int,w7.cell? (p1.add 7)=some (vu v4)∧∃v5:Int,(∀w',C1 w'→w'.cell? (p1.add 8)=some (vu v5))∧Calls prog 234 #[(vu v4)] w7 (fun e w8=>∃r5:Int,e=.returned (vi r5)∧C1 w8∧Kept Hl1 w7 w8∧Calls prog 234 #[(vu v5)] w8 (fun e w9=>∃r6:Int,e=.returned (vi r6)∧C1 w9∧Kept Hl1 w8 w9∧CanW w9 (p1.add 1)∧¬ Hl1 (p1.add 1).block∧∀w10:World,w10=w9.setCell (p1.add 1) (vi r5)→C1 w10∧CanW w10 (p1.add 2)∧¬ Hl1 (p1.add 2).block∧∀w11:World,w11=w10.setCell (p1.add 2) (vi r6)→∃aB aO:Int,∃aN aM:Int,∃aL:ByteArray,∃aK aJ:Int,Row w11 p1 [(vi aB),(vi aO),(vi aN),(vu aM),(vs aL),(vi aK),(vi aJ)]∧Br (((s_S aB aO aN aM aL aK aJ):Int) != 0) (∀(w12:World),Hst w0 Hl1 w11 Hl1 w12→K (s_S aB aO aN aM aL aK aJ) w12) (∀(w12:World),Hst w0 Hl1 w11 Hl1 w12→Calls prog 103 #[(vp aE)] w12 (fun e w13=>∃r7:Int,e=.returned (vi r7)∧Kept Hl1 w12 w13∧∃v10:Int,w13.cell? (p1.add 11)=some (vi v10)∧Br (decide (v10>0)) (∃v13:Int,w13.cell? (p1.add 9)=some (vu v13)∧m_H_j5 aE p1 r7 (decide (v13≥(IntKind.u64.wrap r7))) Hl1 w13 K) (m_H_j5 aE p1 r7 false Hl1 w13 K))))))))
def m_H (aE:Option Addr) (r1:Option Addr) (kinds1:Option Nat) (w0:World) (K:Int→WP):Prop :=Calls prog 232 #[(vp r1)] w0 (fun e w1=>∃r2:Int,e=.returned (.int .u8 r2)∧Kept None w0 w1∧∀(p1:Addr) (w2:World),New w1 (.cells #[(vi (q6.wrap r2)),(vi 0),(vi 0),(vu 0),ve,(vi 0),(vi 0),(vu 0),(vu 0),(vu 0),(vu 0),(vi 0)] 303) p1 w2→∃v1:Int,w2.cell? p1=some (vi v1)∧∃v2:Sl,∃ok1:Bool,(Instr.lookup 230 (.map kinds1) (vi v1) true).run prog w2=.ok (.tuple #[v2.v,(vb ok1)]) w2∧Br (!ok1) (K 70 w2) (∃(I1:Int→NP→WP) (mu1:Int→World→Nat),I1 0 None w2∧∀(x1:Int) (Hl1:NP) (wl1:World),Hst w0 Hl1 wl1 Hl1 wl1→I1 x1 Hl1 wl1→m_H_l1 aE r1 p1 v2 x1 w0 Hl1 wl1 (fun y'0 H' w'=>I1 y'0 H' w'∧mu1 y'0 w'<mu1 x1 wl1) K))
theorem w_H (aE:Option Addr) (r1:Option Addr) (kinds1:Option Nat) (w0:World) (K:Int→WP) (h:m_H aE r1 kinds1 w0 K) :
  Calls prog 162 #[(vp aE),(vp r1),(.map kinds1)] w0 (fun e w'=>∃r12:Int,e=.returned (vi r12)∧K r12 w'):=by
 refine cw (args:=[(vp aE),(vp r1),(.map kinds1)]) func162 ntmps162 ?_
 obtain ⟨hs,hb⟩:=st0 w0
 refine eg (q (ln (eg (q ?_))))
 refine sc call232 (h.mono fun e w1 ⟨r2,k,hk,h⟩=>have ⟨hs,hb⟩:=hk.hh hs hb;⟨_,k,?_⟩)
 refine qc (nw2 hs hb h xb fun p1 w2 hs hb h=>?_)
 refine q (ln (eg (q (qd ?_))))
 refine ql (isAgg3 _) h fun v1 h=>?_
 obtain ⟨v2,ok1,hv17,h⟩:=h
 refine q2 (.tuple #[v2.v,(vb ok1)]) (qQ (by kernel_rfl) (by kernel_rfl) hv17) (q (qd (ln (zA (eg (q ?_))))))
 refine q (ln ?_)
 refine cbr h ?_ ?_<;>intro h
 refine eg (q (ln (er (vF (rs1 results162 ⟨70,rfl,h⟩)))))
 refine zC (zK (zA (eg (qc (ln (zJ ?_))))))
 obtain ⟨I1,mu1,h0,hr⟩:=h
 refine vP (σ:=Int×NP×World) (fun s ρ w=>w=s.2.2∧Has ρ [(0,(vp aE)),(1,(vp r1)),(7,(vp (some p1))),(38,v2.v),(39,(vi (v2.len:Int))),(40,(vi s.1))]∧Hst w0 s.2.1 w s.2.1 w∧HB s.2.1 w []∧I1 s.1 s.2.1 s.2.2) (fun s=>mu1 s.1 s.2.2) (0,None,w2) ⟨rfl,hm,hs,hb,h0⟩ ?_
 rintro ⟨x1,Hl1,wl1⟩ ρ w ⟨hw,hH,hs,hb,hI⟩
 dsimp only at hw hH hs hb;subst w
 have h:=hr x1 Hl1 wl1 hs hI
 refine zW hH ?_
 refine eg (q (ln (zA ?_)))
 refine cbr h ?_ ?_<;>intro h
 refine zC (zK (zA (zJ (eg ?_))))
 refine qi (runUnderlying259 _) (sizeOf263 _) h fun a1 h=>?_
 obtain ⟨vput1,vget1,hv2,h⟩:=h
 refine qa (isAgg263 _) (sizeOf263 _) hv2 (nw2 hs hb h (zQ (zeroValue263 _) rfl) fun p2 w3 hs hb h=>?_)
 obtain ⟨hp1,hnh,h⟩:=h
 refine ss (jBE (a:=p2) (vs:=[vput1,vget1]) (by kernel_rfl) (by kernel_rfl) hp1.1 (sizeOf263 _) rfl hp1.2) ?_
 intro w4 hn1
 have h:=h w4 hn1
 have hk:Kept Hl1 w3 w4:=by rw [hn1];exact Kept.storeRow hnh
 obtain ⟨hs,hb⟩:=hk.hh hs hb
 refine ln (rg (q ?_))
 refine ql (isAgg261 _) h fun v3 h=>qb ?_
 obtain ⟨f1,fs1,cs1,hp2,h⟩:=h
 obtain ⟨hf1,h⟩:=h
 refine kZ (zL rfl) (lA (fs:=fs1) (caps:=cs1) (args:=#[(vp r1),(vp (some p1))]) (by kernel_rfl) hp2 hf1 (by kernel_rfl) rfl) (h.mono ?_)
 rintro e w5 ⟨rfl,hk,h⟩
 refine ⟨_,rfl,?_⟩
 obtain ⟨hs,hb⟩:=hk.hh hs hb
 refine zB (xW (zK (rg (qb (ln ?_)))))
 exact ⟨((q6.wrap (x1+1)),Hl1,w5),⟨rfl,hm,hs,hb,h.1⟩,h.2⟩
 refine vO (uU (uU (uY (zK (zA (eg (q0 (vp r1) ?_)))))))
 refine sc call233 (h.mono fun e w6 ⟨r3,r4,k,hk,h⟩=>have ⟨hs,hb⟩:=hk.hh hs hb;⟨_,k,?_⟩)
 refine q (qd (ln (eg (qb (zB ?_)))))
 refine zK ?_
 refine cbr h ?_ ?_<;>intro h
 refine eg (qb (ln (er (vF (rs1 results162 ⟨r3,rfl,h⟩)))))
 refine zC (zK (zA ?_))
 obtain ⟨C1,hC,h⟩:=h
 refine dr2 C1 [6,11,15,19] [19] hC h hs hb fun w7 hs hb h=>?_
 have hs:=hs.here
 refine qx 0 (vp (some p1)) Kp0 (qx 1 (vp (some p1)) Kp1 (qx 2 (vp (some p1)) Kp2 (qx 3 (vp (some p1)) Kp3 (qx 4 (vp (some (p1.add 7))) Kp4 (qg 5 ?_)))))
 obtain ⟨v4,hv16,h⟩:=h
 refine sye Kp5 (xl (isAgg23 _) hv16) (qx 7 (vp (some p1)) Kp7 (qx 8 (vp (some p1)) Kp8 (qx 9 (vp (some (p1.add 8))) Kp9 (qg 10 ?_))))
 obtain ⟨v5,hv15,h⟩:=h
 refine sy (zT (S8 (zH (zH zS)))) (fun _ k=>xl (isAgg23 _) (hv15 _ k)) (lg 6 ?_)
 refine slc Kp6 call234 (h.mono ?_)
 rintro e w8 ⟨r5,rfl,hC,hk,h⟩
 refine ⟨_,rfl,.inr hC,?_⟩
 obtain ⟨hs,hb⟩:=hk.hh hs hb
 refine lg 11 ?_
 refine slc (zT (S8 (zH (zH (zH zS))))) call234 (h.mono ?_)
 rintro e w9 ⟨r6,rfl,hC,hk,h⟩
 refine ⟨_,rfl,.inr hC,?_⟩
 obtain ⟨hs,hb⟩:=hk.hh hs hb
 refine qx 12 (vp (some p1)) (zT (S8 (S4 zS))) (qx 13 (vp (some p1)) (zT (S8 (S4 (zH zS)))) (qx 14 (vp (some (p1.add 1))) (zT (S8 (S4 (zH (zH zS))))) (lg 15 ?_)))
 obtain ⟨hp3,hnh,h⟩:=h
 refine jSX (zT (S8 (S4 (zH (zH (zH zS)))))) (xs (v:=(vi r5)) (sizeOf3 _) hp3) ?_
 intro w10 hn3
 have h:=h w10 hn3
 refine ⟨.inr h.1,?_⟩
 have h:=h.2
 have hk:=Kept.sc hnh hn3
 obtain ⟨hs,hb⟩:=hk.hh hs hb
 refine qx 16 (vp (some p1)) (zT (S8 (S8 zS))) (qx 17 (vp (some p1)) (zT (S8 (S8 (zH zS)))) (qx 18 (vp (some (p1.add 2))) (zT (S8 (S8 (zH (zH zS))))) (lg 19 ?_)))
 obtain ⟨hp4,hnh,h⟩:=h
 refine jSX (zT (S8 (S8 (zH (zH (zH zS)))))) (xs (v:=(vi r6)) (sizeOf3 _) hp4) ?_
 intro w11 hn4
 have h:=h w11 hn4
 refine ⟨.inl (by kernel_rfl),?_⟩
 have hk:=Kept.sc hnh hn4
 obtain ⟨hs,hb⟩:=hk.hh hs hb
 refine wn (zK (zA (eg (qc ?_))))
 obtain ⟨aB,aO,aN,aM,aL,aK,aJ,hv14,h⟩:=h
 refine qa (isAgg127 _) (sizeOf127 _) hv14 ?_
 refine sc call235 ((p_S aB aO aN aM aL aK aJ w11).mono ?_)
 rintro e w12 ⟨he,hE⟩
 refine ⟨_,he,?_⟩
 obtain ⟨hs,hb⟩:=hs.pp hb hE
 refine q (ln (eg (qb (ln ?_))))
 refine cbr h ?_ ?_<;>intro h
 refine eg (qb (ln (er (vF ?_))))
 have ⟨h,hs⟩:=hs.hr (h w12)
 refine rs1 results162 ⟨(s_S aB aO aN aM aL aK aJ),rfl,h⟩
 refine zC (zK (eg (q ?_)))
 have ⟨h,hs⟩:=hs.hr (h w12)
 refine sc call103 (h.mono fun e w13 ⟨r7,k,hk,h⟩=>have ⟨hs,hb⟩:=hk.hh hs hb;⟨_,k,?_⟩)
 refine qb (ln (zA (zA ?_)))
 refine vE (fun ρ w=>∃x2:Bool,∃H:NP,Has ρ [(0,(vp aE)),(7,(vp (some p1))),(114,(vb x2))]∧Hst w0 H w H w∧HB H w []∧m_H_j2 aE p1 x2 H w K) ?_ ?_
 rintro ρ w ⟨x2,H,hH,hs,hb,h⟩
 refine zW hH ?_
 refine cbr h ?_ ?_<;>intro h
 refine eg (q (ln (er (vF (rs1 results162 ⟨71,rfl,h⟩)))))
 refine zC (zK (zA (eg (qc ?_))))
 refine ql (isAgg3 _) h fun v6 h=>q (ln ?_)
 refine vE (fun ρ w=>∃H:NP,Has ρ [(0,(vp aE)),(7,(vp (some p1)))]∧Hst w0 H w H w∧HB H w []∧m_H_j3 aE p1 H w K) ?_ ?_
 rintro ρ w ⟨H,hH,hs,hb,h⟩
 refine zW hH ?_
 refine zA (eg (qc ?_))
 refine ql (isAgg3 _) h fun v7 h=>q (ln ?_)
 refine vE (fun ρ w=>∃H:NP,Has ρ [(0,(vp aE)),(7,(vp (some p1)))]∧Hst w0 H w H w∧HB H w []∧m_H_j4 aE p1 H w K) ?_ ?_
 rintro ρ w ⟨H,hH,hs,hb,h⟩
 refine zW hH ?_
 refine zA (eg (qd ?_))
 obtain ⟨aW,aX,aY,aZ,bA,bB,bC,hv5,h⟩:=h
 refine qa (isAgg127 _) (sizeOf127 _) hv5 ?_
 refine sc call112 (h.mono fun e w14 ⟨r8,r9,k,hk,h⟩=>have ⟨hs,hb⟩:=hk.hh hs hb;⟨_,k,?_⟩)
 refine q (qd (ln (eg (q (ln ?_)))))
 refine cbr h ?_ ?_<;>intro h
 refine eg (q (ln (er (vF (rs1 results162 ⟨72,rfl,h⟩)))))
 refine zC (zK (eg (qd ?_)))
 obtain ⟨bD,bE,bF,bG,bH,bI,bJ,hv4,h⟩:=h
 refine qa (isAgg127 _) (sizeOf127 _) hv4 ?_
 refine sc call109 (h.mono fun e w15 ⟨r10,r11,k,hk,h⟩=>have ⟨hs,hb⟩:=hk.hh hs hb;⟨_,k,?_⟩)
 refine q (qd (ln (eg (qb (zB ?_)))))
 refine zK (er (rs1 results162 ⟨r11,rfl,h⟩))
 refine cbr h ?_ ?_<;>intro h
 refine rg (qd ?_)
 refine ql (isAgg23 _) h fun v8 h=>q (qd ?_)
 refine st2 (sizeOf78 _) hs hb h fun w16 hs hb h=>?_
 refine ln ?_
 exact ⟨H,hm,hs,hb,h⟩
 refine zC (zK ?_)
 exact ⟨H,hm,hs,hb,h⟩
 refine cbr h ?_ ?_<;>intro h
 refine rg (qd ?_)
 refine ql (isAgg23 _) h fun v9 h=>q (qd ?_)
 refine st2 (sizeOf78 _) hs hb h fun w17 hs hb h=>?_
 refine ln ?_
 exact ⟨H,hm,hs,hb,h⟩
 refine zC (zK ?_)
 exact ⟨H,hm,hs,hb,h⟩
 refine rg (qc ?_)
 refine ql (isAgg3 _) h fun v10 h=>qb ?_
 refine zI 7 (fun ρ w=>∃x3:Bool,∃H:NP,Has ρ [(0,(vp aE)),(7,(vp (some p1))),(15,(vu (IntKind.u64.wrap r7))),(99,(vb x3))]∧Hst w0 H w H w∧HB H w []∧m_H_j5 aE p1 r7 x3 H w K) ?_ ?_
 rintro ρ w ⟨x3,H,hH,hs,hb,h⟩
 refine zM hH ?_
 refine q ?_
 obtain ⟨hg1,h⟩|⟨hg1,h⟩:=h.br
 refine sj 100 hg1 (sj 100 hg1 (sj 100 hg1 (sj 100 hg1 (sj 100 hg1 (sj 100 hg1 (sm (sm (sm (sm (sm (sm ?_)))))))))))
 refine sj 100 hg1 (q2 (vb true) (xT hg1) (ln ?_))
 exact ⟨true,H,hm,hs,hb,h⟩
 refine qk 100 hg1 (qk 100 hg1 (qk 100 hg1 ?_))
 obtain ⟨v11,hv11,h⟩:=h
 refine q4 100 hg1 (xl (isAgg3 _) hv11) (qk 100 hg1 (qk 100 hg1 ?_))
 obtain ⟨hg2,h⟩|⟨hg2,h⟩:=h.br
 refine qk 106 hg2 (qk 106 hg2 (qk 106 hg2 ?_))
 obtain ⟨v12,hv10,h⟩:=h
 refine q4 106 hg2 (xl (isAgg23 _) hv10) (qk 106 hg2 (qk 106 hg2 (stq (v:=(vb (decide (v12≥(IntKind.u64.wrap r7))))) (wy 100 hg1) (xT hg2) (q2 (vb (decide (v12≥(IntKind.u64.wrap r7)))) (xF hg1) (ln ?_)))))
 exact ⟨(decide (v12≥(IntKind.u64.wrap r7))),H,hm,hs,hb,h⟩
 refine sj 106 hg2 (sj 106 hg2 (sj 106 hg2 (sj 106 hg2 (sj 106 hg2 (sj 106 hg2 (stq (v:=(vb false)) (wy 100 hg1) (xF hg2) (q2 (vb false) (xF hg1) (ln ?_))))))))
 exact ⟨false,H,hm,hs,hb,h⟩
 obtain ⟨hg3,h⟩|⟨hg3,h⟩:=h.br
 refine qk 92 hg3 (qk 92 hg3 (qk 92 hg3 ?_))
 obtain ⟨v13,hv12,h⟩:=h
 refine q4 92 hg3 (xl (isAgg23 _) hv12) (qk 92 hg3 (qk 92 hg3 (q2 (vb (decide (v13≥(IntKind.u64.wrap r7)))) (xT hg3) (zB ?_))))
 exact ⟨(decide (v13≥(IntKind.u64.wrap r7))),Hl1,hm,hs,hb,h⟩
 refine sj 92 hg3 (sj 92 hg3 (sj 92 hg3 (sj 92 hg3 (sj 92 hg3 (sj 92 hg3 (q2 (vb false) (xF hg3) (zB ?_)))))))
 exact ⟨false,Hl1,hm,hs,hb,h⟩
def m_P1_l1 (r1:Option Addr) (r2:Option Addr) (r3:Option Nat) (places1:Sl) (w0:World) (Hl1:NP) (wl1:World) (Kc1:Sl→NP→WP) (K:(Option Addr)→Int→Int→WP):Prop :=Calls prog 160 #[(vp r2)] wl1 (fun e w4=>∃r4:Int,e=.returned (vi r4)∧Kept Hl1 wl1 w4∧Br (decide (r4>0)) (Calls prog 161 #[(vp r2)] w4 (fun e w5=>∃r5:Int,e=.returned (vi r5)∧Kept Hl1 w4 w5∧Calls prog 162 #[(vp r1),(vp r2),(.map r3)] w5 (fun e w6=>∃r6:Int,e=.returned (vi r6)∧Kept Hl1 w5 w6∧Br (r6 != 0) (K none r6 r5 w6) (∀(p1:Addr) (w7:World),New w6 (.cells #[(vi r5)] 3) p1 w7→∃s1:Sl,∃w8:World,(Builtin.append_ #[50,50] 50 #[places1.v,(Sl.mk (some p1) 1 1).v]).run prog w7=.ok s1.v w8∧Kept Hl1 w7 w8∧Kc1 s1 Hl1 w8)))) (∀(p2:Addr) (w9:World),New w4 (.cells #[(vi 0)] 3) p2 w9→CanW w9 p2∧¬ Hl1 p2.block∧∀w10:World,w10=w9.setCell p2 (vi 0)→Calls prog 103 #[(vp r1)] w10 (fun e w11=>∃r7:Int,e=.returned (vi r7)∧Kept Hl1 w10 w11∧Calls prog 139 #[(vp r1),(vi r7)] w11 (fun e w12=>∃r8:Value,e=.returned r8∧Kept Hl1 w11 w12∧∃(f1:FuncId) (cs1:Array Value),r8=.func (.func f1) #[] cs1∧(∀args w,(callFunc f1 args).run prog w=.ok (.enter f1 args) w)∧∃(xs1:List (Int)) (Rd1:WP),jUQ prog f1 cs1 (fun (z2:Int)=>#[(vi z2)]) xs1 Rd1 w12∧∃(I2 Ix1:List (Int)→NP→WP),RngI w0 Rd1 I2 Ix1 (fun _ _ _=>False)∧I2 [] Hl1 w12∧(∀(pre1:List (Int)) (z2:Int) (Y1:NP) (A1:World),I2 pre1 Y1 A1→Hst w0 Y1 A1 Y1 A1→(∃post,xs1=pre1++z2 :: post)→∃v1:Int,A1.cell? p2=some (vi v1)∧Br (z2 != (q6.wrap (v1+1))) (Kept Y1 A1 A1∧Ix1 (pre1++[z2]) Y1 A1) (∃v2:Int,A1.cell? p2=some (vi v2)∧CanW A1 p2∧¬ None p2.block∧∀w14:World,w14=A1.setCell p2 (vi (q6.wrap (v2+1)))→Kept Y1 A1 w14∧I2 (pre1++[z2]) Y1 w14))∧∀(H1:NP) (w15:World),Hst w0 H1 w15 H1 w15→(∀b,Hl1 b→H1 b)→Kept Hl1 w12 w15→(I2 xs1 H1 w15∨∃pre,Ix1 pre H1 w15)→∃v3:Int,w15.cell? p2=some (vi v3)∧Br (decide (v3<(places1.len:Int))) (∀(w16:World),Hst w0 H1 w15 H1 w16→∃v4:Int,w16.cell? p2=some (vi v4)∧∃a1:Addr,At places1 v4 1 a1∧∃v5:Int,w16.cell? a1=some (vi v5)∧∀(w17:World),Hst w0 H1 w16 H1 w17→K none 73 v5 w17) (∀(w18:World),Hst w0 H1 w15 H1 w18→K r1 0 0 w18)))))
def m_P1 (b1:Sl) (w0:World) (K:(Option Addr)→Int→Int→WP):Prop :=Br (decide ((b1.len:Int)>4096)) (K none 1 0 w0) (Br (((b1.len:Int):Int) == 0) (K none 3 0 w0) (Calls prog 44 #[] w0 (fun e w1=>∃r1:Option Addr,e=.returned (vp r1)∧Kept None w0 w1∧Calls prog 158 #[b1.v] w1 (fun e w2=>∃r2:Option Addr,e=.returned (vp r2)∧Kept None w1 w2∧Calls prog 159 #[] w2 (fun e w3=>∃r3:Option Nat,e=.returned (.map r3)∧Kept None w2 w3∧∃(I1:Sl→NP→WP) (mu1:Sl→World→Nat),I1 Sl.nil None w3∧∀(places1:Sl) (Hl1:NP) (wl1:World),Hst w0 Hl1 wl1 Hl1 wl1→I1 places1 Hl1 wl1→m_P1_l1 r1 r2 r3 places1 w0 Hl1 wl1 (fun y'0 H' w'=>I1 y'0 H' w'∧mu1 y'0 w'<mu1 places1 wl1) K)))))
theorem w_P1 (b1:Sl) (w0:World) (K:(Option Addr)→Int→Int→WP) (h:m_P1 b1 w0 K) :
  Calls prog 102 #[b1.v] w0 (fun e w'=>∃r9:Option Addr,∃r10 r11:Int,e=.returned (.tuple #[(vp r9),(vi r10),(vi r11)])∧K r9 r10 r11 w'):=by
 refine cw (args:=[b1.v]) func102 ntmps102 ?_
 obtain ⟨hs,hb⟩:=st0 w0
 refine eg (qc (ln (jPO rfl (fun _ _ _ h=>h) (zA (zJ (eg ?_))))))
 refine qd (ln ?_)
 refine cbr h ?_ ?_<;>intro h
 refine eg (qc (ln (er (uC (vF (jKU (.inl rfl) results102 (v:=(vp none)) (by kernel_rfl) (v':=(vi 1)) (by kernel_rfl) (v'':=(vi 0)) (by kernel_rfl) ?_))))))
 exact ⟨none,1,0,rfl,h⟩
 refine eg (qd (ln ?_))
 refine cbr h ?_ ?_<;>intro h
 refine eg (qc (ln (er (uC (vF (jKU (.inl rfl) results102 (v:=(vp none)) (by kernel_rfl) (v':=(vi 3)) (by kernel_rfl) (v'':=(vi 0)) (by kernel_rfl) ?_))))))
 exact ⟨none,3,0,rfl,h⟩
 refine zC (xW (zK (eg ?_)))
 refine sc call44 (h.mono fun e w1 ⟨r1,k,hk,h⟩=>have ⟨hs,hb⟩:=hk.hh hs hb;⟨_,k,?_⟩)
 refine q (ln (eg (q ?_)))
 refine sc call158 (h.mono fun e w2 ⟨r2,k,hk,h⟩=>have ⟨hs,hb⟩:=hk.hh hs hb;⟨_,k,?_⟩)
 refine q (ln (eg ?_))
 refine sc call159 (h.mono fun e w3 ⟨r3,k,hk,h⟩=>have ⟨hs,hb⟩:=hk.hh hs hb;⟨_,k,?_⟩)
 refine q (ln (eg (q (ln (zA (zJ ?_))))))
 obtain ⟨I1,mu1,h0,hr⟩:=h
 refine vP (σ:=Sl×NP×World) (fun s ρ w=>w=s.2.2∧Has ρ [(5,(vp r1)),(6,(vp r2)),(7,(.map r3)),(8,s.1.v)]∧Hst w0 s.2.1 w s.2.1 w∧HB s.2.1 w []∧I1 s.1 s.2.1 s.2.2) (fun s=>mu1 s.1 s.2.2) (Sl.nil,None,w3) ⟨rfl,hm,hs,hb,h0⟩ ?_
 rintro ⟨places1,Hl1,wl1⟩ ρ w ⟨hw,hH,hs,hb,hI⟩
 dsimp only at hw hH hs hb;subst w
 have h:=hr places1 Hl1 wl1 hs hI
 refine zW hH ?_
 refine zA (eg (q ?_))
 refine sc call160 (h.mono fun e w4 ⟨r4,k,hk,h⟩=>have ⟨hs,hb⟩:=hk.hh hs hb;⟨_,k,?_⟩)
 refine q (ln ?_)
 refine cbr h ?_ ?_<;>intro h
 refine zC (zK (zJ (eg (q ?_))))
 refine sc call161 (h.mono fun e w5 ⟨r5,k,hk,h⟩=>have ⟨hs,hb⟩:=hk.hh hs hb;⟨_,k,?_⟩)
 refine q (ln (zA (eg (qc ?_))))
 refine sc call162 (h.mono fun e w6 ⟨r6,k,hk,h⟩=>have ⟨hs,hb⟩:=hk.hh hs hb;⟨_,k,?_⟩)
 refine q (ln (eg (qb (ln ?_))))
 refine cbr h ?_ ?_<;>intro h
 refine eg (q (qd (ln (er (vF (uC ?_))))))
 refine vF (uC (vF (jKU (.inl rfl) results102 (v:=(vp none)) (by kernel_rfl) (v':=(vi r6)) (by kernel_rfl) (v'':=(vi r5)) (by kernel_rfl) ?_)))
 exact ⟨none,r6,r5,rfl,h⟩
 refine zC (zK (rg (qb (nw5 (fun p=>(Sl.mk (some p) 1 1).v) hs hb h fun p1 w7 hs hb h=>?_))))
 obtain ⟨s1,w8,hv1,hk,h⟩:=h
 refine st (v:=s1.v) (zL rfl) (vI (args:=#[places1.v,(Sl.mk (some p1) 1 1).v]) (by kernel_rfl) (fun _=>rfl) hv1) ?_
 obtain ⟨hs,hb⟩:=hk.hh hs hb
 refine q (zB (xW (zK ?_)))
 exact ⟨(s1,Hl1,w8),⟨rfl,hm,hs,hb,h.1⟩,h.2⟩
 refine vO (uU (uU (uY (zK (eg (sn (O:=(.cells #[(vi 0)] 3)) (zQ (zeroValue3 _) rfl) ?_))))))
 intro p2 w9 hn4
 have h:=h p2 w9 hn4
 obtain ⟨hs,hb⟩:=hs.nw hb hn4
 refine st2 (sizeOf3 _) hs hb h fun w10 hs hb h=>?_
 refine ln (zA (jPQ (zK (jMN (rg (q0 (vp r1) (q0 (vp r1) ?_)))))))
 refine sc call103 (h.mono fun e w11 ⟨r7,k,hk,h⟩=>have ⟨hs,hb⟩:=hk.hh hs hb;⟨_,k,?_⟩)
 refine sc call139 (h.mono fun e w12 ⟨r8,k,hk,h⟩=>have ⟨hs,hb⟩:=hk.hh hs hb;⟨_,k,?_⟩)
 refine ln ?_
 obtain ⟨f1,cs1,hv2,hf1,h⟩:=h
 obtain ⟨xs1,Rd1,hit,I2,Ix1,hRI,h0,hbody,h⟩:=h
 refine jII (encs:=(fun (z2:Int)=>#[(vi z2)])) (Eq.trans (b:=r8) (by kernel_rfl) hv2) hf1 hit (fun _=>rfl) (by decide) hs I2 Ix1 (fun _ _ _=>False) hRI h0 ?ha ?hr ?ht
 case ha =>
  intro l z2 w19
  refine rg (q (ln ?_))
  refine ⟨rfl,?_⟩
  intro pre1 Y1 A1 hi hY hpost
  have h:=hbody pre1 z2 Y1 A1 hi hY hpost
  obtain ⟨hs,hb⟩:=st0 A1
  refine zJ (zA (eg (q ?_)))
  refine ql (isAgg3 _) h fun v1 h=>qb (ln ?_)
  refine cbr h ?_ ?_<;>intro h
  refine vO (uU (bl_ne rfl ?_))
  exact rd_x h
  refine zC (zK (rg ?_))
  refine ql (isAgg3 _) h fun v2 h=>q ?_
  refine st2 (sizeOf3 _) hs hb h fun w14 hs hb h=>?_
  refine zB (xW ?_)
  exact rd_n h
 case hr =>
  intro D1 H1 w15 hs' hD hDe bK hk1 hio1
  have hb':=hb.behind hk1 bK hD hDe
  have hs:=hs'
  have hb:=hb'
  have h:=h H1 w15 hs bK hk1 hio1
  refine zA (eg ?_)
  refine ql (isAgg3 _) h fun v3 h=>qc (ln ?_)
  refine cbr h ?_ ?_<;>intro h
  refine zA (qE (by kernel_rfl) (by kernel_rfl) (by kernel_rfl) (by kernel_rfl) ?_)
  intro w16 hw16
  have hs:Hst w0 H1 w15 H1 w16:=by rw [hw16];exact hs.drew
  have hb:HBZ [(D1,.deferred (some []))] H1 w16 []:=by rw [hw16];exact hb.drew
  refine qq 0 places1.v Kp0 (qg 1 ?_)
  have ⟨h,hs⟩:=hs.hr (h w16)
  obtain ⟨v4,hv7,h⟩:=h
  refine sxQ Kp1 (zL rfl) rfl (xl (isAgg3 _) hv7) (qg 2 ?_)
  obtain ⟨a1,hv6,h⟩:=h
  refine sxQ Kp2 (zL rfl) rfl (xi (runUnderlying50 _) (sizeOf3 _) hv6) (qg 3 ?_)
  obtain ⟨v5,hv5,h⟩:=h
  refine sxQ Kp3 (zL rfl) rfl (xl (isAgg3 _) hv5) (qq 4 (vp none) Kp4 (qq 5 (vi 73) Kp5 (qq 6 (vi v5) Kp6 (wn (zK (er (vF (af_r hb.dead ?_))))))))
  intro w17 hw'
  have hl:=hb.leave hs hw'
  obtain ⟨hs,hb⟩:=hl
  -- behind the loop
  have ⟨h,hs⟩:=hs.hr (h w17)
  refine jKU (.inl rfl) results102 (v:=(vp none)) (by kernel_rfl) (v':=(vi 73)) (by kernel_rfl) (v'':=(vi v5)) (by kernel_rfl) ?_
  exact ⟨none,73,v5,rfl,h⟩
  refine zC (zK (eg (qd (ln (er (af_r hb.dead ?_))))))
  intro w18 hw'
  have hl:=hb.leave hs hw'
  obtain ⟨hs,hb⟩:=hl
  -- behind the loop
  have ⟨h,hs⟩:=hs.hr (h w18)
  refine jKU (.inl rfl) results102 (v:=(vp r1)) (by kernel_rfl) (v':=(vi 0)) (by kernel_rfl) (v'':=(vi 0)) (by kernel_rfl) ?_
  exact ⟨r1,0,0,rfl,h⟩
 case ht =>
  intro _ _ _ _ _ _ _ h
  exact h.elim
def m_F3 (p1:Option Addr) (b1:Sl) (w0:World) (K:Int→Int→Int→WP):Prop :=Br (Option.isNone p1) (K 0 2 0 w0) (Calls prog 102 #[b1.v] w0 (fun e w1=>∃r1:Option Addr,∃r2 r3:Int,e=.returned (.tuple #[(vp r1),(vi r2),(vi r3)])∧Br (r2 != 0) (K 0 r2 r3 w1) (Calls prog 103 #[(vp r1)] w1 (fun e w2=>∃r4:Int,e=.returned (vi r4)∧Calls prog 75 #[(vp p1),(vp r1),(vi r4)] w2 (fun e w3=>∃r5 r6:Int,e=.returned (.tuple #[(vi r5),(vi r6)])∧K r5 r6 0 w3)))))
theorem w_F3 (p1:Option Addr) (b1:Sl) (w0:World) (K:Int→Int→Int→WP) (h:m_F3 p1 b1 w0 K) :
  Calls prog 46 #[(vp p1),b1.v] w0 (fun e w'=>∃r7 r8 r9:Int,e=.returned (.tuple #[(vi r7),(vi r8),(vi r9)])∧K r7 r8 r9 w'):=by
 refine cw (args:=[(vp p1),b1.v]) func46 ntmps46 (eg (q0 (vi 0) (q0 (vi 0) (q0 (vi 0) (ln (zA (eg (q0 (vp p1) ?_))))))))
 refine q2 (vb (Option.isNone p1)) (vY (by kernel_rfl) rfl underlying91) (ln ?_)
 refine cbr h ?_ ?_<;>intro h
 refine eg (qc (ln (er (vF (jKU (.inl rfl) results46 (v:=(vi 0)) (by kernel_rfl) (v':=(vi 2)) (by kernel_rfl) (v'':=(vi 0)) (by kernel_rfl) ?_)))))
 exact ⟨0,2,0,rfl,h⟩
 refine zC (zK (eg (q ?_)))
 refine sc call102 (h.mono fun e w1 ⟨r1,r2,r3,k,h⟩=>⟨_,k,?_⟩)
 refine qc (qd (ln (zA (eg ?_))))
 refine qb (ln ?_)
 refine cbr h ?_ ?_<;>intro h
 refine eg (q (qd (ln (er (vF (jKU (.inl rfl) results46 (v:=(vi 0)) (by kernel_rfl) (v':=(vi r2)) (by kernel_rfl) (v'':=(vi r3)) (by kernel_rfl) ?_))))))
 exact ⟨0,r2,r3,rfl,h⟩
 refine zC (zK (eg (qc ?_)))
 refine sc call103 (h.mono fun e w2 ⟨r4,k,h⟩=>⟨_,k,?_⟩)
 refine sc call75 (h.mono fun e w3 ⟨r5,r6,k,h⟩=>⟨_,k,?_⟩)
 refine q (qd (ln (eg (qc ?_))))
 refine qb (ln (er (jKU (.inl rfl) results46 (v:=(vi r5)) (by kernel_rfl) (v':=(vi r6)) (by kernel_rfl) (v'':=(vi 0)) (by kernel_rfl) ?_)))
 exact ⟨r5,r6,0,rfl,h⟩
def m_Q1_l1 (n2:Int) (out1:Sl) (wl1:World) (Kc1:Int→Sl→WP) (K:Sl→WP):Prop :=Br (decide (n2≥128)) (∃z1:Int,(Go.binOp .rem 23 (vu n2) (vu 128)).run prog wl1=.ok (vu z1) wl1∧∀(p2:Addr) (w3:World),New wl1 (.cells #[(.int .u8 (IntKind.u8.wrap (IntKind.u64.wrap (z1+128))))] 5) p2 w3→∃s2:Sl,∃w4:World,(Builtin.append_ #[65,65] 65 #[out1.v,(Sl.mk (some p2) 1 1).v]).run prog w3=.ok s2.v w4∧∃z2:Int,(Go.binOp .quo 23 (vu n2) (vu 128)).run prog w4=.ok (vu z2) w4∧Kc1 z2 s2 w4) (∀(p3:Addr) (w5:World),New wl1 (.cells #[(.int .u8 (IntKind.u8.wrap n2))] 5) p3 w5→∃s3:Sl,∃w6:World,(Builtin.append_ #[65,65] 65 #[out1.v,(Sl.mk (some p3) 1 1).v]).run prog w5=.ok s3.v w6∧K s3 w6)
def m_Q1 (b1:Sl) (n1:Int) (w0:World) (K:Sl→WP):Prop :=∀(p1:Addr) (w1:World),New w0 (.cells #[] 5) p1 w1→∃s1:Sl,∃w2:World,(Builtin.append_ #[65,65] 65 #[(Sl.mk (some p1) 0 0).v,b1.v]).run prog w1=.ok s1.v w2∧∃(I1:Int→Sl→WP) (mu1:Int→Sl→World→Nat),I1 n1 s1 w2∧∀(n2:Int) (out1:Sl) (wl1:World),I1 n2 out1 wl1→m_Q1_l1 n2 out1 wl1 (fun y'0 y'1 w'=>I1 y'0 y'1 w'∧mu1 y'0 y'1 w'<mu1 n2 out1 wl1) K
theorem w_Q1 (b1:Sl) (n1:Int) (w0:World) (K:Sl→WP) (h:m_Q1 b1 n1 w0 K) :
  Calls prog 236 #[b1.v,(vu n1)] w0 (fun e w'=>∃r1:Sl,e=.returned r1.v∧K r1 w'):=by
 refine cw (args:=[b1.v,(vu n1)]) func236 ntmps236 (eg (q0 Sl.nil.v (ln (eg (uE (O:=(.cells #[] 5)) (fun p=>(Sl.mk (some p) 0 0).v) (zL rfl) (vJ (vs:=#[]) (by kernel_rfl) (by kernel_rfl)) ?_)))))
 intro p1 w1 hn3
 have h:=h p1 w1 hn3
 refine q ?_
 obtain ⟨s1,w2,hv5,h⟩:=h
 refine st (v:=s1.v) (zL rfl) (vI (args:=#[(Sl.mk (some p1) 0 0).v,b1.v]) (by kernel_rfl) (fun _=>rfl) hv5) (q0 s1.v (ln (zA (zJ ?_))))
 obtain ⟨I1,mu1,h0,hr⟩:=h
 refine vP (σ:=Int×Sl×World) (fun s ρ w=>w=s.2.2∧Has ρ [(1,(vu s.1)),(5,s.2.1.v)]∧I1 s.1 s.2.1 s.2.2) (fun s=>mu1 s.1 s.2.1 s.2.2) (n1,s1,w2) ⟨rfl,hm,h0⟩ ?_
 rintro ⟨n2,out1,wl1⟩ ρ w ⟨hw,hH,hI⟩
 dsimp only at hw hH;subst w
 have h:=hr n2 out1 wl1 hI
 refine zW hH ?_
 refine zA (eg (qb (ln ?_)))
 refine cbr h ?_ ?_<;>intro h
 refine zC (zK (zJ (eg (qb ?_))))
 obtain ⟨z1,hv3,h⟩:=h
 refine q2 (vu z1) (jNQ (by kernel_rfl) (by kernel_rfl) (by kernel_rfl) hv3) (qb (nw4 (fun p=>(Sl.mk (some p) 1 1).v) h fun p2 w3 h=>?_))
 obtain ⟨s2,w4,hv2,h⟩:=h
 refine st (v:=s2.v) (zL rfl) (vI (args:=#[out1.v,(Sl.mk (some p2) 1 1).v]) (by kernel_rfl) (fun _=>rfl) hv2) (q0 s2.v (ln (rg (q0 (vu n2) ?_))))
 obtain ⟨z2,hv1,h⟩:=h
 refine q2 (vu z2) (jNQ (by kernel_rfl) (by kernel_rfl) (by kernel_rfl) hv1) (q (zB (xW (zK ?_))))
 exact ⟨(z2,s2,w4),⟨rfl,hm,h.1⟩,h.2⟩
 refine vO (uU (uU (uY (zK (eg (q0 out1.v (q0 (vu n2) (q0 (.int .u8 (IntKind.u8.wrap n2)) (uE (O:=(.cells #[(.int .u8 (IntKind.u8.wrap n2))] 5)) (fun p=>(Sl.mk (some p) 1 1).v) (zL rfl) (vJ (vs:=#[(0,(.int .u8 (IntKind.u8.wrap n2)))]) (by kernel_rfl) (by kernel_rfl)) ?_)))))))))
 intro p3 w5 hn2
 have h:=h p3 w5 hn2
 obtain ⟨s3,w6,hv4,h⟩:=h
 refine st (v:=s3.v) (zL rfl) (vI (args:=#[out1.v,(Sl.mk (some p3) 1 1).v]) (by kernel_rfl) (fun _=>rfl) hv4) (q0 s3.v (ln (er (rs1 results236 ⟨s3,rfl,h⟩))))
def m_G3 (b1:Sl) (s1:ByteArray) (w0:World) (K:Sl→WP):Prop :=Calls prog 236 #[b1.v,(vu (IntKind.u64.wrap (s1.size:Int)))] w0 (fun e w1=>∃r1:Sl,e=.returned r1.v∧∃s2:Sl,∃w2:World,(Builtin.append_ #[65,9] 65 #[r1.v,(vs s1)]).run prog w1=.ok s2.v w2∧K s2 w2)
theorem w_G3 (b1:Sl) (s1:ByteArray) (w0:World) (K:Sl→WP) (h:m_G3 b1 s1 w0 K) :
  Calls prog 237 #[b1.v,(vs s1)] w0 (fun e w'=>∃r2:Sl,e=.returned r2.v∧K r2 w'):=by
 refine cw (args:=[b1.v,(vs s1)]) func237 ntmps237 (eg (q0 Sl.nil.v (ln (eg (q0 b1.v (q0 (vs s1) (q0 (vi (s1.size:Int)) (q0 (vu (IntKind.u64.wrap (s1.size:Int))) ?_))))))))
 refine sc call236 (h.mono fun e w1 ⟨r1,k,h⟩=>⟨_,k,?_⟩)
 refine q ?_
 obtain ⟨s2,w2,hv1,h⟩:=h
 refine st (v:=s2.v) (zL rfl) (vI (args:=#[r1.v,(vs s1)]) (by kernel_rfl) (fun _=>rfl) hv1) (q0 s2.v (ln (er (rs1 results237 ⟨s2,rfl,h⟩))))
def m_G_j6 (s1:Sl) (i1 aB aJ:Int) (b8:Sl) (w0:World) (H:NP) (w:World) (Kc1:Sl→Int→NP→WP) (_K:Sl→WP):Prop :=Br (((s_A aB):Int) == 2) (∃a7:Addr,At s1 aJ 1 a7∧∀(w15:World),Hst w0 H w H w15→∃v5:Int,w15.cell? a7=some (vi v5)∧Calls prog 236 #[b8.v,(vu (IntKind.u64.wrap v5))] w15 (fun e w16=>∃r2:Sl,e=.returned r2.v∧Kept H w15 w16∧Kc1 r2 (q6.wrap (i1+1)) H w16)) (∀(w15:World),Hst w0 H w H w15→Kc1 b8 (q6.wrap (i1+1)) H w15)
def m_G_j5 (s1:Sl) (i1 aB:Int) (aK aJ:Int) (b7:Sl) (w0:World) (H:NP) (w:World) (Kc1:Sl→Int→NP→WP) (K:Sl→WP):Prop :=Br (decide ((s_A aB)≥1)) (∃a8:Addr,At s1 aK 1 a8∧∀(w14:World),Hst w0 H w H w14→∃v6:Int,w14.cell? a8=some (vi v6)∧Calls prog 236 #[b7.v,(vu (IntKind.u64.wrap v6))] w14 (fun e w17=>∃r3:Sl,e=.returned r3.v∧Kept H w14 w17∧m_G_j6 s1 i1 aB aJ r3 w0 H w17 Kc1 K)) (∀(w14:World),Hst w0 H w H w14→m_G_j6 s1 i1 aB aJ b7 w0 H w14 Kc1 K)
def m_G_j4 (s1:Sl) (i1 aB:Int) (aL:ByteArray) (aK aJ:Int) (b6:Sl) (w0:World) (H:NP) (w:World) (Kc1:Sl→Int→NP→WP) (K:Sl→WP):Prop :=Br (aB == 3) (Calls prog 237 #[b6.v,(vs aL)] w (fun e w18=>∃r4:Sl,e=.returned r4.v∧Kept H w w18∧m_G_j5 s1 i1 aB aK aJ r4 w0 H w18 Kc1 K)) (m_G_j5 s1 i1 aB aK aJ b6 w0 H w Kc1 K)
def m_G_j3 (s1:Sl) (i1 aB aM:Int) (aL:ByteArray) (aK aJ:Int) (b5:Sl) (w0:World) (H:NP) (w:World) (Kc1:Sl→Int→NP→WP) (K:Sl→WP):Prop :=Br (aB == 2) (Calls prog 236 #[b5.v,(vu aM)] w (fun e w19=>∃r5:Sl,e=.returned r5.v∧Kept H w w19∧m_G_j4 s1 i1 aB aL aK aJ r5 w0 H w19 Kc1 K)) (m_G_j4 s1 i1 aB aL aK aJ b5 w0 H w Kc1 K)
def m_G_j2 (s1:Sl) (i1 aB:Int) (aN aM:Int) (aL:ByteArray) (aK aJ:Int) (b3:Sl) (w0:World) (H:NP) (w:World) (Kc1:Sl→Int→NP→WP) (K:Sl→WP):Prop :=Br ((aB == 8) || (aB == 9)) (∀(H4:NP) (w13:World),Hst w0 H w H4 w13→Calls prog 236 #[b3.v,(vu (IntKind.u64.wrap aN))] w13 (fun e w20=>∃r6:Sl,e=.returned r6.v∧Kept H4 w13 w20∧m_G_j3 s1 i1 aB aM aL aK aJ r6 w0 H4 w20 Kc1 K)) (∀(H4:NP) (w13:World),Hst w0 H w H4 w13→m_G_j3 s1 i1 aB aM aL aK aJ b3 w0 H4 w13 Kc1 K)
def m_G_l1 (p1:Option Addr) (r1 s1 b1:Sl) (i1:Int) (w0:World) (Hl1:NP) (wl1:World) (Kc1:Sl→Int→NP→WP) (K:Sl→WP):Prop :=Br (decide (i1<(r1.len:Int))) (∃a2:Addr,p1=some a2∧∃v2:Sl,wl1.cell? a2=some v2.v∧¬ Hl1 a2.block∧∃a3:Addr,At r1 i1 1 a3∧∃v3:Int,wl1.cell? a3=some (vi v3)∧¬ Hl1 a3.block∧∃a4:Addr,At v2 (q6.wrap (v3 - 1)) 7 a4∧∃aB aO:Int,∃aN aM:Int,∃aL:ByteArray,∃aK aJ:Int,Row wl1 a4 [(vi aB),(vi aO),(vi aN),(vu aM),(vs aL),(vi aK),(vi aJ)]∧¬ Hl1 a4.block∧∃a5:Addr,At r1 i1 1 a5∧∀(H2:NP) (w6:World),Hst w0 Hl1 wl1 H2 w6→∃v4:Int,w6.cell? a5=some (vi v4)∧∃a6:Addr,At s1 v4 1 a6∧CanW w6 a6∧¬ H2 a6.block∧∀w9:World,w9=w6.setCell a6 (vi i1)→∀(p5:Addr) (w10:World),New w9 (.cells #[(.int .u8 (IntKind.u8.wrap aB))] 5) p5 w10→∃s2:Sl,∃w11:World,(Builtin.append_ #[65,65] 65 #[b1.v,(Sl.mk (some p5) 1 1).v]).run prog w10=.ok s2.v w11∧Kept H2 w10 w11∧Br (s_D1 aB) (∀(w12:World),Hst w0 H2 w11 H2 w12→Calls prog 236 #[s2.v,(vu (IntKind.u64.wrap aO))] w12 (fun e w21=>∃r7:Sl,e=.returned r7.v∧Kept H2 w12 w21∧m_G_j2 s1 i1 aB aN aM aL aK aJ r7 w0 H2 w21 Kc1 K)) (∀(w12:World),Hst w0 H2 w11 H2 w12→m_G_j2 s1 i1 aB aN aM aL aK aJ s2 w0 H2 w12 Kc1 K)) (K b1 wl1)
def m_G (p1:Option Addr) (t1:Int) (w0:World) (K:Sl→WP):Prop :=Calls prog 69 #[(vp p1),(vi t1)] w0 (fun e w1=>∃r1:Sl,e=.returned r1.v∧Kept None w0 w1∧∃a1:Addr,p1=some a1∧∃v1:Sl,w1.cell? a1=some v1.v∧∃s1:Sl,∃w2:World,(Instr.makeSlice 50 (vi (q6.wrap ((v1.len:Int)+1))) (vi (q6.wrap ((v1.len:Int)+1)))).run prog w1=.ok s1.v w2∧Kept None w1 w2∧∃(I1:Sl→Int→NP→WP) (mu1:Sl→Int→World→Nat),I1 Sl.nil 0 None w2∧∀(b1:Sl) (i1:Int) (Hl1:NP) (wl1:World),Hst w0 Hl1 wl1 Hl1 wl1→I1 b1 i1 Hl1 wl1→m_G_l1 p1 r1 s1 b1 i1 w0 Hl1 wl1 (fun y'0 y'1 H' w'=>I1 y'0 y'1 H' w'∧mu1 y'0 y'1 w'<mu1 b1 i1 wl1) K)
theorem w_G (p1:Option Addr) (t1:Int) (w0:World) (K:Sl→WP) (h:m_G p1 t1 w0 K) :
  Calls prog 166 #[(vp p1),(vi t1)] w0 (fun e w'=>∃r8:Sl,e=.returned r8.v∧K r8 w'):=by
 refine cw (args:=[(vp p1),(vi t1)]) func166 ntmps166 ?_
 obtain ⟨hs,hb⟩:=st0 w0
 refine eg (q (ln (eg (qb ?_))))
 refine sc call69 (h.mono fun e w1 ⟨r1,k,hk,h⟩=>have ⟨hs,hb⟩:=hk.hh hs hb;⟨_,k,?_⟩)
 refine q (ln (eg (q ?_)))
 refine qm h fun a1 h=>q ?_
 refine ql (isAgg49 _) h fun v1 h=>qb ?_
 obtain ⟨s1,w2,hv14,hk,h⟩:=h
 refine st (v:=s1.v) (zL rfl) (jEA (by kernel_rfl) (by kernel_rfl) hv14) ?_
 obtain ⟨hs,hb⟩:=hk.hh hs hb
 refine q (ln (eg (q (ln (zA (eg (q ?_)))))))
 refine ln (zJ ?_)
 obtain ⟨I1,mu1,h0,hr⟩:=h
 refine vP (σ:=Sl×Int×NP×World) (fun s ρ w=>w=s.2.2.2∧Has ρ [(0,(vp p1)),(5,r1.v),(6,s1.v),(7,s.1.v),(8,(vi s.2.1))]∧Hst w0 s.2.2.1 w s.2.2.1 w∧HB s.2.2.1 w []∧I1 s.1 s.2.1 s.2.2.1 s.2.2.2) (fun s=>mu1 s.1 s.2.1 s.2.2.2) (Sl.nil,0,None,w2) ⟨rfl,hm,hs,hb,h0⟩ ?_
 rintro ⟨b1,i1,Hl1,wl1⟩ ρ w ⟨hw,hH,hs,hb,hI⟩
 dsimp only at hw hH hs hb;subst w
 have h:=hr b1 i1 Hl1 wl1 hs hI
 refine zW hH ?_
 refine zA (eg (qd (ln ?_)))
 refine cbr h ?_ ?_<;>intro h
 refine zC (zK (zA (zJ (zA (tZ (fun x=>∃H',Hst w0 Hl1 wl1 H' x∧HB H' x []) [11,12] [12] (by kernel_rfl) (by kernel_rfl) (by kernel_rfl) (by kernel_rfl) ⟨_,hs.drew,hb.drew⟩ ?_)))))
 intro w3 hw3
 have hs:Hst w0 Hl1 wl1 Hl1 w3:=by rw [hw3];exact hs.drew
 have hb:HB Hl1 w3 []:=by rw [hw3];exact hb.drew
 refine qx 0 (vp p1) Kp0 (qg 1 ?_)
 obtain ⟨a2,hp2,h⟩:=h
 refine sy Kp1 (fun _ _=>xn hp2) (qx 2 (vp (some a2)) Kp2 (qg 3 ?_))
 obtain ⟨v2,hv13,hnh,h⟩:=h
 refine sy (v:=v2.v) Kp3 (fun w' hw'=>by obtain ⟨H',hs',hb'⟩:=hw';exact (xl (isAgg49 _) (jHV hv13 hnh hs'))) ?_
 refine qx 4 r1.v Kp4 (qx 5 (vi i1) Kp5 (qg 6 ?_))
 obtain ⟨a3,hv12,h⟩:=h
 refine sy Kp6 (fun _ _=>xi (runUnderlying54 _) (sizeOf78 _) hv12) (qg 7 ?_)
 obtain ⟨v3,hv11,hnh,h⟩:=h
 refine sy (v:=(vi v3)) Kp7 (fun w' hw'=>by obtain ⟨H',hs',hb'⟩:=hw';exact (xl (isAgg78 _) (jHV hv11 hnh hs'))) ?_
 refine qx 8 (vi (q6.wrap (v3 - 1))) Kp8 (qg 9 ?_)
 obtain ⟨a4,hv10,h⟩:=h
 refine sy Kp9 (fun _ _=>xi (runUnderlying49 _) (sizeOf127 _) hv10) (qg 10 ?_)
 obtain ⟨aB,aO,aN,aM,aL,aK,aJ,hv9,hnh,h⟩:=h
 refine sy (v:=(.agg #[(vi aB),(vi aO),(vi aN),(vu aM),(vs aL),(vi aK),(vi aJ)])) (zT (S8 (zH (zH zS)))) (fun w' hw'=>by obtain ⟨H',hs',hb'⟩:=hw';exact (xa a4 [(vi aB),(vi aO),(vi aN),(vu aM),(vs aL),(vi aK),(vi aJ)] (isAgg127 _) (sizeOf127 _) (jQJ hv9 hnh hs'))) ?_
 refine jVH (fun ρ wJ=>∃p3:Addr,∃HJ:NP,Hst w0 Hl1 wl1 HJ wJ∧HB HJ wJ [(p3,[(vi aB),(vi aO),(vi aN),(vu aM),(vs aL),(vi aK),(vi aJ)],127)]∧Has ρ [(0,(vp p1)),(5,r1.v),(6,s1.v),(7,b1.v),(8,(vi i1)),(9,(vp (some p3)))]) ?_ ?_
 refine lg 11 (jBQ (O:=(.cells #[(vi 0),(vi 0),(vi 0),(vu 0),ve,(vi 0),(vi 0)] 127)) (fun p=>.pointer (some p)) (zT (S8 (zH (zH (zH zS))))) (zL rfl) (by kernel_rfl) (zQ (zeroValue127 _) rfl) ?_)
 intro p4 w7 hn3
 obtain ⟨H3,hs,hb⟩:=hs.alloc hb hn3
 refine ⟨.inr ⟨_,hs,hb.drop 1⟩,?_⟩
 refine lg 12 (tH (zT (S8 (S4 zS))) (zL rfl) (by kernel_rfl) (xo p4 [(vi aB),(vi aO),(vi aN),(vu aM),(vs aL),(vi aK),(vi aJ)] (sizeOf127 _) (hb.k0 0 7 gZ)) ?_)
 intro w8 hn4
 obtain ⟨hs,hb⟩:=hb.st1 0 hs hn4 gZ
 refine ⟨.inl (by kernel_rfl),?_⟩
 refine wn ?_
 exact ⟨p4,_,hs,hb,hm⟩
 rintro ρ w6 ⟨p3,H2,hs,hb,hH⟩
 refine q_has hH ?_
 refine zK (eg (qc ?_))
 refine qi (runUnderlying54 _) (sizeOf78 _) h fun a5 h=>?_
 have ⟨h,hs⟩:=hs.hr (h H2 w6)
 refine ql (isAgg78 _) h fun v4 h=>q ?_
 refine qi (runUnderlying50 _) (sizeOf3 _) h fun a6 h=>?_
 refine st2 (sizeOf3 _) hs hb h fun w9 hs hb h=>?_
 refine ln (eg (qb (q3 (xl (isAgg3 _) (hb.d0 0 gZ)) (q (nw5 (fun p=>(Sl.mk (some p) 1 1).v) hs hb h fun p5 w10 hs hb h=>?_)))))
 obtain ⟨s2,w11,hv5,hk,h⟩:=h
 refine st (v:=s2.v) (zL rfl) (vI (args:=#[b1.v,(Sl.mk (some p5) 1 1).v]) (by kernel_rfl) (fun _=>rfl) hv5) ?_
 obtain ⟨hs,hb⟩:=hk.hh hs hb
 refine q (ln (zA (eg (q (q3 (xl (isAgg3 _) (hb.d0 0 gZ)) ?_)))))
 refine sc call126 ((p_D1 aB w11).mono ?_)
 rintro e w12 ⟨he,hE⟩
 refine ⟨_,he,?_⟩
 obtain ⟨hs,hb⟩:=hs.pp hb hE
 refine ln ?_
 refine vE (fun ρ w=>∃b3:Sl,∃H:NP,Has ρ [(0,(vp p1)),(5,r1.v),(6,s1.v),(7,b3.v),(8,(vi i1)),(9,(vp (some p3)))]∧Hst w0 H w H w∧HB H w [(p3,[(vi aB),(vi aO),(vi aN),(vu aM),(vs aL),(vi aK),(vi aJ)],127)]∧m_G_j2 s1 i1 aB aN aM aL aK aJ b3 w0 H w (fun y'0 y'1 H' w'=>I1 y'0 y'1 H' w'∧mu1 y'0 y'1 w'<mu1 b1 i1 wl1) K) ?_ ?_
 rintro ρ w ⟨b3,H,hH,hs,hb,h⟩
 refine zW hH ?_
 refine zA (zA ?_)
 refine vK (fun ρ wJ=>∃b4'0:Bool,∃HJ:NP,((aB == 8)=b4'0)∧Hst w0 H w HJ wJ∧HB HJ wJ [(p3,[(vi aB),(vi aO),(vi aN),(vu aM),(vs aL),(vi aK),(vi aJ)],127)]∧Has ρ [(0,(vp p1)),(5,r1.v),(6,s1.v),(7,b3.v),(8,(vi i1)),(9,(vp (some p3))),(65,(vb (b4'0 || (aB == 9))))]) ?_ ?_
 refine rg (q (q3 (xl (isAgg3 _) (hb.d0 0 gZ)) (qb ?_)))
 rcases bte (aB == 8) with hg2 | hg2
 refine sj 61 hg2 (sj 61 hg2 (sj 61 hg2 (q2 (vb true) (xT hg2) (ln ?_))))
 exact ⟨true,_,hg2,hs,hb,hm⟩
 refine qk 61 hg2 (q4 61 hg2 (xl (isAgg3 _) (hb.d0 0 gZ)) (qk 61 hg2 (q2 (vb (aB == 9)) (xF hg2) (ln ?_))))
 exact ⟨false,_,hg2,hs,hb,hm⟩
 rintro ρ w13 ⟨b4'0,H4,he0,hs,hb,hH⟩
 subst he0
 refine vD hH ?_
 refine zK ?_
 refine vE (fun ρ w=>∃b5:Sl,∃H:NP,Has ρ [(0,(vp p1)),(5,r1.v),(6,s1.v),(7,b5.v),(8,(vi i1)),(9,(vp (some p3)))]∧Hst w0 H w H w∧HB H w [(p3,[(vi aB),(vi aO),(vi aN),(vu aM),(vs aL),(vi aK),(vi aJ)],127)]∧m_G_j3 s1 i1 aB aM aL aK aJ b5 w0 H w (fun y'0 y'1 H' w'=>I1 y'0 y'1 H' w'∧mu1 y'0 y'1 w'<mu1 b1 i1 wl1) K) ?_ ?_
 rintro ρ w ⟨b5,H,hH,hs,hb,h⟩
 refine zW hH ?_
 refine zA (eg (q (q3 (xl (isAgg3 _) (hb.d0 0 gZ)) (q (ln ?_)))))
 refine vE (fun ρ w=>∃b6:Sl,∃H:NP,Has ρ [(0,(vp p1)),(5,r1.v),(6,s1.v),(7,b6.v),(8,(vi i1)),(9,(vp (some p3)))]∧Hst w0 H w H w∧HB H w [(p3,[(vi aB),(vi aO),(vi aN),(vu aM),(vs aL),(vi aK),(vi aJ)],127)]∧m_G_j4 s1 i1 aB aL aK aJ b6 w0 H w (fun y'0 y'1 H' w'=>I1 y'0 y'1 H' w'∧mu1 y'0 y'1 w'<mu1 b1 i1 wl1) K) ?_ ?_
 rintro ρ w ⟨b6,H,hH,hs,hb,h⟩
 refine zW hH ?_
 refine zA (eg (q (q3 (xl (isAgg3 _) (hb.d0 0 gZ)) (q (ln ?_)))))
 refine vE (fun ρ w=>∃b7:Sl,∃H:NP,Has ρ [(0,(vp p1)),(5,r1.v),(6,s1.v),(7,b7.v),(8,(vi i1)),(9,(vp (some p3)))]∧Hst w0 H w H w∧HB H w [(p3,[(vi aB),(vi aO),(vi aN),(vu aM),(vs aL),(vi aK),(vi aJ)],127)]∧m_G_j5 s1 i1 aB aK aJ b7 w0 H w (fun y'0 y'1 H' w'=>I1 y'0 y'1 H' w'∧mu1 y'0 y'1 w'<mu1 b1 i1 wl1) K) ?_ ?_
 rintro ρ w ⟨b7,H,hH,hs,hb,h⟩
 refine zW hH ?_
 refine zA (eg (q (q3 (xl (isAgg3 _) (hb.d0 0 gZ)) ?_)))
 refine sc call73 ((p_A aB w).mono ?_)
 rintro e w14 ⟨he,hE⟩
 refine ⟨_,he,?_⟩
 obtain ⟨hs,hb⟩:=hs.pp hb hE
 refine q (ln ?_)
 refine vE (fun ρ w=>∃b8:Sl,∃H:NP,Has ρ [(0,(vp p1)),(5,r1.v),(6,s1.v),(7,b8.v),(8,(vi i1)),(9,(vp (some p3)))]∧Hst w0 H w H w∧HB H w [(p3,[(vi aB),(vi aO),(vi aN),(vu aM),(vs aL),(vi aK),(vi aJ)],127)]∧m_G_j6 s1 i1 aB aJ b8 w0 H w (fun y'0 y'1 H' w'=>I1 y'0 y'1 H' w'∧mu1 y'0 y'1 w'<mu1 b1 i1 wl1) K) ?_ ?_
 rintro ρ w ⟨b8,H,hH,hs,hb,h⟩
 refine zW hH ?_
 refine eg (q (q3 (xl (isAgg3 _) (hb.d0 0 gZ)) ?_))
 refine sc call73 ((p_A aB w).mono ?_)
 rintro e w15 ⟨he,hE⟩
 refine ⟨_,he,?_⟩
 obtain ⟨hs,hb⟩:=hs.pp hb hE
 refine q (ln ?_)
 refine cbr h ?_ ?_<;>intro h
 refine rg (qc (q3 (xl (isAgg78 _) (hb.d 0 6 gZ)) ?_))
 refine qi (runUnderlying50 _) (sizeOf3 _) h fun a7 h=>?_
 have ⟨h,hs⟩:=hs.hr (h w15)
 refine ql (isAgg3 _) h fun v5 h=>q ?_
 refine sc call236 (h.mono fun e w16 ⟨r2,k,hk,h⟩=>have ⟨hs,hb⟩:=hk.hh hs hb;⟨_,k,?_⟩)
 refine q (zB (xW (zK (rg (qc (ln ?_))))))
 exact ⟨(r2,(q6.wrap (i1+1)),H,w16),⟨rfl,hm,hs,hb.drop 1,h.1⟩,h.2⟩
 refine zC (xW (zK (rg (qc (zB ?_)))))
 have ⟨h,hs⟩:=hs.hr (h w15)
 refine zK ?_
 exact ⟨(b8,(q6.wrap (i1+1)),H,w15),⟨rfl,hm,hs,hb.drop 1,h.1⟩,h.2⟩
 refine cbr h ?_ ?_<;>intro h
 refine rg (qc (q3 (xl (isAgg78 _) (hb.d 0 5 gZ)) ?_))
 refine qi (runUnderlying50 _) (sizeOf3 _) h fun a8 h=>?_
 have ⟨h,hs⟩:=hs.hr (h w14)
 refine ql (isAgg3 _) h fun v6 h=>q ?_
 refine sc call236 (h.mono fun e w17 ⟨r3,k,hk,h⟩=>have ⟨hs,hb⟩:=hk.hh hs hb;⟨_,k,?_⟩)
 refine q (ln ?_)
 exact ⟨r3,H,hm,hs,hb,h⟩
 refine zC ?_
 have ⟨h,hs⟩:=hs.hr (h w14)
 refine zK ?_
 exact ⟨b7,H,hm,hs,hb,h⟩
 refine cbr h ?_ ?_<;>intro h
 refine rg (qb (q3 (xl (isAgg9 _) (hb.d 0 4 gZ)) ?_))
 refine sc call237 (h.mono fun e w18 ⟨r4,k,hk,h⟩=>have ⟨hs,hb⟩:=hk.hh hs hb;⟨_,k,?_⟩)
 refine q (ln ?_)
 exact ⟨r4,H,hm,hs,hb,h⟩
 refine zC (zK ?_)
 exact ⟨b6,H,hm,hs,hb,h⟩
 refine cbr h ?_ ?_<;>intro h
 refine rg (qb (q3 (xl (isAgg23 _) (hb.d 0 3 gZ)) ?_))
 refine sc call236 (h.mono fun e w19 ⟨r5,k,hk,h⟩=>have ⟨hs,hb⟩:=hk.hh hs hb;⟨_,k,?_⟩)
 refine q (ln ?_)
 exact ⟨r5,H,hm,hs,hb,h⟩
 refine zC (zK ?_)
 exact ⟨b5,H,hm,hs,hb,h⟩
 refine cbr h ?_ ?_<;>intro h
 refine rg (qb (q3 (xl (isAgg3 _) (hb.d 0 2 gZ)) (q ?_)))
 have ⟨h,hs⟩:=hs.hr (h H4 w13)
 refine sc call236 (h.mono fun e w20 ⟨r6,k,hk,h⟩=>have ⟨hs,hb⟩:=hk.hh hs hb;⟨_,k,?_⟩)
 refine q (ln ?_)
 exact ⟨r6,H4,hm,hs,hb,h⟩
 refine zC ?_
 have ⟨h,hs⟩:=hs.hr (h H4 w13)
 refine zK ?_
 exact ⟨b3,H4,hm,hs,hb,h⟩
 refine cbr h ?_ ?_<;>intro h
 refine rg (qb (q3 (xl (isAgg3 _) (hb.d 0 1 gZ)) (q ?_)))
 have ⟨h,hs⟩:=hs.hr (h w12)
 refine sc call236 (h.mono fun e w21 ⟨r7,k,hk,h⟩=>have ⟨hs,hb⟩:=hk.hh hs hb;⟨_,k,?_⟩)
 refine q (ln ?_)
 exact ⟨r7,H2,hm,hs,hb,h⟩
 refine zC ?_
 have ⟨h,hs⟩:=hs.hr (h w12)
 refine zK ?_
 exact ⟨s2,H2,hm,hs,hb,h⟩
 refine vO (uU (uU (uY (zK (eg (q0 b1.v (q0 b1.v (ln (er ?_)))))))))
 refine rs1 results166 ⟨b1,rfl,h⟩
def m_H3 (p1:Option Addr) (t1:Int) (w0:World) (K:Sl→Int→WP):Prop :=Calls prog 122 #[(vp p1),(vi t1)] w0 (fun e w1=>∃r1:Bool,e=.returned (vb r1)∧Br (!r1) (K Sl.nil 51 w1) (Calls prog 166 #[(vp p1),(vi t1)] w1 (fun e w2=>∃r2:Sl,e=.returned r2.v∧Br (decide ((r2.len:Int)>4096)) (K Sl.nil 1 w2) (K r2 0 w2))))
theorem w_H3 (p1:Option Addr) (t1:Int) (w0:World) (K:Sl→Int→WP) (h:m_H3 p1 t1 w0 K) :
  Calls prog 108 #[(vp p1),(vi t1)] w0 (fun e w'=>∃r3:Sl,∃r4:Int,e=.returned (.tuple #[r3.v,(vi r4)])∧K r3 r4 w'):=by
 refine cw (args:=[(vp p1),(vi t1)]) func108 ntmps108 (eg (q0 Sl.nil.v (q0 (vi 0) (ln (zA (eg (q0 (vp p1) (q0 (vi t1) ?_))))))))
 refine sc call122 (h.mono fun e w1 ⟨r1,k,h⟩=>⟨_,k,?_⟩)
 refine q (ln ?_)
 refine cbr h ?_ ?_<;>intro h
 refine eg (qb (ln (er (vF (xO (.inl rfl) results108 (v:=Sl.nil.v) (by kernel_rfl) (v':=(vi 51)) (by kernel_rfl) ?_)))))
 exact ⟨Sl.nil,51,rfl,h⟩
 refine zC (zK (eg (qb ?_)))
 refine sc call166 (h.mono fun e w2 ⟨r2,k,h⟩=>⟨_,k,?_⟩)
 refine q (ln (zA (eg (qc (ln ?_)))))
 refine cbr h ?_ ?_<;>intro h
 refine eg (qb (ln (er (vF (xO (.inl rfl) results108 (v:=Sl.nil.v) (by kernel_rfl) (v':=(vi 1)) (by kernel_rfl) ?_)))))
 exact ⟨Sl.nil,1,rfl,h⟩
 refine zC (zK (eg (qc (ln (er (xO (.inl rfl) results108 (v:=r2.v) (by kernel_rfl) (v':=(vi 0)) (by kernel_rfl) ?_))))))
 exact ⟨r2,0,rfl,h⟩
def m_I3 (r1:Option Addr) (w0:World) (K:Int→WP):Prop :=∀(p1:Addr) (w1:World),New w0 (.cells #[(vp r1)] 228) p1 w1→∀(p2:Addr) (w2:World),New w1 (.cells #[(vu 0)] 23) p2 w2→∃v1:Option Addr,w2.cell? p1=some (vp v1)∧Calls prog 288 #[(vp v1),(.func (.func 289) #[] #[(vp (some p1)),(vp (some p2))])] w2 (fun e w3=>e=.returned (.tuple #[])∧∃v2:Int,w3.cell? p2=some (vu v2)∧CanW w3 p2∧∀w4:World,w4=w3.setCell p2 (vu v2)→∃aE:Int,w4.cell? p2=some (vu aE)∧K aE w4)
theorem w_I3 (r1:Option Addr) (w0:World) (K:Int→WP) (h:m_I3 r1 w0 K) :
  Calls prog 219 #[(vp r1)] w0 (fun e w'=>∃r2:Int,e=.returned (vu r2)∧K r2 w'):=by
 refine cw (args:=[(vp r1)]) func219 ntmps219 (eg (sn (O:=(.cells #[(vp r1)] 228)) xb ?_))
 intro p1 w1 hn3
 have h:=h p1 w1 hn3
 refine nw1 h (zQ (zeroValue23 _) rfl) fun p2 w2 h=>?_
 refine ln (eg ?_)
 refine ql (isAgg228 _) h fun v1 h=>q ?_
 refine sc call288 (h.mono fun e w3 ⟨k,h⟩=>⟨_,k,?_⟩)
 refine ln (eg ?_)
 refine ql (isAgg23 _) h fun v2 h=>?_
 refine st1 (sizeOf23 _) h fun w4 h=>?_
 refine ln (er ?_)
 obtain ⟨aE,hv1,h⟩:=h
 refine gg1 results219 (RV.cell1 (A:=p2) (by kernel_rfl) (isAgg23 _) hv1) ⟨aE,rfl,h⟩
def m_J3 (r1:Option Addr) (n1:Option Addr) (w0:World) (K:WP):Prop :=Calls prog 219 #[(vp r1)] w0 (fun e w1=>∃r2:Int,e=.returned (vu r2)∧∃a1:Addr,n1=some a1∧CanW w1 (a1.add 7)∧∀w2:World,w2=w1.setCell (a1.add 7) (vu r2)→K w2)
theorem w_J3 (r1:Option Addr) (n1:Option Addr) (w0:World) (K:WP) (h:m_J3 r1 n1 w0 K) :
  Calls prog 218 #[(vp r1),(vp n1)] w0 (fun e w'=>e=.returned (.tuple #[])∧K  w'):=by
 refine cw (args:=[(vp r1),(vp n1)]) func218 ntmps218 (rg (q0 (vp n1) (q0 (vp r1) ?_)))
 refine sc call219 (h.mono fun e w1 ⟨r2,k,h⟩=>⟨_,k,?_⟩)
 refine qm h fun a1 h=>q ?_
 refine st1 (sizeOf23 _) h fun w2 h=>?_
 refine zB (jFI (.inr rfl) results218 ?_)
 exact ⟨rfl,h⟩
def m_K3 (r1:Option Addr) (n1:Option Addr) (w0:World) (K:WP):Prop :=Calls prog 219 #[(vp r1)] w0 (fun e w1=>∃r2:Int,e=.returned (vu r2)∧∃a1:Addr,n1=some a1∧CanW w1 (a1.add 8)∧∀w2:World,w2=w1.setCell (a1.add 8) (vu r2)→K w2)
theorem w_K3 (r1:Option Addr) (n1:Option Addr) (w0:World) (K:WP) (h:m_K3 r1 n1 w0 K) :
  Calls prog 221 #[(vp r1),(vp n1)] w0 (fun e w'=>e=.returned (.tuple #[])∧K  w'):=by
 refine cw (args:=[(vp r1),(vp n1)]) func221 ntmps221 (rg (q0 (vp n1) (q0 (vp r1) ?_)))
 refine sc call219 (h.mono fun e w1 ⟨r2,k,h⟩=>⟨_,k,?_⟩)
 refine qm h fun a1 h=>q ?_
 refine st1 (sizeOf23 _) h fun w2 h=>?_
 refine zB (jFI (.inr rfl) results221 ?_)
 exact ⟨rfl,h⟩
def m_L3 (r1:Option Addr) (n1:Option Addr) (w0:World) (K:WP):Prop :=Calls prog 219 #[(vp r1)] w0 (fun e w1=>∃r2:Int,e=.returned (vu r2)∧∃a1:Addr,n1=some a1∧CanW w1 (a1.add 3)∧∀w2:World,w2=w1.setCell (a1.add 3) (vu r2)→K w2)
theorem w_L3 (r1:Option Addr) (n1:Option Addr) (w0:World) (K:WP) (h:m_L3 r1 n1 w0 K) :
  Calls prog 223 #[(vp r1),(vp n1)] w0 (fun e w'=>e=.returned (.tuple #[])∧K  w'):=by
 refine cw (args:=[(vp r1),(vp n1)]) func223 ntmps223 (rg (q0 (vp n1) (q0 (vp r1) ?_)))
 refine sc call219 (h.mono fun e w1 ⟨r2,k,h⟩=>⟨_,k,?_⟩)
 refine qm h fun a1 h=>qb ?_
 refine st1 (sizeOf23 _) h fun w2 h=>?_
 refine zB (jFI (.inr rfl) results223 ?_)
 exact ⟨rfl,h⟩
def m_M3 (r1:Option Addr) (most1:Int) (w0:World) (K:ByteArray→WP):Prop :=∀(p1:Addr) (w1:World),New w0 (.cells #[(vp r1)] 228) p1 w1→∀(p2:Addr) (w2:World),New w1 (.cells #[(vi most1)] 3) p2 w2→∀(p3:Addr) (w3:World),New w2 (.cells #[ve] 9) p3 w3→∃v1:Option Addr,w3.cell? p1=some (vp v1)∧Calls prog 288 #[(vp v1),(.func (.func 291) #[] #[(vp (some p1)),(vp (some p2)),(vp (some p3))])] w3 (fun e w4=>e=.returned (.tuple #[])∧∃v2:ByteArray,w4.cell? p3=some (vs v2)∧CanW w4 p3∧∀w5:World,w5=w4.setCell p3 (vs v2)→∃aE:ByteArray,w5.cell? p3=some (vs aE)∧K aE w5)
theorem w_M3 (r1:Option Addr) (most1:Int) (w0:World) (K:ByteArray→WP) (h:m_M3 r1 most1 w0 K) :
  Calls prog 227 #[(vp r1),(vi most1)] w0 (fun e w'=>∃r2:ByteArray,e=.returned (vs r2)∧K r2 w'):=by
 refine cw (args:=[(vp r1),(vi most1)]) func227 ntmps227 (eg (sn (O:=(.cells #[(vp r1)] 228)) xb ?_))
 intro p1 w1 hn4
 have h:=h p1 w1 hn4
 refine nw1 h xb fun p2 w2 h=>?_
 refine nw1 h (zQ (zeroValue9 _) rfl) fun p3 w3 h=>?_
 refine ln (eg ?_)
 refine ql (isAgg228 _) h fun v1 h=>q ?_
 refine sc call288 (h.mono fun e w4 ⟨k,h⟩=>⟨_,k,?_⟩)
 refine ln (eg ?_)
 refine ql (isAgg9 _) h fun v2 h=>?_
 refine st1 (sizeOf9 _) h fun w5 h=>?_
 refine ln (er ?_)
 obtain ⟨aE,hv1,h⟩:=h
 refine gg1 results227 (RV.cell1 (A:=p3) (by kernel_rfl) (isAgg9 _) hv1) ⟨aE,rfl,h⟩
def m_N3 (r1:Option Addr) (n1:Option Addr) (w0:World) (K:WP):Prop :=Calls prog 227 #[(vp r1),(vi 64)] w0 (fun e w1=>∃r2:ByteArray,e=.returned (vs r2)∧∃a1:Addr,n1=some a1∧CanW w1 (a1.add 4)∧∀w2:World,w2=w1.setCell (a1.add 4) (vs r2)→K w2)
theorem w_N3 (r1:Option Addr) (n1:Option Addr) (w0:World) (K:WP) (h:m_N3 r1 n1 w0 K) :
  Calls prog 226 #[(vp r1),(vp n1)] w0 (fun e w'=>e=.returned (.tuple #[])∧K  w'):=by
 refine cw (args:=[(vp r1),(vp n1)]) func226 ntmps226 (rg (q0 (vp n1) (q0 (vp r1) ?_)))
 refine sc call227 (h.mono fun e w1 ⟨r2,k,h⟩=>⟨_,k,?_⟩)
 refine qm h fun a1 h=>qb ?_
 refine st1 (sizeOf9 _) h fun w2 h=>?_
 refine zB (jFI (.inr rfl) results226 ?_)
 exact ⟨rfl,h⟩
def m_O3 (r1:Option Addr) (n1:Option Addr) (w0:World) (K:WP):Prop :=Calls prog 219 #[(vp r1)] w0 (fun e w1=>∃r2:Int,e=.returned (vu r2)∧∃a1:Addr,n1=some a1∧CanW w1 (a1.add 9)∧∀w2:World,w2=w1.setCell (a1.add 9) (vu r2)→∃a2:Addr,n1=some a2∧CanW w2 (a2.add 11)∧∀w3:World,w3=w2.setCell (a2.add 11) (vi 1)→K w3)
theorem w_O3 (r1:Option Addr) (n1:Option Addr) (w0:World) (K:WP) (h:m_O3 r1 n1 w0 K) :
  Calls prog 229 #[(vp r1),(vp n1)] w0 (fun e w'=>e=.returned (.tuple #[])∧K  w'):=by
 refine cw (args:=[(vp r1),(vp n1)]) func229 ntmps229 (rg (q0 (vp n1) (q0 (vp n1) (q0 (vp r1) ?_))))
 refine sc call219 (h.mono fun e w1 ⟨r2,k,h⟩=>⟨_,k,?_⟩)
 refine qm h fun a1 h=>q ?_
 refine st1 (sizeOf23 _) h fun w2 h=>?_
 refine qm h fun a2 h=>q ?_
 refine st1 (sizeOf3 _) h fun w3 h=>?_
 refine zB (jFI (.inr rfl) results229 ?_)
 exact ⟨rfl,h⟩
def m_P3 (r1:Option Addr) (n1:Option Addr) (w0:World) (K:WP):Prop :=Calls prog 219 #[(vp r1)] w0 (fun e w1=>∃r2:Int,e=.returned (vu r2)∧∃a1:Addr,n1=some a1∧CanW w1 (a1.add 10)∧∀w2:World,w2=w1.setCell (a1.add 10) (vu r2)→∃a2:Addr,n1=some a2∧CanW w2 (a2.add 11)∧∀w3:World,w3=w2.setCell (a2.add 11) (vi 2)→K w3)
theorem w_P3 (r1:Option Addr) (n1:Option Addr) (w0:World) (K:WP) (h:m_P3 r1 n1 w0 K) :
  Calls prog 231 #[(vp r1),(vp n1)] w0 (fun e w'=>e=.returned (.tuple #[])∧K  w'):=by
 refine cw (args:=[(vp r1),(vp n1)]) func231 ntmps231 (rg (q0 (vp n1) (q0 (vp n1) (q0 (vp r1) ?_))))
 refine sc call219 (h.mono fun e w1 ⟨r2,k,h⟩=>⟨_,k,?_⟩)
 refine qm h fun a1 h=>q ?_
 refine st1 (sizeOf23 _) h fun w2 h=>?_
 refine qm h fun a2 h=>q ?_
 refine st1 (sizeOf3 _) h fun w3 h=>?_
 refine zB (jFI (.inr rfl) results231 ?_)
 exact ⟨rfl,h⟩
def m_H1_j1 (r1:Option Addr) (w0:World) (H:NP) (w:World) (K:Option (List PanicEntry)→Int→WP):Prop :=∃a3:Addr,r1=some a3∧∃v3:Int,w.cell? (a3.add 1)=some (vi v3)∧∃a4:Addr,r1=some a4∧CanW w (a4.add 1)∧¬ H (a4.add 1).block∧∀w2:World,w2=w.setCell (a4.add 1) (vi (q6.wrap (v3+1)))→∃a5:Addr,r1=some a5∧∀(w3:World),Hst w0 H w2 H w3→∃v4:Sl,w3.cell? a5=some v4.v∧∃a6:Addr,r1=some a6∧∃v5:Int,w3.cell? (a6.add 1)=some (vi v5)∧∃a7:Addr,At v4 (q6.wrap (v5 - 1)) 1 a7∧∃v6:Int,w3.cell? a7=some (.int .u8 v6)∧K none v6 w3
def m_H1 (r1:Option Addr) (w0:World) (K:Option (List PanicEntry)→Int→WP):Prop :=∃a1:Addr,r1=some a1∧∀(w1:World),Hst w0 None w0 None w1→∃v1:Int,w1.cell? (a1.add 1)=some (vi v1)∧∃a2:Addr,r1=some a2∧∃v2:Sl,w1.cell? a2=some v2.v∧Br (v1 == (v2.len:Int)) (K (some [{ v:=(.iface 335 (vi 3)),recovered:=false }]) 0 w1) (m_H1_j1 r1 w0 None w1 K)
theorem w_H1 (r1:Option Addr) (w0:World) (K:Option (List PanicEntry)→Int→WP) (h:m_H1 r1 w0 K) :
  Calls prog 293 #[(vp r1)] w0 (fun e w'=>(∃r2:Int,e=.returned (.int .u8 r2)∧K none r2 w')∨∃ch,e=.panicked ch∧K (some ch) 0 w'):=by
 refine yY (args:=[(vp r1)]) func293 rfl ntmps293 (Nat.le_of_ble_eq_true rfl) ?_
 obtain ⟨hs,hb⟩:=st0 w0
 refine eg (q (ln (zA (zA (qE (by kernel_rfl) (by kernel_rfl) (by kernel_rfl) (by kernel_rfl) ?_)))))
 intro w1 hw1
 have hs:Hst w0 None w0 None w1:=by rw [hw1];exact hs.drew
 have hb:HB None w1 []:=by rw [hw1];exact hb.drew
 refine qq 0 (vp r1) Kp0 (qg 1 ?_)
 obtain ⟨a1,hp1,h⟩:=h
 refine sxQ Kp1 (zL rfl) rfl (xn hp1) (qq 2 (vp (some (a1.add 1))) Kp2 (qg 3 ?_))
 have ⟨h,hs⟩:=hs.hr (h w1)
 obtain ⟨v1,hv7,h⟩:=h
 refine sxQ Kp3 (zL rfl) rfl (xl (isAgg3 _) hv7) (qq 4 (vp r1) Kp4 (qg 5 ?_))
 obtain ⟨a2,hp2,h⟩:=h
 refine sxQ Kp5 (zL rfl) rfl (xn hp2) (qq 6 (vp (some a2)) Kp6 (qg 7 ?_))
 obtain ⟨v2,hv6,h⟩:=h
 refine sxQ Kp7 (zL rfl) rfl (xl (isAgg65 _) hv6) (qq 8 (vi (v2.len:Int)) Kp8 (qq 9 (vb (v1 == (v2.len:Int))) Kp9 (wn (zK ?_))))
 refine vE (fun ρ w=>∃H:NP,Has ρ [(0,(vp r1))]∧Hst w0 H w H w∧HB H w []∧m_H1_j1 r1 w0 H w K) ?_ ?_
 rintro ρ w ⟨H,hH,hs,hb,h⟩
 refine zW hH ?_
 refine eg (q ?_)
 refine qm h fun a3 h=>q ?_
 refine ql (isAgg3 _) h fun v3 h=>q ?_
 refine qm h fun a4 h=>q ?_
 refine st2 (sizeOf3 _) hs hb h fun w2 hs hb h=>?_
 refine ln (zA (qE (by kernel_rfl) (by kernel_rfl) (by kernel_rfl) (by kernel_rfl) ?_))
 intro w3 hw3
 have hs:Hst w0 H w2 H w3:=by rw [hw3];exact hs.drew
 have hb:HB H w3 []:=by rw [hw3];exact hb.drew
 refine qq 0 (vp r1) Kp0 (qg 1 ?_)
 obtain ⟨a5,hp6,h⟩:=h
 refine sxQ Kp1 (zL rfl) rfl (xn hp6) (qq 2 (vp (some a5)) Kp2 (qg 3 ?_))
 have ⟨h,hs⟩:=hs.hr (h w3)
 obtain ⟨v4,hv4,h⟩:=h
 refine sxQ Kp3 (zL rfl) rfl (xl (isAgg65 _) hv4) (qq 4 (vp r1) Kp4 (qg 5 ?_))
 obtain ⟨a6,hp7,h⟩:=h
 refine sxQ Kp5 (zL rfl) rfl (xn hp7) (qq 6 (vp (some (a6.add 1))) Kp6 (qg 7 ?_))
 obtain ⟨v5,hv3,h⟩:=h
 refine sxQ Kp7 (zL rfl) rfl (xl (isAgg3 _) hv3) (qq 8 (vi (q6.wrap (v5 - 1))) Kp8 (qg 9 ?_))
 obtain ⟨a7,hv2,h⟩:=h
 refine sxQ Kp9 (zL rfl) rfl (xi (runUnderlying65 _) (sizeOf5 _) hv2) (qg 10 ?_)
 obtain ⟨v6,hv1,h⟩:=h
 refine sxQ (zT (S8 (zH (zH zS)))) (zL rfl) rfl (xl (isAgg5 _) hv1) (qq 11 (.int .u8 v6) (zT (S8 (zH (zH (zH zS))))) (wn (zK (er (ep (rs1 results293 (v:=(.int .u8 v6)) ?_))))))
 exact .inl ⟨v6,rfl,h⟩
 refine cbr h ?_ ?_<;>intro h
 refine qK (by kernel_rfl) (qD 1 (q0 (.iface 335 (vi 3)) (zB ?_)))
 refine jBP (zL rfl) (by intro c hc;cases hc) (jDZ (by kernel_rfl)) (fun ρ'=>.inr ⟨_,rfl,h⟩)
 refine zC (zK ?_)
 exact ⟨None,hm,hs,hb,h⟩
def m_X_j2 (n1 i1 r2:Int) (w:World) (Kc1:Int→Int→WP) (K:Option (List PanicEntry)→Int→WP):Prop :=∃z1:Int,(Go.binOp .and 5 (.int .u8 r2) (.int .u8 127)).run prog w=.ok (.int .u8 z1) w∧∃z2:Int,(Go.binOp .shl 23 (vu (IntKind.u64.wrap z1)) (vi (q6.wrap (7*i1)))).run prog w=.ok (vu z2) w∧∃z3:Int,(Go.binOp .or 23 (vu n1) (vu z2)).run prog w=.ok (vu z3) w∧Br (decide (r2<128)) (Br ((r2 == 0) && (decide (i1>0))) (K (some [{ v:=(.iface 335 (vi 10)),recovered:=false }]) 0 w) (K none z3 w)) (Kc1 z3 (q6.wrap (i1+1)) w)
def m_X_l1 (r1:Option Addr) (n1 i1:Int) (wl1:World) (Kc1:Int→Int→WP) (K:Option (List PanicEntry)→Int→WP):Prop :=Calls prog 293 #[(vp r1)] wl1 (fun e w1=>(∃r2:Int,e=.returned (.int .u8 r2)∧Br ((i1 == 9) && (decide (r2>1))) (K (some [{ v:=(.iface 335 (vi 11)),recovered:=false }]) 0 w1) (m_X_j2 n1 i1 r2 w1 Kc1 K))∨∃ch,e=.panicked ch∧K (some ch) 0 w1)
def m_X (r1:Option Addr) (w0:World) (K:Option (List PanicEntry)→Int→WP):Prop :=∃(I1:Int→Int→WP) (mu1:Int→Int→World→Nat),I1 0 0 w0∧∀(n1 i1:Int) (wl1:World),I1 n1 i1 wl1→m_X_l1 r1 n1 i1 wl1 (fun y'0 y'1 w'=>I1 y'0 y'1 w'∧mu1 y'0 y'1 w'<mu1 n1 i1 wl1) K
theorem w_X (r1:Option Addr) (w0:World) (K:Option (List PanicEntry)→Int→WP) (h:m_X r1 w0 K) :
  Calls prog 290 #[(vp r1)] w0 (fun e w'=>(∃r3:Int,e=.returned (vu r3)∧K none r3 w')∨∃ch,e=.panicked ch∧K (some ch) 0 w'):=by
 refine yY (args:=[(vp r1)]) func290 rfl ntmps290 (Nat.le_of_ble_eq_true rfl) (eg (q0 (vu 0) (ln (eg (q0 (vu 0) (ln (zA ?_)))))))
 refine rg (q (ln (zJ ?_)))
 obtain ⟨I1,mu1,h0,hr⟩:=h
 refine vP (σ:=Int×Int×World) (fun s ρ w=>w=s.2.2∧Has ρ [(0,(vp r1)),(3,(vu s.1)),(4,(vi s.2.1))]∧I1 s.1 s.2.1 s.2.2) (fun s=>mu1 s.1 s.2.1 s.2.2) (0,0,w0) ⟨rfl,hm,h0⟩ ?_
 rintro ⟨n1,i1,wl1⟩ ρ w ⟨hw,hH,hI⟩
 dsimp only at hw hH;subst w
 have h:=hr n1 i1 wl1 hI
 refine zW hH ?_
 refine zA (zJ (zA (qK (by kernel_rfl) (qD 1 (q0 (vp r1) (zB ?_))))))
 refine jEI (zL rfl) (by intro c hc;cases hc) (xc call293) (h.mono ?_)
 rintro e w1 (⟨r2,rfl,h⟩ | ⟨ch,rfl,h⟩)
 rotate_left
 exact .inr ⟨ch,rfl,fun ρ'=>.inr ⟨ch,rfl,h⟩⟩
 refine .inl ⟨_,rfl,?_⟩
 refine jBH (q0 (.int .u8 r2) (ln (zA (zA ?_))))
 refine vK (fun ρ wJ=>∃b1'0:Bool,((i1 == 9)=b1'0)∧w1=wJ∧Has ρ [(0,(vp r1)),(3,(vu n1)),(4,(vi i1)),(5,(.int .u8 r2)),(15,(vb (b1'0 && (decide (r2>1)))))]) ?_ ?_
 refine rg (qc ?_)
 rcases bte (i1 == 9) with hg2 | hg2
 refine qk 12 hg2 (qk 12 hg2 (q2 (vb (decide (r2>1))) (xT hg2) (ln ?_)))
 exact ⟨true,hg2,rfl,hm⟩
 refine sj 12 hg2 (sj 12 hg2 (q2 (vb false) (xF hg2) (ln ?_)))
 exact ⟨false,hg2,rfl,hm⟩
 rintro ρ w2 ⟨b1'0,he0,hw,hH⟩
 subst he0
 subst hw
 refine vD hH ?_
 refine zK ?_
 refine vE (fun ρ w=>Has ρ [(0,(vp r1)),(3,(vu n1)),(4,(vi i1)),(5,(.int .u8 r2))]∧m_X_j2 n1 i1 r2 w (fun y'0 y'1 w'=>I1 y'0 y'1 w'∧mu1 y'0 y'1 w'<mu1 n1 i1 wl1) K) ?_ ?_
 rintro ρ w ⟨hH,h⟩
 refine zW hH ?_
 refine eg (qb ?_)
 obtain ⟨z1,hv3,h⟩:=h
 refine q2 (.int .u8 z1) (jNQ (by kernel_rfl) (by kernel_rfl) (by kernel_rfl) hv3) (qc ?_)
 obtain ⟨z2,hv2,h⟩:=h
 refine q2 (vu z2) (jNQ (by kernel_rfl) (by kernel_rfl) (by kernel_rfl) hv2) ?_
 obtain ⟨z3,hv1,h⟩:=h
 refine q2 (vu z3) (jNQ (by kernel_rfl) (by kernel_rfl) (by kernel_rfl) hv1) (q (ln (eg (qb (ln ?_)))))
 refine cbr h ?_ ?_<;>intro h
 refine zA (zA ?_)
 refine vK (fun ρ wJ=>∃b2'0:Bool,((r2 == 0)=b2'0)∧w=wJ∧Has ρ [(3,(vu z3)),(32,(vb (b2'0 && (decide (i1>0)))))]) ?_ ?_
 refine rg (qc ?_)
 rcases bte (r2 == 0) with hg4 | hg4
 refine qk 29 hg4 (qk 29 hg4 (q2 (vb (decide (i1>0))) (xT hg4) (ln ?_)))
 exact ⟨true,hg4,rfl,hm⟩
 refine sj 29 hg4 (sj 29 hg4 (q2 (vb false) (xF hg4) (ln ?_)))
 exact ⟨false,hg4,rfl,hm⟩
 rintro ρ w3 ⟨b2'0,he0,hw,hH⟩
 subst he0
 subst hw
 refine vD hH ?_
 refine zK ?_
 refine cbr h ?_ ?_<;>intro h
 refine qK (by kernel_rfl) (qD 1 (q0 (.iface 335 (vi 10)) (zB ?_)))
 refine jBP (zL rfl) (by intro c hc;cases hc) (jDZ (by kernel_rfl)) (fun ρ'=>.inr ⟨_,rfl,h⟩)
 refine zC (zK (eg (qb (ln (er (uC (vF (vF ?_))))))))
 refine uC (ep (rs1 results290 (v:=(vu z3)) ?_))
 exact .inl ⟨z3,rfl,h⟩
 refine zC (xW (zK (rg (qc (ln ?_)))))
 exact ⟨(z3,(q6.wrap (i1+1)),w),⟨rfl,hm,h.1⟩,h.2⟩
 refine cbr h ?_ ?_<;>intro h
 refine qK (by kernel_rfl) (qD 1 (q0 (.iface 335 (vi 11)) (zB ?_)))
 refine jBP (zL rfl) (by intro c hc;cases hc) (jDZ (by kernel_rfl)) (fun ρ'=>.inr ⟨_,rfl,h⟩)
 refine zC (zK ?_)
 exact ⟨hm,h⟩
def m_Q3 (cap1 cap2:Addr) (w0:World) (K:Option (List PanicEntry)→WP):Prop :=∃v1:Option Addr,w0.cell? cap1=some (vp v1)∧Calls prog 290 #[(vp v1)] w0 (fun e w1=>(∃r1:Int,e=.returned (vu r1)∧CanW w1 cap2∧∀w2:World,w2=w1.setCell cap2 (vu r1)→K none w2)∨∃ch,e=.panicked ch∧K (some ch)  w1)
theorem w_Q3 (cap1 cap2:Addr) (w0:World) (K:Option (List PanicEntry)→WP) (h:m_Q3 cap1 cap2 w0 K) :
  Calls prog 289 #[(vp (some cap1)),(vp (some cap2))] w0 (fun e w'=>(e=.returned (.tuple #[])∧K none  w')∨∃ch,e=.panicked ch∧K (some ch)  w'):=by
 refine yY (args:=[(vp (some cap1)),(vp (some cap2))]) func289 rfl ntmps289 (Nat.le_of_ble_eq_true rfl) (qK (by kernel_rfl) (qD 1 ?_))
 refine ql (isAgg228 _) h fun v1 h=>zB ?_
 refine jEI (zL rfl) (by intro c hc;cases hc) (xc call290) (h.mono ?_)
 rintro e w1 (⟨r1,rfl,h⟩ | ⟨ch,rfl,h⟩)
 rotate_left
 exact .inr ⟨ch,rfl,fun ρ'=>.inr ⟨ch,rfl,h⟩⟩
 refine .inl ⟨_,rfl,?_⟩
 refine jBH ?_
 refine st1 (sizeOf23 _) h fun w2 h=>?_
 refine zB (ep (jFI (.inr rfl) results289 ?_))
 exact .inl ⟨rfl,h⟩
def m_Q_j3 (cap1 cap3:Addr) (r1:Int) (H:NP) (w:World) (K:Option (List PanicEntry)→WP):Prop :=∃C1:WP,C1 w.drew∧∀w3,w3=w.drew→∃v6:Option Addr,w3.cell? cap1=some (vp v6)∧∃a3:Addr,v6=some a3∧∃v7:Sl,w3.cell? a3=some v7.v∧∃v8:Option Addr,w3.cell? cap1=some (vp v8)∧∃a4:Addr,v8=some a4∧∃v9:Int,w3.cell? (a4.add 1)=some (vi v9)∧∃v10:Option Addr,w3.cell? cap1=some (vp v10)∧∃a5:Addr,v10=some a5∧∃v11:Int,w3.cell? (a5.add 1)=some (vi v11)∧∃s1:Sl,(Instr.sliceAt 65 v7.v (some (vi v9)) (some (vi (q6.wrap (v11+(q6.wrap r1))))) none).run prog w3=.ok s1.v w3∧∃c1:ByteArray,(convert 65 9 s1.v).run prog w3=.ok (vs c1) w3∧CanW w3 cap3∧¬ H cap3.block∧∀w4:World,w4=w3.setCell cap3 (vs c1)→∃v12:Option Addr,w4.cell? cap1=some (vp v12)∧∃a6:Addr,v12=some a6∧∃v13:Int,w4.cell? (a6.add 1)=some (vi v13)∧∃a7:Addr,v12=some a7∧CanW w4 (a7.add 1)∧¬ H (a7.add 1).block∧∀w5:World,w5=w4.setCell (a7.add 1) (vi (q6.wrap (v13+(q6.wrap r1))))→K none w5
def m_Q_j2 (cap1 cap3:Addr) (r1:Int) (w0:World) (H:NP) (w:World) (K:Option (List PanicEntry)→WP):Prop :=∀(w2:World),Hst w0 H w H w2→∃v2:Option Addr,w2.cell? cap1=some (vp v2)∧∃a1:Addr,v2=some a1∧∃v3:Sl,w2.cell? a1=some v3.v∧∃v4:Option Addr,w2.cell? cap1=some (vp v4)∧∃a2:Addr,v4=some a2∧∃v5:Int,w2.cell? (a2.add 1)=some (vi v5)∧Br (decide (r1>(IntKind.u64.wrap (q6.wrap ((v3.len:Int) - v5))))) (K (some [{ v:=(.iface 335 (vi 3)),recovered:=false }])  w2) (m_Q_j3 cap1 cap3 r1 H w2 K)
def m_Q_j1 (cap1 cap3:Addr) (r1:Int) (x1:Bool) (w0:World) (H:NP) (w:World) (K:Option (List PanicEntry)→WP):Prop :=Br x1 (K (some [{ v:=(.iface 335 (vi 1)),recovered:=false }])  w) (m_Q_j2 cap1 cap3 r1 w0 H w K)
def m_Q (cap1 cap2 cap3:Addr) (w0:World) (K:Option (List PanicEntry)→WP):Prop :=∃v1:Option Addr,w0.cell? cap1=some (vp v1)∧Calls prog 290 #[(vp v1)] w0 (fun e w1=>(∃r1:Int,e=.returned (vu r1)∧Kept None w0 w1∧∃v14:Int,w1.cell? cap2=some (vi v14)∧Br (decide (v14<0)) (m_Q_j1 cap1 cap3 r1 true w0 None w1 K) (∃v15:Int,w1.cell? cap2=some (vi v15)∧m_Q_j1 cap1 cap3 r1 (decide (r1>(IntKind.u64.wrap v15))) w0 None w1 K))∨∃ch,e=.panicked ch∧K (some ch)  w1)
theorem w_Q (cap1 cap2 cap3:Addr) (w0:World) (K:Option (List PanicEntry)→WP) (h:m_Q cap1 cap2 cap3 w0 K) :
  Calls prog 291 #[(vp (some cap1)),(vp (some cap2)),(vp (some cap3))] w0 (fun e w'=>(e=.returned (.tuple #[])∧K none  w')∨∃ch,e=.panicked ch∧K (some ch)  w'):=by
 refine yY (args:=[(vp (some cap1)),(vp (some cap2)),(vp (some cap3))]) func291 rfl ntmps291 (Nat.le_of_ble_eq_true rfl) ?_
 obtain ⟨hs,hb⟩:=st0 w0
 refine zA (qK (by kernel_rfl) (qD 1 ?_))
 refine ql (isAgg228 _) h fun v1 h=>zB ?_
 refine jEI (zL rfl) (by intro c hc;cases hc) (xc call290) (h.mono ?_)
 rintro e w1 (⟨r1,rfl,hk,h⟩ | ⟨ch,rfl,h⟩)
 rotate_left
 exact .inr ⟨ch,rfl,fun ρ'=>.inr ⟨ch,rfl,h⟩⟩
 refine .inl ⟨_,rfl,?_⟩
 obtain ⟨hs,hb⟩:=hk.hh hs hb
 refine jBH (q0 (vu r1) (ln (zA (zA ?_))))
 refine vE (fun ρ w=>∃x1:Bool,∃H:NP,Has ρ [(0,(vp (some cap1))),(2,(vp (some cap3))),(3,(vu r1)),(13,(vb x1))]∧Hst w0 H w H w∧HB H w []∧m_Q_j1 cap1 cap3 r1 x1 w0 H w K) ?_ ?_
 rintro ρ w ⟨x1,H,hH,hs,hb,h⟩
 refine zW hH ?_
 refine vE (fun ρ w=>∃H:NP,Has ρ [(0,(vp (some cap1))),(2,(vp (some cap3))),(3,(vu r1))]∧Hst w0 H w H w∧HB H w []∧m_Q_j2 cap1 cap3 r1 w0 H w K) ?_ ?_
 rintro ρ w ⟨H,hH,hs,hb,h⟩
 refine zW hH ?_
 refine zA (zA (qE (by kernel_rfl) (by kernel_rfl) (by kernel_rfl) (by kernel_rfl) ?_))
 intro w2 hw2
 have hs:Hst w0 H w H w2:=by rw [hw2];exact hs.drew
 have hb:HB H w2 []:=by rw [hw2];exact hb.drew
 refine qq 0 (vu r1) Kp0 (qg 1 ?_)
 have ⟨h,hs⟩:=hs.hr (h w2)
 obtain ⟨v2,hv14,h⟩:=h
 refine sxQ Kp1 (zL rfl) rfl (xl (isAgg228 _) hv14) (qg 2 ?_)
 obtain ⟨a1,hp1,h⟩:=h
 refine sxQ Kp2 (zL rfl) rfl (xn hp1) (qq 3 (vp (some a1)) Kp3 (qg 4 ?_))
 obtain ⟨v3,hv13,h⟩:=h
 refine sxQ Kp4 (zL rfl) rfl (xl (isAgg65 _) hv13) (qq 5 (vi (v3.len:Int)) Kp5 (qg 6 ?_))
 obtain ⟨v4,hv12,h⟩:=h
 refine sxQ Kp6 (zL rfl) rfl (xl (isAgg228 _) hv12) (qg 7 ?_)
 obtain ⟨a2,hp2,h⟩:=h
 refine sxQ Kp7 (zL rfl) rfl (xn hp2) (qq 8 (vp (some (a2.add 1))) Kp8 (qg 9 ?_))
 obtain ⟨v5,hv11,h⟩:=h
 refine sxQ Kp9 (zL rfl) rfl (xl (isAgg3 _) hv11) (qq 10 (vi (q6.wrap ((v3.len:Int) - v5))) (zT (S8 (zH (zH zS)))) (qq 11 (vu (IntKind.u64.wrap (q6.wrap ((v3.len:Int) - v5)))) (zT (S8 (zH (zH (zH zS))))) (qq 12 (vb (decide (r1>(IntKind.u64.wrap (q6.wrap ((v3.len:Int) - v5)))))) (zT (S8 (S4 zS))) (wn (zK ?_)))))
 refine vE (fun ρ w=>∃H:NP,Has ρ [(0,(vp (some cap1))),(2,(vp (some cap3))),(3,(vu r1))]∧Hst w0 H w H w∧HB H w []∧m_Q_j3 cap1 cap3 r1 H w K) ?_ ?_
 rintro ρ w ⟨H,hH,hs,hb,h⟩
 refine zW hH ?_
 refine zA ?_
 obtain ⟨C1,hC,h⟩:=h
 refine dr2 C1 [17] [17] hC h hs hb fun w3 hs hb h=>?_
 have hs:=hs.here
 refine qg 0 ?_
 obtain ⟨v6,hv10,h⟩:=h
 refine sye Kp0 (xl (isAgg228 _) hv10) (qg 1 ?_)
 obtain ⟨a3,hp3,h⟩:=h
 refine sy Kp1 (fun _ _=>xn hp3) (qx 2 (vp (some a3)) Kp2 (qg 3 ?_))
 obtain ⟨v7,hv9,h⟩:=h
 refine sye Kp3 (xl (isAgg65 _) hv9) (qg 4 ?_)
 obtain ⟨v8,hv8,h⟩:=h
 refine sye Kp4 (xl (isAgg228 _) hv8) (qg 5 ?_)
 obtain ⟨a4,hp4,h⟩:=h
 refine sy Kp5 (fun _ _=>xn hp4) (qx 6 (vp (some (a4.add 1))) Kp6 (qg 7 ?_))
 obtain ⟨v9,hv7,h⟩:=h
 refine sye Kp7 (xl (isAgg3 _) hv7) (qg 8 ?_)
 obtain ⟨v10,hv6,h⟩:=h
 refine sye Kp8 (xl (isAgg228 _) hv6) (qg 9 ?_)
 obtain ⟨a5,hp5,h⟩:=h
 refine sy Kp9 (fun _ _=>xn hp5) (qx 10 (vp (some (a5.add 1))) (zT (S8 (zH (zH zS)))) (qg 11 ?_))
 obtain ⟨v11,hv5,h⟩:=h
 refine sye (zT (S8 (zH (zH (zH zS))))) (xl (isAgg3 _) hv5) (qx 12 (vu r1) (zT (S8 (S4 zS))) (qx 13 (vi (q6.wrap r1)) (zT (S8 (S4 (zH zS)))) (qx 14 (vi (q6.wrap (v11+(q6.wrap r1)))) (zT (S8 (S4 (zH (zH zS))))) (qg 15 ?_))))
 obtain ⟨s1,hv4,h⟩:=h
 refine sye (v:=s1.v) (zT (S8 (S4 (zH (zH (zH zS)))))) (xI (by kernel_rfl) (by kernel_rfl) (by kernel_rfl) (by kernel_rfl) hv4) (qg 16 ?_)
 obtain ⟨c1,hv3,h⟩:=h
 refine sye (v:=(vs c1)) (zT (S8 (S8 zS))) (jBF (by kernel_rfl) hv3) (lg 17 ?_)
 obtain ⟨hp6,hnh,h⟩:=h
 refine jSX (zT (S8 (S8 (zH zS)))) (xs (v:=(vs c1)) (sizeOf9 _) hp6) ?_
 intro w4 hn1
 have h:=h w4 hn1
 refine ⟨.inl (by kernel_rfl),?_⟩
 have hk:=Kept.sc hnh hn1
 obtain ⟨hs,hb⟩:=hk.hh hs hb
 refine wn (zK (rg ?_))
 refine ql (isAgg228 _) h fun v12 h=>?_
 refine qm h fun a6 h=>q ?_
 refine ql (isAgg3 _) h fun v13 h=>qc ?_
 refine qm h fun a7 h=>q ?_
 refine st2 (sizeOf3 _) hs hb h fun w5 hs hb h=>?_
 refine zB (ep (jFI (.inr rfl) results291 ?_))
 exact .inl ⟨rfl,h⟩
 refine cbr h ?_ ?_<;>intro h
 refine qK (by kernel_rfl) (qD 1 (q0 (.iface 335 (vi 3)) (zB ?_)))
 refine jBP (zL rfl) (by intro c hc;cases hc) (jDZ (by kernel_rfl)) (fun ρ'=>.inr ⟨_,rfl,h⟩)
 refine zC (zK ?_)
 exact ⟨H,hm,hs,hb,h⟩
 refine cbr h ?_ ?_<;>intro h
 refine qK (by kernel_rfl) (qD 1 (q0 (.iface 335 (vi 1)) (zB ?_)))
 refine jBP (zL rfl) (by intro c hc;cases hc) (jDZ (by kernel_rfl)) (fun ρ'=>.inr ⟨_,rfl,h⟩)
 refine zC (zK ?_)
 exact ⟨H,hm,hs,hb,h⟩
 refine rg ?_
 refine ql (isAgg3 _) h fun v14 h=>qb ?_
 obtain ⟨hg1,h⟩|⟨hg1,h⟩:=h.br
 refine sj 8 hg1 (sj 8 hg1 (sj 8 hg1 (sj 8 hg1 (q2 (vb true) (xT hg1) (ln ?_)))))
 exact ⟨true,None,hm,hs,hb,h⟩
 refine qk 8 hg1 ?_
 obtain ⟨v15,hv15,h⟩:=h
 refine q4 8 hg1 (xl (isAgg3 _) hv15) (qk 8 hg1 (qk 8 hg1 (q2 (vb (decide (r1>(IntKind.u64.wrap v15)))) (xF hg1) (ln ?_))))
 exact ⟨(decide (r1>(IntKind.u64.wrap v15))),None,hm,hs,hb,h⟩
def m_R3 (cap1 cap2:Addr) (w0:World) (K:Option (List PanicEntry)→WP):Prop :=∃v1:Option Addr,w0.cell? cap1=some (vp v1)∧Calls prog 293 #[(vp v1)] w0 (fun e w1=>(∃r1:Int,e=.returned (.int .u8 r1)∧CanW w1 cap2∧∀w2:World,w2=w1.setCell cap2 (.int .u8 r1)→K none w2)∨∃ch,e=.panicked ch∧K (some ch)  w1)
theorem w_R3 (cap1 cap2:Addr) (w0:World) (K:Option (List PanicEntry)→WP) (h:m_R3 cap1 cap2 w0 K) :
  Calls prog 292 #[(vp (some cap1)),(vp (some cap2))] w0 (fun e w'=>(e=.returned (.tuple #[])∧K none  w')∨∃ch,e=.panicked ch∧K (some ch)  w'):=by
 refine yY (args:=[(vp (some cap1)),(vp (some cap2))]) func292 rfl ntmps292 (Nat.le_of_ble_eq_true rfl) (qK (by kernel_rfl) (qD 1 ?_))
 refine ql (isAgg228 _) h fun v1 h=>zB ?_
 refine jEI (zL rfl) (by intro c hc;cases hc) (xc call293) (h.mono ?_)
 rintro e w1 (⟨r1,rfl,h⟩ | ⟨ch,rfl,h⟩)
 rotate_left
 exact .inr ⟨ch,rfl,fun ρ'=>.inr ⟨ch,rfl,h⟩⟩
 refine .inl ⟨_,rfl,?_⟩
 refine jBH ?_
 refine st1 (sizeOf5 _) h fun w2 h=>?_
 refine zB (ep (jFI (.inr rfl) results292 ?_))
 exact .inl ⟨rfl,h⟩
end Go.Proofs
end
section
open Go Go.SE
namespace Go.SE
def byr (bs:List UInt8):List (List Value):=bs.map fun b=>[.int .u8 (b.toNat:Int)]
theorem qO (bs:List UInt8):(byr bs).length=bs.length:=by simp [byr]
theorem jSK (bs:List UInt8):∀q∈byr bs,q.all qH=true:=by intro q hq;obtain ⟨t,_,rfl⟩:=List.mem_map.1 hq;rfl
theorem jFF (bs:List UInt8):∀q∈byr bs,q.length=1:=by intro q hq;obtain ⟨t,_,rfl⟩:=List.mem_map.1 hq;rfl
theorem jHZ (bs:List UInt8):(byr bs).flatten=bs.map fun b=>Value.int .u8 (b.toNat:Int):=by
 induction bs with
 | nil=>rfl
 | cons b bs ih=>simp only [byr,List.map_cons,List.flatten_cons] at ih ⊢;rw [ih];rfl
theorem jMJ (a b:List UInt8):byr (a++b)=byr a++byr b:=by simp [byr]
theorem jSL {S:NP} {w:World} {s:Sl} {bs:List UInt8} (h:Lst S w 1 s (byr bs)) {j:Nat} (hj:j<bs.length):∃a,At s j 1 a∧S a.block∧w.cell? a=some (.int .u8 (bs[j].toNat:Int)):=by
 obtain ⟨a,h1,h2,h3⟩:=h.at_ j (by simpa [byr] using hj);exact ⟨a,h1,h2,jBS (by simpa [byr] using h3)⟩
theorem jGT (n:Nat):IntKind.u8.wrap (n:Int)=((UInt8.ofNat n).toNat:Int):=by
 rw [UInt8.toNat_ofNat'];simp [IntKind.wrap,IntKind.bits,IntKind.signed]
theorem jQH {P:Program} {src dst e:TypeId} (hs:P.underlying src=some (.slice e)) (he:P.underlying e=some (.int .u8)) (hd:P.underlying dst=some .string) {S:NP} {w:World} {s:Sl} {bs:List UInt8} (h:Lst S w 1 s (byr bs)) :
  (convert src dst s.v).run P w=.ok (.string ⟨bs.toArray⟩) w:=by
 have hl:s.len=bs.length:=by rw [h.len,qO]
 cases ha:s.a with
 | none =>
  have hb:bs=[]:=by
   cases bs with
   | nil=>rfl
   | cons b bs=>obtain ⟨_,⟨_,_,p,hp,_⟩,_⟩:=jSL h (j:=0) (by simp);rw [ha] at hp;cases hp
  subst hb
  have:s.v=.slice none 0 s.cap:=by unfold Sl.v;rw [ha,hl];rfl
  rw [this,run_convert_bytes_string w src dst e none 0 s.cap hs he hd];rfl
 | some p =>
  have:s.v=.slice (some p) bs.length s.cap:=by unfold Sl.v;rw [ha,hl]
  rw [this]
  refine run_convert_bytes_back w src dst e p s.cap bs hs he hd fun j hj=>?_
  obtain ⟨a,⟨_,_,b,hb,rfl⟩,_,hc⟩:=jSL h hj
  rw [ha] at hb;cases hb
  simpa using hc
section
variable {P:Program} {t u e ty:TypeId} {w:World}
theorem jAN (b:ByteArray):(Builtin.firstCells 1 b.size (.string b)).run P w=.ok (b.data.map fun x=>Value.int .u8 (x.toNat:Int)) w:=by
 have hx:(Array.map (fun b:UInt8=>Value.int IntKind.u8 (b.toNat:Int)) b.data).extract 0 b.size=Array.map (fun b:UInt8=>Value.int IntKind.u8 (b.toNat:Int)) b.data:=by
  have hs:b.size=(Array.map (fun b:UInt8=>Value.int IntKind.u8 (b.toNat:Int)) b.data).size:=by rw [Array.size_map];rfl
  rw [hs,Array.extract_size]
 simp [Builtin.firstCells,hx]
theorem jAR (T:SlType P t e 1 1) (hu:P.underlying u=some .string) (s:Sl) (hc:s.len≤s.cap) (b:ByteArray) (hb:b.size=0):(Builtin.append_ #[t,u] ty #[s.v,.string b]).run P w=.ok s.v w:=by
 obtain ⟨a,n,c⟩:=s;simp only at hc;have hbd:b=⟨#[]⟩:=by cases b;simp only [ByteArray.size] at hb;congr;exact Array.eq_empty_of_size_eq_zero hb
 subst hbd;cases a <;> simp [Builtin.append_,Sl.v,run_underlying T.ht,run_underlying hu,T.sizeOf,Builtin.lenOf,Builtin.firstCells,storeCells,hc,ByteArray.size]
theorem Rws.appendStr (T:SlType P t e 1 1) (hu:P.underlying u=some .string) {s:Sl} {rs:List (List Value)} (h:Rws w e 1 s rs) (b:ByteArray) (hb:rs.length+b.size≤140737488355328) (hm:rs.length+b.size≤maxLen) :
  ∃s' w',(Builtin.append_ #[t,u] ty #[s.v,.string b]).run P w=.ok s'.v w'∧Rws w' e 1 s' (rs++byr b.data.toList)∧Ext s.blk w w'∧(∀b,s'.blk b→s.blk b∨w.heap.size≤b):=by
 obtain ⟨i,z,hi,hz,hsz,hby,hzs⟩:=T.hi
 have hbl:b.data.toList.length=b.size:=by rw [Array.length_toList];rfl
 by_cases h0:b.size=0
 ·have hc : s.len ≤ s.cap := by
   rcases h.own with ⟨rfl,_⟩ | ⟨g,cur,_,_,hc,_⟩
   ·exact Nat.le_refl _
   ·rw [h.len];exact hc
  have:b.data.toList=[]:=List.length_eq_zero_iff.1 (by omega)
  rw [this]
  exact ⟨s,w,jAR T hu s hc b h0,by simpa [byr] using h,Ext.refl w,fun b hb=>.inl hb⟩
 have hml:rs.length+b.size≤9223372036854775807:=by simp only [maxLen] at hm;omega
 have hfl:=vN h.each
 have hql:(byr b.data.toList).length=b.size:=by rw [qO,hbl]
 have heach:∀q∈rs++byr b.data.toList,q.length=1:=fun q hq=>(List.mem_append.1 hq).elim (h.each q) (jFF _ q)
 have hfq:(b.data.map (fun x=>Value.int .u8 (x.toNat:Int))).toList=(byr b.data.toList).flatten:=by rw [jHZ];simp
 have hsv:(b.data.map (fun x=>Value.int .u8 (x.toNat:Int))).size=b.size:=by rw [Array.size_map];rfl
 rcases h.own with ⟨rfl,rfl⟩ | ⟨g,cur,ha,hg,hcap,hcm,hcs,htake⟩
 ·simp only [List.length_nil,Nat.zero_add] at hb hml hm
  have hrun:=run_append_nil_string (P:=P) w t u ty e i z T.ht hu hi hz b (by omega) (by omega) (by rw [hby];omega)
  have hgr:=Rws.grown (w:=w) (e:=e) (sz:=1) (rs:=byr b.data.toList) (jFF _) (cur:=b.data.map (fun x=>Value.int .u8 (x.toNat:Int))) (by rw [hzs]) hfq (cap:=grownCap w b.size 0 e) (by rw [hql];exact grownCap_ge w _ 0 e) (grownCap_le_maxLen w _ 0 e hm)
  rw [hql] at hgr
  exact ⟨⟨some ⟨w.heap.size,0,none⟩,b.size,grownCap w b.size 0 e⟩,_,hrun,by simpa using hgr,⟨rfl,rfl,rfl,(by first | exact Nat.le_refl _ | exact Nat.le_succ _),by simp,fun b hb _=>tC w.drew _ b hb⟩,fun b hb=>by obtain ⟨a,ha,rfl⟩:=hb;cases ha;right;exact Nat.le_refl _⟩
 ·have hs':s.v=.slice (some ⟨g,0,none⟩) rs.length s.cap:=by unfold Sl.v;rw [ha,h.len]
  by_cases hroom:rs.length+b.size≤s.cap
  ·have hfit:rs.length+(byr b.data.toList).flatten.length≤cur.size:=by rw [vN (jFF _),hql,hcs];omega
   have h1':∀u∈(byr b.data.toList).flatten,u.oneCell'=true:=fun u hu=>by
    rw [jHZ] at hu;obtain ⟨x,_,rfl⟩:=List.mem_map.1 hu;rfl
   have hst:=run_storeCells_at P g rs.length e (byr b.data.toList).flatten 0 cur w hg (by simpa using hfit) h1'
   have hrun:(Builtin.append_ #[t,u] ty #[s.v,.string b]).run P w=.ok (.slice (some ⟨g,0,none⟩) (rs.length+b.size) s.cap) (w.setRow g (cur.toList.take rs.length++(byr b.data.toList).flatten++cur.toList.drop (rs.length+(byr b.data.toList).flatten.length)).toArray):=by
    rw [hs'];simp only [Nat.add_zero] at hst;have hf:=jAN (P:=P) (w:=w) b;rw [jHZ] at hst ⊢;simp [Builtin.append_,run_underlying T.ht,run_underlying hu,T.sizeOf,Builtin.lenOf,hroom,hf,Addr.add_lit,hst]
   refine ⟨⟨some ⟨g,0,none⟩,rs.length+b.size,s.cap⟩,_,hrun,⟨heach,by simp [hql],.inr ⟨g,_,rfl,setRow_heap w g cur _ e _ hg,by simpa [hql] using hroom,hcm,?_,?_⟩⟩,⟨rfl,rfl,rfl,(by first | exact Nat.le_refl _ | exact Nat.le_succ _),by simp,fun b hb hf=>setRow_other w g b _ (fun e=>hf ⟨_,ha,e.symm⟩)⟩,fun b hb=>by obtain ⟨a,ha',rfl⟩:=hb;cases ha';exact .inl ⟨_,ha,rfl⟩⟩
   ·simp only [List.size_toArray,List.length_append,List.length_take,List.length_drop,Array.length_toList]
    omega
   ·simp only [Nat.mul_one] at htake hfl ⊢
    rw [htake,List.flatten_append,List.length_append,hql]
    rw [vN (jFF _),hql,← hfl]
    simp only [Nat.mul_one]
    rw [show rs.flatten.length+b.size=(rs.flatten++(byr b.data.toList).flatten).length by rw [List.length_append,vN (jFF _),hql];omega]
    exact List.take_left
  ·have holds : ∀ j u, rs.flatten[j]? = some u → w.cell? ((⟨g, 0, none⟩ : Addr).add j) = some u := fun j u hu => by
    have hadd:(⟨g,0,none⟩:Addr).add j=⟨g,j,none⟩:=by unfold Addr.add;split <;> simp_all
    rw [hadd,cell_of_row w g j cur e (0,0) hg];rw [← htake,List.getElem?_take] at hu;split at hu
    ·simpa using hu
    ·cases hu
   have hfit:=growslice_fits (need:=rs.length+b.size) (old:=s.cap) (bytes:=1) (by omega) (by omega)
   have hgr:=Rws.grown (w:=w) (e:=e) (sz:=1) (rs:=rs++byr b.data.toList) heach (cur:=rs.flatten.toArray++b.data.map (fun x=>Value.int .u8 (x.toNat:Int))) (by rw [hzs]) (by simp [← hfq]) (cap:=grownCap w (rs.length+b.size) s.cap e) (by rw [List.length_append,hql];exact grownCap_ge w _ s.cap e) (grownCap_le_maxLen w _ _ e hm)
   have hrun:(Builtin.append_ #[t,u] ty #[s.v,.string b]).run P w=.ok (.slice (some ⟨w.heap.size,0,none⟩) (rs.length+b.size) (grownCap w (rs.length+b.size) s.cap e)) (w.drew.alloc (.cells (rs.flatten.toArray++b.data.map (fun x=>Value.int .u8 (x.toNat:Int))++Builtin.zeroCells z.cells (grownCap w (rs.length+b.size) s.cap e - (rs.length+b.size))) e)):=by
    rw [hs'];have hn:¬ (rs.length+b.size≤s.cap):=by omega
    have h63':¬ (9223372036854775807<((rs.length:Int)+(b.size:Int))):=by omega
    have h48':¬ (281474976710656<Builtin.nextslicecap (rs.length+b.size) s.cap*i.bytes):=by rw [hby];omega
    have hfo:=run_firstCells_some (P:=P) w.drew i.size rs.length ⟨g,0,none⟩ rs.length s.cap rs.flatten (by rw [hsz];exact hfl) (by simpa using holds);have hf:=jAN (P:=P) (w:=w.drew) b;rw [hsz] at hfo;simp [Builtin.append_,run_underlying T.ht,run_underlying hu,sizeOf,typeInfo,zeroValue,hi,hz,Builtin.lenOf,hn,h63',h48',Question.forced,hf,hfo,newRow,grownCap,hsz]
    try (congr 2;apply Array.ext';simp [List.append_assoc])
   rw [List.length_append,hql] at hgr
   exact ⟨⟨some ⟨w.heap.size,0,none⟩,rs.length+b.size,grownCap w (rs.length+b.size) s.cap e⟩,_,hrun,hgr,⟨rfl,rfl,rfl,(by first | exact Nat.le_refl _ | exact Nat.le_succ _),by simp,fun b hb _=>tC w.drew _ b hb⟩,fun b hb=>by obtain ⟨a,ha,rfl⟩:=hb;cases ha;right;exact Nat.le_refl _⟩
end
section
variable {P:Program} {w:World} {t:TypeId}
theorem jOE (n:Nat) (h:n<18446744073709551616):(Go.binOp .quo t (.int .u64 (n:Int)) (.int .u64 128)).run P w=.ok (.int .u64 ((n / 128:Nat):Int)) w:=by
 have:IntKind.u64.wrap ((n:Int).tdiv 128)=((n / 128:Nat):Int):=by
  rw [Int.tdiv_eq_ediv_of_nonneg (by omega)];simp only [IntKind.wrap,IntKind.bits,IntKind.signed];simp;omega
 show ((pure (Value.int .u64 (IntKind.u64.wrap ((n:Int).tdiv 128))):Sem Value)).run P w=_;rw [this];rfl
theorem jOD (n:Nat):(Go.binOp .rem t (.int .u64 (n:Int)) (.int .u64 128)).run P w=.ok (.int .u64 ((n % 128:Nat):Int)) w:=by
 have:(n:Int).tmod 128=((n % 128:Nat):Int):=by
  rw [Int.tmod_eq_emod_of_nonneg (by omega)];simp
 simp [Go.binOp,Op.intDiv,this]
theorem jOF (c:Nat) (h:c<256):(Go.binOp .and t (.int .u8 (c:Int)) (.int .u8 127)).run P w=.ok (.int .u8 ((c % 128:Nat):Int)) w:=by
 have hr:IntKind.u8.wrap ((BitVec.ofInt IntKind.u8.bits (c:Int) &&& BitVec.ofInt IntKind.u8.bits 127).toNat:Int)=((c % 128:Nat):Int):=by
  have e1:(BitVec.ofInt IntKind.u8.bits (c:Int)).toNat=c:=by
   rw [BitVec.toNat_ofInt];simp [IntKind.bits];omega
  have e2:(BitVec.ofInt IntKind.u8.bits 127).toNat=2 ^ 7 - 1:=by decide
  rw [BitVec.toNat_and,e1,e2,Nat.and_two_pow_sub_one_eq_mod,jGT];simp only [UInt8.toNat_ofNat'];omega
 show ((pure (Value.int .u8 _):Sem Value)).run P w=_;rw [hr];rfl
theorem yM {n:Nat} (h:n<18446744073709551616):IntKind.u64.wrap (n:Int)=(n:Int):=by
 simp [IntKind.wrap,IntKind.bits,IntKind.signed];omega
theorem jVN (x k:Nat) (hk:k<64) (h:x*2 ^ k<18446744073709551616):(Go.binOp .shl t (.int .u64 (x:Int)) (.int .i64 (k:Int))).run P w=.ok (.int .u64 ((x*2 ^ k:Nat):Int)) w:=by
 have hr:IntKind.u64.wrap ((x:Int)*2 ^ min (k:Int).toNat IntKind.u64.bits)=((x*2 ^ k:Nat):Int):=by
  have:min (k:Int).toNat IntKind.u64.bits=k:=by simp [IntKind.bits];omega
  rw [this,← yM h];simp
 have h0:¬ ((k:Int)<0):=by omega
 show (Op.shift .shl .u64 (x:Int) .i64 (k:Int)).run P w=_;unfold Op.shift;rw [if_neg h0];show ((pure (Value.int .u64 (IntKind.u64.wrap ((x:Int)*2 ^ min (k:Int).toNat IntKind.u64.bits))):Sem Value)).run P w=_;rw [hr];rfl
theorem jTD (x y:Nat) (hx:x<18446744073709551616) (hy:y<18446744073709551616):(Go.binOp .or t (.int .u64 (x:Int)) (.int .u64 (y:Int))).run P w=.ok (.int .u64 ((x ||| y:Nat):Int)) w:=by
 have hr:IntKind.u64.wrap ((BitVec.ofInt IntKind.u64.bits (x:Int) ||| BitVec.ofInt IntKind.u64.bits (y:Int)).toNat:Int)=((x ||| y:Nat):Int):=by
  have e (z:Nat) (hz:z<18446744073709551616):(BitVec.ofInt IntKind.u64.bits (z:Int)).toNat=z:=by
   rw [BitVec.toNat_ofInt];simp [IntKind.bits];omega
  rw [BitVec.toNat_or,e x hx,e y hy,yM (Nat.or_lt_two_pow (n:=64) hx hy)]
 show ((pure (Value.int .u64 _):Sem Value)).run P w=_;rw [hr];rfl
theorem or_add {x y k:Nat} (h:x<2 ^ k):x ||| (y*2 ^ k)=x+y*2 ^ k:=by
 have:=Nat.shiftLeft_add_eq_or_of_lt h y;rw [Nat.shiftLeft_eq] at this;rw [Nat.or_comm,← this,Nat.add_comm]
end
theorem Lst.sub {P:Program} {t e:TypeId} {sz bytes:Nat} {S:NP} (T:SlType P t e sz bytes) {w:World} {s:Sl} {rs:List (List Value)} (h:Lst S w sz s rs) (hcap:s.len≤s.cap) {k:IntKind} {lo n:Nat} (hn:lo+n≤rs.length) :
  ∃s':Sl,(Instr.sliceAt t s.v (some (.int k (lo:Int))) (some (.int k ((lo+n:Nat):Int))) none).run P w=.ok s'.v w∧Lst S w sz s' ((rs.drop lo).take n):=by
 have h1:((lo+n:Nat):Int)≤(s.cap:Int):=by rw [h.len] at hcap;omega
 have h2:(lo:Int)≤((lo+n:Nat):Int):=by omega
 refine ⟨⟨if s.cap=lo then s.a else s.a.map (·.add (lo*sz)),n,s.cap - lo⟩,?_,⟨by simp;omega,fun i hi=>?_⟩⟩
 ·simp [Instr.sliceAt,Instr.slice,Sl.v,run_underlying T.ht,Instr.sliceBounds,Instr.sliceBound,asIntOf,T.sizeOf]
  rw [if_pos (by omega),if_pos (by omega),show ((lo:Int)+(n:Int)).toNat - lo=n by omega]
 ·have hi':lo+i<rs.length:=by simp at hi;omega
  obtain ⟨a,⟨_,hlt,p,hp,rfl⟩,hS,hr⟩:=h.at_ (lo+i) hi'
  refine ⟨_,⟨by omega,by simp at hi ⊢;omega,p.add (lo*sz),?_,rfl⟩,?_,?_⟩
  ·rw [if_neg (by rw [h.len] at hcap;omega),hp];rfl
  ·simpa [zV] using hS
  ·have : (p.add (lo * sz)).add ((i : Int).toNat * sz) = p.add (((lo + i : Nat) : Int).toNat * sz) := by
    rw [yZ,Int.toNat_natCast,Int.toNat_natCast,Nat.add_mul]
   rw [this,List.getElem_take,List.getElem_drop];exact hr
end Go.SE
end
section
open Go Go.SE
open Go.IntKind renaming i64 → q6
namespace Go.Proofs
open Tryz
set_option maxRecDepth 100000
set_option maxHeartbeats 4000000
attribute [local irreducible] wpL wpX opE wpE Calls
def m_R1_l1 (s1:Sl) (v1 x1:Int) (wl1:World) (Kc1:Int→WP) (K:Int→WP):Prop :=Br (decide (x1<(s1.len:Int))) (∃a1:Addr,At s1 x1 1 a1∧∃v2:Int,wl1.cell? a1=some (vi v2)∧Br (v1 == v2) (K x1 wl1) (Kc1 (q6.wrap (x1+1)) wl1)) (K (-1) wl1)
def m_R1 (s1:Sl) (v1:Int) (w0:World) (K:Int→WP):Prop :=∃(I1:Int→WP) (mu1:Int→World→Nat),I1 0 w0∧∀(x1:Int) (wl1:World),I1 x1 wl1→m_R1_l1 s1 v1 x1 wl1 (fun y'0 w'=>I1 y'0 w'∧mu1 y'0 w'<mu1 x1 wl1) K
theorem w_R1 (s1:Sl) (v1:Int) (w0:World) (K:Int→WP) (h:m_R1 s1 v1 w0 K) :
  Calls prog 163 #[s1.v,(vi v1)] w0 (fun e w'=>∃r1:Int,e=.returned (vi r1)∧K r1 w'):=by
 refine cw (args:=[s1.v,(vi v1)]) func163 ntmps163 (eg (q0 (vi 0) (ln (zA (eg (q0 s1.v (q0 (vi (s1.len:Int)) (q0 (vi 0) ?_))))))))
 refine ln (zJ ?_)
 obtain ⟨I1,mu1,h0,hr⟩:=h
 refine vP (σ:=Int×World) (fun s ρ w=>w=s.2∧Has ρ [(0,s1.v),(1,(vi v1)),(7,(vi (s1.len:Int))),(8,(vi s.1))]∧I1 s.1 s.2) (fun s=>mu1 s.1 s.2) (0,w0) ⟨rfl,hm,h0⟩ ?_
 rintro ⟨x1,wl1⟩ ρ w ⟨hw,hH,hI⟩
 dsimp only at hw hH;subst w
 have h:=hr x1 wl1 hI
 refine zW hH ?_
 refine eg (q (ln (zA ?_)))
 refine cbr h ?_ ?_<;>intro h
 refine zC (zK (zA (zJ (eg (qb (ln (eg ?_)))))))
 refine qc ?_
 refine qi (runUnderlying54 _) (sizeOf78 _) h fun a1 h=>?_
 refine ql (isAgg78 _) h fun v2 h=>q (ln ?_)
 refine cbr h ?_ ?_<;>intro h
 refine eg (qb (ln (er (uC (vF (vF (uC (vF ?_))))))))
 refine rs1 results163 ⟨x1,rfl,h⟩
 refine zC (xW (zK (rg (qb (ln ?_)))))
 exact ⟨((q6.wrap (x1+1)),wl1),⟨rfl,hm,h.1⟩,h.2⟩
 refine vO (uU (uU (uY (zK (eg (q0 (vi (-1)) (ln (er (rs1 results163 ⟨(-1),rfl,h⟩)))))))))
def m_S3 (s1:Sl) (v1:Int) (w0:World) (K:Bool→WP):Prop :=Calls prog 163 #[s1.v,(vi v1)] w0 (fun e w1=>∃r1:Int,e=.returned (vi r1)∧K (decide (r1≥0)) w1)
theorem w_S3 (s1:Sl) (v1:Int) (w0:World) (K:Bool→WP) (h:m_S3 s1 v1 w0 K) :
  Calls prog 105 #[s1.v,(vi v1)] w0 (fun e w'=>∃r2:Bool,e=.returned (vb r2)∧K r2 w'):=by
 refine cw (args:=[s1.v,(vi v1)]) func105 ntmps105 (eg (q0 (vb false) (ln (eg (q0 s1.v (q0 (vi v1) ?_))))))
 refine sc call163 (h.mono fun e w1 ⟨r1,k,h⟩=>⟨_,k,?_⟩)
 refine qb (ln (er (rs1 results105 ⟨(decide (r1≥0)),rfl,h⟩)))
end Go.Proofs
end
section
open Go Go.SE
namespace Go.Proofs
open Tryz
attribute [local irreducible] Calls
def tmr (ts:List Int):List (List Value):=ts.map fun t=>[.int .i64 t]
theorem qM (ts:List Int):(tmr ts).length=ts.length:=by simp [tmr]
theorem jMR:SlType prog 54 78 1 8:=by
 refine ⟨underlying54,⟨t78,_,by kernel_rfl,(by kernel_rfl:t78.zero=some (.int .i64 0)),by kernel_rfl,by kernel_rfl,rfl⟩,by omega⟩
structure RetO (w:World) (e:TypeId) (sz:Nat) (rs:List (List Value)) (s:Sl) (w':World):Prop where
 rows:Rws w' e sz s rs
 own:∀b,s.blk b→w.heap.size≤b
 pure:Pure w w'
theorem RetO.kept {w:World} {H:NP} {e:TypeId} {sz:Nat} {rs:List (List Value)} {s:Sl} {w':World} (h:RetO w e sz rs s w'):Kept H w w':=h.pure.keptP
theorem tQ {S:NP} {w:World} {s:Sl} {ts:List Int} (h:Lst S w 1 s (tmr ts)) {j:Nat} (hj:j<ts.length):∃a,At s j 1 a∧S a.block∧w.cell? a=some (.int .i64 ts[j]):=by
 obtain ⟨a,h1,h2,h3⟩:=h.at_ j (by simpa [tmr] using hj);exact ⟨a,h1,h2,jBS (by simpa [tmr] using h3)⟩
theorem jCP {P:Program} (w:World) (d:Nat) {t e:TypeId} (a:Option Addr) (l c:Nat) (h:P.underlying t=some (.slice e)):(Op.equalIn (d+1) t (.slice a l c) (.slice none 0 0)).run P w=.ok a.isNone w:=by
 cases a <;> simp [Op.equalIn,run_underlying h]
theorem jHB {P:Program} (w:World) {t e:TypeId} (a:Option Addr) (l c:Nat) (h:P.underlying t=some (.slice e)):(Go.binOp .eql t (.slice a l c) (.slice none 0 0)).run P w=.ok (.bool a.isNone) w:=by
 simp only [Go.binOp];simp [Op.equal,Op.maxDepth,jCP w 9999 a l c h]
theorem jSC {S:NP} (s:Sl) (ts:List Int) (v:Int) (w0:World) (hs:Lst S w0 1 s (tmr ts)) (hn:ts.length≤1000000) :
  Calls prog 163 #[s.v,.int .i64 v] w0 (fun e w'=>∃r:Int,e=.returned (.int .i64 r)∧((decide (r≥0)=decide (v∈ts))∧w'=w0)):=by
 refine w_R1 _ _ w0 (fun r w'=>(decide (r≥0)=decide (v∈ts))∧w'=w0) ?_
 unfold m_R1
 have hl:s.len=ts.length:=by rw [hs.len,qM]
 refine ⟨fun i w'=>w'=w0∧∃j:Nat,i=j∧j≤ts.length∧v ∉ ts.take j,fun i _=>((ts.length:Int) - i).toNat,⟨rfl,0,rfl,Nat.zero_le _,by simp⟩,?_⟩
 rintro _ _ ⟨rfl,j,rfl,hj,hv⟩
 unfold m_R1_l1
 refine ⟨fun h=>?_,fun h=>?_⟩
 ·have hlt:=uN hl h
  obtain ⟨a,hat,_,hc⟩:=tQ hs hlt
  have htk:ts.take (j+1)=ts.take j++[ts[j]]:=List.take_succ_eq_append_getElem hlt
  refine ⟨a,hat,_,hc,fun h=>⟨?_,rfl⟩,fun h=>?_⟩
  ·have:v=ts[j]:=by simpa using h
   rw [decide_eq_true (by omega),decide_eq_true]
   rw [this];exact List.getElem_mem hlt
  ·rw [vV hlt (by omega)]
   refine ⟨⟨rfl,j+1,rfl,hlt,?_⟩,jCC hlt⟩
   rw [htk,List.mem_append,List.mem_singleton]
   rintro (h' | h')
   ·exact hv h'
   ·simp [h'] at h
 ·have hge:=xS hl hj h
  subst hge
  rw [List.take_length] at hv
  exact ⟨by simp [hv],rfl⟩
theorem jJV {S:NP} (s:Sl) (ts:List Int) (v:Int) (w0:World) (hs:Lst S w0 1 s (tmr ts)) (hn:ts.length≤1000000) :
  Calls prog 105 #[s.v,.int .i64 v] w0 (fun e w'=>∃r:Bool,e=.returned (.bool r)∧(r=decide (v∈ts)∧w'=w0)):=by
 refine w_S3 _ _ w0 (fun r w'=>r=decide (v∈ts)∧w'=w0) ?_
 unfold m_S3
 refine (jSC s ts v w0 hs hn).mono ?_
 rintro _ _ ⟨r,rfl,hr,rfl⟩
 exact ⟨_,rfl,hr,rfl⟩
end Go.Proofs
end
section
open Nat
namespace Go.Proofs
def vU (n:Nat):List UInt8:=if h:n<128 then [UInt8.ofNat n] else UInt8.ofNat (n % 128+128) :: vU (n / 128)
theorem xL {n:Nat} (h:n<128):vU n=[UInt8.ofNat n]:=by rw [vU,dif_pos h]
theorem tO {n:Nat} (h:128≤n):vU n=UInt8.ofNat (n % 128+128) :: vU (n / 128):=by rw [vU,dif_neg (by omega)]
theorem jNX (k:Nat):∀n,n<128 ^ (k+1)→(vU n).length≤k+1:=by
 induction k with
 | zero=>intro n h;rw [xL (by simpa using h)];simp
 | succ k ih =>
  intro n h
  by_cases h1:n<128
  ·rw [xL h1];simp
  ·rw [tO (by omega),List.length_cons]
   have:=ih (n / 128) (by rw [Nat.div_lt_iff_lt_mul (by omega)];rw [Nat.pow_succ] at h;exact h)
   omega
theorem vX {n:Nat} (h:n<18446744073709551616):(vU n).length≤10:=jNX 9 n (by omega)
def qN (s:ByteArray):List UInt8:=vU s.size++s.data.toList
def xX:Nat→Nat→List UInt8→Except Nat (Nat×Nat)
 | _,_,[]=>.error 3
 | i,n,c :: l =>
  if i=9∧1<c.toNat then .error 11
  else if c.toNat<128 then (if c.toNat=0∧0<i then .error 10 else .ok (n+c.toNat*128 ^ i,i+1))
  else xX (i+1) (n+c.toNat % 128*128 ^ i) l
theorem xD (i n:Nat) (c:UInt8) (l:List UInt8):xX i n (c :: l)=(if i=9∧1<c.toNat then .error 11
  else if c.toNat<128 then (if c.toNat=0∧0<i then .error 10 else .ok (n+c.toNat*128 ^ i,i+1))
  else xX (i+1) (n+c.toNat % 128*128 ^ i) l):=rfl
structure Rd where
 at_:Nat
 err:Nat
 spot:Nat
def qW (bs:List UInt8) (r:Rd):Nat×Rd :=
 if r.err=0 then match xX 0 0 (bs.drop r.at_) with
  | .ok (n,k)=>(n,⟨r.at_+k,0,r.spot⟩)
  | .error x=>(0,⟨r.at_,x,r.at_⟩)
 else (0,r)
def uD (bs:List UInt8) (r:Rd):Nat×Rd :=
 if r.err=0 then (if h:r.at_<bs.length then (bs[r.at_].toNat,⟨r.at_+1,0,r.spot⟩) else (0,⟨r.at_,3,r.at_⟩))
 else (0,r)
def qL (bs:List UInt8) (most:Nat) (r:Rd):List UInt8×Rd :=
 if r.err=0 then match xX 0 0 (bs.drop r.at_) with
  | .ok (n,k)=>if most<n then ([],⟨r.at_,1,r.at_⟩) else if bs.length<r.at_+k+n then ([],⟨r.at_,3,r.at_⟩) else ((bs.drop (r.at_+k)).take n,⟨r.at_+k+n,0,r.spot⟩)
  | .error x=>([],⟨r.at_,x,r.at_⟩)
 else ([],r)
end Go.Proofs
end
section
open Go Go.SE
namespace Go.Proofs
open Tryz
attribute [local irreducible] Calls
theorem jFW:SlType prog 65 5 1 1:=by
 refine ⟨underlying65,⟨t5,_,by kernel_rfl,(by kernel_rfl:t5.zero=some (.int .u8 0)),by kernel_rfl,by kernel_rfl,rfl⟩,by omega⟩
theorem jSJ {S:NP} (s:Sl) (bs:List UInt8) (w0:World) (hs:Lst S w0 1 s (byr bs)) (hz:s.a=none→s=Sl.nil) (hn:bs.length≤100000000000) :
  Calls prog 215 #[s.v] w0 (fun e w'=>∃r:Sl,e=.returned r.v∧RetO w0 5 1 (byr bs) r w'):=by
 refine w_S2 _ w0 (fun r w'=>RetO w0 5 1 (byr bs) r w') ?_
 unfold m_S2
 refine ⟨s.a.isNone,?_,fun h=>?_,fun h=>?_⟩
 ·exact jHB w0 s.a s.len s.cap underlying65
 ·have hs0:=hz (Option.isNone_iff_eq_none.1 h)
  subst hs0
  have:bs=[]:=by have:=hs.len;rw [qO] at this;exact List.length_eq_zero_iff.1 this.symm
  subst this
  exact ⟨Rws.nil _ _ _,fun b hb=>(by obtain ⟨a,ha,_⟩:=hb;cases ha),Ext.refl _⟩
 ·intro p1 w1 h1
  have E1:Pure w0 w1:=Ext.new h1
  obtain ⟨s2,w2,hr,hR,hE,hb⟩:=(Rws.empty (sz:=1) h1).appendL (P:=prog) (ty:=65) jFW (hs.pure E1) (jFF _) (jSK _) (by rw [qO];simp;omega) (by rw [qO];simp [maxLen];omega)
  have hp:=h1.at_size
  have hp':∀b,(Sl.mk (some p1) 0 0).blk b→w0.heap.size≤b:=fun b hb=>(by obtain ⟨a,ha,e⟩:=hb;cases ha;omega)
  exact ⟨s2,w2,hr,by simpa using hR,fun b h=>(hb b h).elim (hp' b) (fun h=>by have:=E1.size;omega),E1.trans' hE (fun i hi h=>by have:=hp' i h;omega)⟩
theorem RetO.put {w0 w w1:World} {s:Sl} {bs:List UInt8} {x:UInt8} {p:Addr} (h:RetO w0 5 1 (byr bs) s w) (hn:New w (.cells #[.int .u8 (x.toNat:Int)] 5) p w1) (hl:bs.length≤100000000000) :
  ∃s' w',(Builtin.append_ #[65,65] 65 #[s.v,(Sl.mk (some p) 1 1).v]).run prog w1=.ok s'.v w'∧RetO w0 5 1 (byr (bs++[x])) s' w':=by
 have E1:Pure w w1:=Ext.new hn
 have hrow:Row w1 p [.int .u8 (x.toNat:Int)]:=(Box.of_newA hn).row
 obtain ⟨s',w',hr,hR,hE,hb⟩:=(h.rows.pure E1).append (ty:=65) (c:=1) jFW hrow rfl rfl (by rw [qO];omega) (by rw [qO];simp [maxLen];omega)
 have h1:=(h.pure.trans E1)
 exact ⟨s',w',hr,by rw [jMJ];exact hR,fun b hb'=>(hb b hb').elim (h.own b) (fun h2=>by have:=h1.size;omega),h1.trans' hE (fun i hi h2=>by have:=h.own i h2;omega)⟩
theorem RetO.text {w0 w:World} {s:Sl} {bs:List UInt8} {x:ByteArray} (h:RetO w0 5 1 (byr (bs++vU x.size)) s w) (hn:bs.length≤10000000000) (hN:x.size≤10000000000) :
  ∃s' w',(Builtin.append_ #[65,9] 65 #[s.v,.string x]).run prog w=.ok s'.v w'∧RetO w0 5 1 (byr (bs++qN x)) s' w':=by
 have hv:=vX (n:=x.size) (by omega)
 obtain ⟨s',w',hr,hR,hE,hb⟩:=h.rows.appendStr (ty:=65) jFW underlying9 x (by rw [qO,List.length_append];omega) (by rw [qO,List.length_append];simp [maxLen];omega)
 refine ⟨s',w',hr,?_,fun b hb'=>(hb b hb').elim (h.own b) (fun h2=>by have:=h.pure.size;omega),h.pure.trans' hE (fun i hi h2=>by have:=h.own i h2;omega)⟩
 rw [qN,← List.append_assoc,jMJ];exact hR
theorem tB {S:NP} (s:Sl) (bs:List UInt8) (n:Nat) (w0:World) (hs:Lst S w0 1 s (byr bs)) (hn:bs.length≤10000000000) (hN:n<18446744073709551616) :
  Calls prog 236 #[s.v,.int .u64 (n:Int)] w0 (fun e w'=>∃r:Sl,e=.returned r.v∧RetO w0 5 1 (byr (bs++vU n)) r w'):=by
 refine w_Q1 _ _ w0 (fun r w'=>RetO w0 5 1 (byr (bs++vU n)) r w') ?_
 unfold m_Q1
 intro p1 w1 h1
 have E1:Pure w0 w1:=Ext.new h1
 obtain ⟨s2,w2,hr,hR,hE,hb⟩:=(Rws.empty (sz:=1) h1).appendL (P:=prog) (ty:=65) jFW (hs.pure E1) (jFF _) (jSK _) (by rw [qO];simp;omega) (by rw [qO];simp [maxLen];omega)
 have hp:=h1.at_size
 have hp':∀b,(Sl.mk (some p1) 0 0).blk b→w0.heap.size≤b:=fun b hb=>(by obtain ⟨a,ha,e⟩:=hb;cases ha;omega)
 have hR0:RetO w0 5 1 (byr bs) s2 w2:=⟨by simpa using hR,fun b h=>(hb b h).elim (hp' b) (fun h=>by have:=E1.size;omega),E1.trans' hE (fun i hi h=>by have:=hp' i h;omega)⟩
 refine ⟨s2,w2,hr,fun m b w=>∃k:Nat,∃xs:List UInt8,m=(k:Int)∧k<18446744073709551616∧xs++vU k=bs++vU n∧RetO w0 5 1 (byr xs) b w,fun m _ _=>m.toNat,⟨n,bs,rfl,hN,rfl,hR0⟩,?_⟩
 rintro _ b w ⟨k,xs,rfl,hk,hx,hR⟩
 have hlen:xs.length≤10000000010:=by
  have:=congrArg List.length hx;have:=vX hN;simp only [List.length_append] at *;omega
 unfold m_Q1_l1
 refine ⟨fun h=>?_,fun h=>?_⟩
 ·have h:=of_decide_eq_true h
  refine ⟨_,jOD k,fun p2 w2 h2=>?_⟩
  rw [show IntKind.u64.wrap (((k % 128:Nat):Int)+128)=((k % 128+128:Nat):Int) by simp [IntKind.wrap,IntKind.bits,IntKind.signed];omega,jGT] at h2
  obtain ⟨s',w',hr,hR'⟩:=hR.put h2 (by omega)
  refine ⟨s',w',hr,_,jOE k hk,⟨k / 128,xs++[UInt8.ofNat (k % 128+128)],rfl,by omega,?_,hR'⟩,by show (((k / 128:Nat):Int)).toNat<((k:Int)).toNat;omega⟩
  rw [← hx,tO (n:=k) (by omega)];simp
 ·have h:=of_decide_eq_false h
  intro p2 w2 h2
  rw [jGT] at h2
  obtain ⟨s',w',hr,hR'⟩:=hR.put h2 (by omega)
  refine ⟨s',w',hr,?_⟩
  rw [← hx,xL (n:=k) (by omega)];exact hR'
theorem jPC {S:NP} (s:Sl) (bs:List UInt8) (x:ByteArray) (w0:World) (hs:Lst S w0 1 s (byr bs)) (hn:bs.length≤10000000000) (hN:x.size≤10000000000) :
  Calls prog 237 #[s.v,.string x] w0 (fun e w'=>∃r:Sl,e=.returned r.v∧RetO w0 5 1 (byr (bs++qN x)) r w'):=by
 refine w_G3 _ _ w0 (fun r w'=>RetO w0 5 1 (byr (bs++qN x)) r w') ?_
 unfold m_G3
 rw [show IntKind.u64.wrap (x.size:Int)=(x.size:Int) by simp [IntKind.wrap,IntKind.bits,IntKind.signed];omega]
 refine (tB s bs x.size w0 hs hn (by omega)).mono ?_
 rintro _ w1 ⟨r1,rfl,h1⟩
 exact ⟨r1,rfl,h1.text hn hN⟩
end Go.Proofs
end
section
namespace Go.SE
section
variable {P:Program} {n:Nat} {ρ:Env} {w:World} {ds:List Deferred} {Q:Exit→Act→World→Prop} {a:Act}
theorem jEE {c1 c2:Code} (ha:Rep ds n ρ a)
  (h:wpE (x:=⟨none,ds⟩) P n c1 (fun e ρ' w'=>match e with | .normal=>∀a',Rep ds n ρ' a'→c2.wp P Q a' w' | .panic ch=>∀a',Rep ds n ρ' a'→Q (.panic ch) a' w' | _=>False) ρ w):(Code.seq c1 c2).wp P Q a w:=by
 refine wp_seq (wpIn_wide.1 (wpIn_mono (h a ha) ?_))
 rintro e a' w' ⟨ρ',⟨hr,hq⟩ | ⟨rfl,_,_,D,hr,hD,hq⟩⟩
 ·cases e <;> first | exact hq.elim | exact hq _ hr
 ·exact hq.elim
theorem jMO {c:Code} (ha:Rep ds n ρ a)
  (h:wpE (x:=⟨none,ds⟩) P n c (fun e ρ' w'=>match e with | .normal=>∀a',Rep ds n ρ' a'→Q .normal a' w' | .panic ch=>∀a',Rep ds n ρ' a'→Q (.panic ch) a' w' | _=>False) ρ w):c.wp P Q a w:=by
 refine wpIn_wide.1 (wpIn_mono (h a ha) ?_)
 rintro e a' w' ⟨ρ',⟨hr,hq⟩ | ⟨rfl,_,_,D,hr,hD,hq⟩⟩
 ·cases e <;> first | exact hq.elim | exact hq _ hr
 ·exact hq.elim
theorem jPR {id t:Nat} {f:FuncId} {caps:Array Operand} {ty ty':TypeId} {pos pos':String} {aft aft':Array Edge} {c2:Code} (ha:Rep ds n ρ a) (ht:t<n)
  (h:∀a',Rep (⟨.fn (.func f) (caps.map (evE ρ)),#[]⟩ :: ds) n (put ρ (some t) (.func (.func f) #[] (caps.map (evE ρ)))) a'→c2.wp P Q a' w) :
  (Code.seq (.region id #[⟨some t,.makeFunc (.func f) #[] caps,ty,pos,aft,none⟩,⟨none,.defer ⟨.value (.tmp t),#[],#[]⟩,ty',pos',aft',none⟩] false) c2).wp P Q a w:=by
 have h1:Rep ds n (put ρ (some t) (.func (.func f) #[] (caps.map (evE ρ)))) (a.put (some t) (.func (.func f) #[] (caps.map (evE ρ)))):=ha.put (fun k e=>by cases e;exact ht) _
 have h2:=h ({ (a.put (some t) (.func (.func f) #[] (caps.map (evE ρ)))) with defers:=⟨.fn (.func f) (caps.map (evE ρ)),#[]⟩ :: ds }.put none undef) ⟨rfl,h1.size,h1.get⟩
 refine wp_seq ((wpIn_wide (n:=0)).1 (wpIn_region_lit (l:=[_,_]) ?_))
 unfold wpListIn
 rw [if_pos (by simp [Region.wanted])]
 refine jCW (ro:=none) ⟨by simp,?_⟩
 rw [ha.eval]
 simp only [execOp,Instr.makeFunc]
 show wpListIn _ 0 P _ _ _ _ _
 unfold wpListIn
 rw [if_pos (by simp [Region.wanted])]
 refine ⟨fun f _=>trivial,?_⟩
 have hev:(a.put (some t) (.func (.func f) #[] (caps.map (evE ρ)))).eval (.tmp t)=.func (.func f) #[] (caps.map (evE ρ)):=by
  rw [h1.eval];simp [evE,put,upd]
 have hd:=h1.defers
 simp [Oper.semAt,Fence.wide,execOp,resolve,hev,Deferred.ofValue,Oper.uponIn,wpListIn,Exit.then,hd]
 exact h2
theorem jJU {f:FuncId} {fn:Func} {c:Code} {args:List Value} {R:Ending→World→Prop} (hf:P.funcs[f]?=some fn) (hb:fn.body=some c) (hn:fn.ntmps=n) (hl:args.length≤n)
  (h:∀a,Rep [] n (jIB args) a→c.wp P (bodyPostD P fn R) a w):Calls P f args.toArray w R:=by
 subst hn;exact calls_of_wp_defers hf hb (h _ (jDT args hl))
inductive Recov:FrameMode→Value→FrameMode→Prop
 | idle:Recov .returning .nilIface .returning
 | hit (v:Value) (older:List PanicEntry):Recov (.panicking ({ v:=v,recovered:=false } :: older)) v (.panicking ({ v:=v,recovered:=true } :: older))
def bodyEN (P:Program) (fn:Func) (n:Nat) (R:Ending→World→Prop):Exit→Env→World→Prop
 | .normal,ρ,w=>∃v,(∀ds a,Rep ds n ρ a→(results fn a.tmps).run P w=.ok v w)∧R (.returned v) w
 | .panic ch,_,w=>R (.panicked ch) w
 | _,_,_=>False
theorem jAP {id t t2:Nat} {f:FuncId} {fn:Func} {c:Code} {args:List Value} {v:Value} {u u':FrameMode} {R:Ending→World→Prop} {ty ty':TypeId} {pos pos':String} {aft aft':Array Edge}
  (hu:Recov u v u') (hf:P.funcs[f]?=some fn)
  (hb:fn.body=some (Code.seq (.region id #[⟨some t,.call ⟨.builtin .recover,#[],#[]⟩,ty,pos,aft,none⟩,⟨some t2,.assign (.tmp t),ty',pos',aft',none⟩] false) c))
  (hn:fn.ntmps=n) (hl:args.length≤n) (ht:t<n) (ht2:t2<n)
  (h:wpE (x:=⟨none,[]⟩) P n c (bodyEN P fn n R) (put (put (jIB args) (some t) v) (some t2) v) w) :
  CallsD P f args.toArray u w (fun e u1 w'=>u1=u'∧R e w'):=by
 subst hn
 refine callsD_of_wpS hf hb fun c₀ cs hm=>?_
 apply wpS_seq
 apply wpS_region
 have hr:=jDT args hl
 have h1:Rep [] fn.ntmps (put (jIB args) (some t) v) _:=hr.put (d:=some t) (fun k e=>by cases e;exact ht) v
 have h2:Rep [] fn.ntmps (put (put (jIB args) (some t) v) (some t2) v) _:=h1.put (d:=some t2) (fun k e=>by cases e;exact ht2) v
 have hv:((Act.mk (args.toArray++Array.replicate (fn.ntmps - args.toArray.size) undef) []).put (some t) v).eval (.tmp t)=v:=by
  rw [h1.eval];simp [evE,put,upd]
 have key:∀cs',cs'={ c₀ with mode:=u' } :: cs→c.wpS P (bodyPostS P fn c₀ cs fun e u1 w'=>u1=u'∧R e w') ((((Act.mk (args.toArray++Array.replicate (fn.ntmps - args.toArray.size) undef) []).put (some t) v)).put (some t2) v) cs' w:=by
  rintro cs' rfl;refine wpS_of_wp (jMO h2 (jDS ?_ h));intro e ρ' w' hq;cases e with
  | normal =>
   intro a' ha'
   obtain ⟨x,hx,hR⟩:=hq
   exact ⟨ha'.defers,u',rfl,x,hx _ a' ha',rfl,hR⟩
  | panic ch =>
   intro a' ha'
   exact ⟨ha'.defers,u',rfl,rfl,hq⟩
  | _=>exact hq.elim
 have h0:(execOp (Act.mk (args.toArray++Array.replicate (fn.ntmps - args.toArray.size) undef) []).eval ⟨some t,.call ⟨.builtin .recover,#[],#[]⟩,ty,pos,aft,none⟩).run P w=.ok .recover w:=by
  simp [execOp,resolve,invoke,builtin]
 show wpOpsS P _ _ [0,1] _ _ _
 cases hu with
 | idle =>
  have hrd:recoverD (c₀ :: cs)=none:=by simp [recoverD,hm]
  simp only [wpOpsS,List.getElem?_toArray,List.getElem?_cons_zero,List.getElem?_cons_succ]
  rw [if_pos (by simp [Region.wanted]),h0]
  simp only [hrd]
  rw [if_pos (by simp [Region.wanted])]
  simp only [execOp,hv,Oper.upon]
  exact key _ (by cases c₀;simp_all)
 | hit v older =>
  have hrd:recoverD (c₀ :: cs)=some (v,{ c₀ with mode:=.panicking ({ v:=v,recovered:=true } :: older) } :: cs):=by simp [recoverD,hm]
  simp only [wpOpsS,List.getElem?_toArray,List.getElem?_cons_zero,List.getElem?_cons_succ]
  rw [if_pos (by simp [Region.wanted]),h0]
  simp only [hrd]
  rw [if_pos (by simp [Region.wanted])]
  simp only [execOp,hv,Oper.upon]
  exact key _ rfl
end
end Go.SE
end
section
open Go Go.SE
namespace Go.Proofs
open Tryz
attribute [local irreducible] Calls CallsD
theorem jNR {P:Program} {ε:Operand→Value} {w:World} {d:Option Tmp} {ty:TypeId} {pos:String} {aft:Array Edge} {g:Option (Nat×Bool)} {x:Operand} {X T:TypeId} {v:Value} {td:TypeDesc} (hx:ε x=.iface T v) (ht:P.underlying T=some td) (hi:∀m,td≠.interface m) :
  (execOp ε ⟨d,.typeAssert x X T true,ty,pos,aft,g⟩).run P w=.ok (.value (.tuple #[v,.bool true])) w:=by
 simp only [execOp,hx]
 have:(Instr.typeAssert (.iface T v) X T true).run P w=.ok (.tuple #[v,.bool true]) w:=by
  unfold Instr.typeAssert;simp only [Sem.run_bind,run_underlying ht,Result.andThen];cases td <;> first | exact absurd rfl (hi _) | simp
 simp [this]
set_option maxRecDepth 100000 in
theorem jSD (pf pr:Addr) (w:World):CallsD prog 310 #[.pointer (some pf),.pointer (some pr)] .returning w (fun e u' w'=>u'=.returning∧(e=.returned (.tuple #[])∧w'=w)):=by
 refine jAP (args:=[.pointer (some pf),.pointer (some pr)]) (R:=fun e w'=>e=.returned (.tuple #[])∧w'=w) .idle func310 rfl ntmps310 (Nat.le_of_ble_eq_true rfl) (by decide) (by decide) ?_;refine zA ?_;refine rg ?_;refine q0 .nilIface ?_;refine q0 (.bool false) ?_;refine zB ?_;refine zK ?_;refine vH (t:=false) (by kernel_rfl) (fun hc1=>by cases hc1) (fun hc1=>?_);refine zC ?_;exact ⟨.tuple #[],fun ds a ha=>by rw [results_none results310],rfl,rfl⟩
set_option maxRecDepth 100000 in
theorem jUK (pf pr r:Addr) (from_ e:Int) (older:List PanicEntry) (w:World) (hf:w.cell? pf=some (.int .i64 from_)) (hr:w.cell? pr=some (.pointer (some r))) (h1:CanW w (r.add 1)) (h2:CanW w (r.add 2)) (h3:CanW w (r.add 3)) :
  CallsD prog 310 #[.pointer (some pf),.pointer (some pr)] (.panicking ({ v:=.iface 335 (.int .i64 e),recovered:=false } :: older)) w (fun e' u' w'=>u'=.panicking ({ v:=.iface 335 (.int .i64 e),recovered:=true } :: older) ∧
   (e'=.returned (.tuple #[])∧w'=((w.setCell (r.add 1) (.int .i64 from_)).setCell (r.add 2) (.int .i64 e)).setCell (r.add 3) (.int .i64 from_))):=by
 refine jAP (args:=[.pointer (some pf),.pointer (some pr)]) (R:=fun e' w'=>e'=.returned (.tuple #[])∧w'=((w.setCell (r.add 1) (.int .i64 from_)).setCell (r.add 2) (.int .i64 e)).setCell (r.add 3) (.int .i64 from_)) (.hit _ older) func310 rfl ntmps310 (Nat.le_of_ble_eq_true rfl) (by decide) (by decide) ?_
 refine zA ?_
 refine rg ?_
 refine q0 (.iface 335 (.int .i64 e)) ?_
 refine q0 (.bool true) ?_
 refine zB ?_
 refine zK ?_
 refine vH (t:=true) (by kernel_rfl) (fun hc1=>?_) (fun hc1=>by cases hc1)
 refine zA ?_
 refine rg ?_
 refine q0 (.iface 335 (.int .i64 e)) ?_
 refine q2 (.tuple #[.int .i64 e,.bool true]) (jNR (by kernel_rfl) underlying335 (by intro m;simp)) ?_
 refine q0 (.tuple #[.int .i64 e,.bool true]) ?_
 refine q0 (.int .i64 e) ?_
 refine q0 (.bool true) ?_
 refine q0 (.int .i64 e) ?_
 refine q0 (.bool true) ?_
 refine zB ?_
 refine zK ?_
 refine zA ?_
 refine zA ?_
 refine rg ?_
 refine q0 (.bool true) ?_
 refine q0 (.bool false) ?_
 refine zB ?_
 refine zK ?_
 refine vH (t:=false) (by kernel_rfl) (fun hc1=>by cases hc1) (fun hc1=>?_)
 refine zC ?_
 refine zK ?_
 refine rg ?_
 refine q2 (.pointer (some r)) (xJ (a:=pr) (by kernel_rfl) (isAgg228 _) hr) ?_
 refine q2 (.pointer (some r)) (xJ (a:=pr) (by kernel_rfl) (isAgg228 _) hr) ?_
 refine q2 (.pointer (some r)) (xJ (a:=pr) (by kernel_rfl) (isAgg228 _) hr) ?_
 refine q2 (.int .i64 from_) (xJ (a:=pf) (by kernel_rfl) (isAgg3 _) hf) ?_
 refine q0 (.int .i64 e) ?_
 refine q2 (.int .i64 from_) (xJ (a:=pf) (by kernel_rfl) (isAgg3 _) hf) ?_
 refine q0 (.pointer (some r)) ?_
 refine q0 (.pointer (some (r.add 1))) ?_
 refine yW (zL rfl) (yQ (a:=r.add 1) (v:=.int .i64 from_) (by kernel_rfl) (by kernel_rfl) rfl (sizeOf3 _) h1) ?_
 rintro w1 rfl
 refine q0 (.pointer (some r)) ?_
 refine q0 (.pointer (some (r.add 2))) ?_
 refine yW (zL rfl) (yQ (a:=r.add 2) (v:=.int .i64 e) (by kernel_rfl) (by kernel_rfl) rfl (sizeOf33 _) (CanW.setCell h2)) ?_
 rintro w2 rfl
 refine q0 (.pointer (some r)) ?_
 refine q0 (.pointer (some (r.add 3))) ?_
 refine yW (zL rfl) (yQ (a:=r.add 3) (v:=.int .i64 from_) (by kernel_rfl) (by kernel_rfl) rfl (sizeOf3 _) (CanW.setCell (CanW.setCell h3))) ?_
 rintro w3 rfl
 refine zB ?_
 exact ⟨.tuple #[],fun ds a ha=>by rw [results_none results310],rfl,rfl⟩
theorem jUT {P:Program} {w:World} {f:FuncId} {cap args:Array Value} (hc:∀args w,(callFunc f args).run P w=.ok (.enter f args) w) (h:cap=args):(invoke (.fn (.func f) cap) #[]).run P w=.ok (.enter f args) w:=by
 subst h;simp [invoke,hc]
set_option maxRecDepth 100000 in
theorem jCU (r:Addr) (do_:Value) (e:Int) (w0:World) (he:w0.cell? (r.add 2)=some (.int .i64 e)) (h0:e≠0) :
  Calls prog 288 #[.pointer (some r),do_] w0 (fun e w'=>e=.returned (.tuple #[])∧Pure w0 w'):=by
 refine jDJ (args:=[.pointer (some r),do_]) func288 rfl ntmps288 (Nat.le_of_ble_eq_true rfl) ?_
 refine zA ?_
 refine rg ?_
 refine uE (O:=(.cells #[(.pointer (some r))] 228)) (fun p=>.pointer (some p)) (zL rfl) (jVF (cs:=#[(.pointer (some r))]) (by kernel_rfl)) ?_
 intro p1 w1 hn1
 have E1:Pure w0 w1:=Ext.new hn1
 have hp1:w1.cell? p1=some (.pointer (some r)):=(Box.of_newA hn1).cell0
 have he1:=E1.cell he id
 refine zB ?_
 refine zK ?_
 refine zA ?_
 refine zA ?_
 refine rg ?_
 refine q2 (.pointer (some r)) (xJ (a:=p1) (by kernel_rfl) (isAgg228 _) hp1) ?_
 refine q2 (.bool false) (vY (x:=some r) (by kernel_rfl) rfl underlying228) ?_
 refine q0 (.bool false) ?_
 refine q2 (.pointer (some r)) (xJ (a:=p1) (by kernel_rfl) (isAgg228 _) hp1) ?_
 refine q0 (.pointer (some r)) ?_
 refine q0 (.pointer (some (r.add 2))) ?_
 refine q2 (.int .i64 e) (xJ (a:=r.add 2) (by kernel_rfl) (isAgg33 _) he1) ?_
 refine q0 (.bool ((e:Int) != 0)) ?_
 refine q0 (.bool ((e:Int) != 0)) ?_
 refine zB ?_
 refine zK ?_
 refine vH (t:=true) (by rw [show ((e:Int) != 0)=true by simpa using h0];kernel_rfl) (fun hc1=>?_) (fun hc1=>by cases hc1)
 refine jPP ?_
 refine vF ?_
 exact jFI (.inl rfl) results288 ⟨rfl,E1⟩
set_option maxRecDepth 100000 in
theorem jMD (r:Addr) (fd:FuncId) (caps:Array Value) (at_:Int) (w0:World) (K:WP) (h1:w0.cell? (r.add 1)=some (.int .i64 at_)) (h2:w0.cell? (r.add 2)=some (.int .i64 0))
  (hc:∀args w,(callFunc fd args).run prog w=.ok (.enter fd args) w)
  (hdo:∀w1 p pf,Pure w0 w1→w0.heap.size≤Addr.block p→w0.heap.size≤Addr.block pf→w1.cell? p=some (.pointer (some r))→w1.cell? pf=some (.int .i64 at_) →
   Calls prog fd caps w1 (fun e w2=>(e=.returned (.tuple #[])∧K w2)∨∃x,e=.panicked [{ v:=.iface 335 (.int .i64 x),recovered:=false }]∧w2.cell? p=some (.pointer (some r))∧w2.cell? pf=some (.int .i64 at_)∧CanW w2 (r.add 1)∧CanW w2 (r.add 2)∧CanW w2 (r.add 3) ∧
    K (((w2.setCell (r.add 1) (.int .i64 at_)).setCell (r.add 2) (.int .i64 x)).setCell (r.add 3) (.int .i64 at_)))) :
  Calls prog 288 #[.pointer (some r),.func (.func fd) #[] caps] w0 (fun e w'=>e=.returned (.tuple #[])∧K w'):=by
 refine jJU (args:=[.pointer (some r),.func (.func fd) #[] caps]) func288 rfl ntmps288 (Nat.le_of_ble_eq_true rfl) ?_
 intro a ha
 refine jEE ha ?_
 refine rg ?_
 refine uE (O:=(.cells #[(.pointer (some r))] 228)) (fun p=>.pointer (some p)) (zL rfl) (jVF (cs:=#[(.pointer (some r))]) (by kernel_rfl)) ?_
 intro p1 w1 hn1
 have E1:Pure w0 w1:=Ext.new hn1
 have hp1:w1.cell? p1=some (.pointer (some r)):=(Box.of_newA hn1).cell0
 have he1:=E1.cell h2 id
 have hb1:=hn1.at_size
 clear ha
 refine zB ?_
 intro a ha
 refine jEE ha ?_
 refine zA ?_
 refine rg ?_
 refine q2 (.pointer (some r)) (xJ (a:=p1) (by kernel_rfl) (isAgg228 _) hp1) ?_
 refine q2 (.bool false) (vY (x:=some r) (by kernel_rfl) rfl underlying228) ?_
 refine q0 (.bool false) ?_
 refine q2 (.pointer (some r)) (xJ (a:=p1) (by kernel_rfl) (isAgg228 _) hp1) ?_
 refine q0 (.pointer (some r)) ?_
 refine q0 (.pointer (some (r.add 2))) ?_
 refine q2 (.int .i64 0) (xJ (a:=r.add 2) (by kernel_rfl) (isAgg33 _) he1) ?_
 refine q0 (.bool false) ?_
 refine q0 (.bool false) ?_
 refine zB ?_
 refine zK ?_
 refine vH (t:=false) (by kernel_rfl) (fun hc1=>by cases hc1) (fun hc1=>?_)
 refine zC ?_
 clear ha
 intro a ha
 refine jEE ha ?_
 refine rg ?_
 refine q2 (.pointer (some r)) (xJ (a:=p1) (by kernel_rfl) (isAgg228 _) hp1) ?_
 refine q0 (.pointer (some r)) ?_
 refine q0 (.pointer (some (r.add 1))) ?_
 refine q2 (.int .i64 at_) (xJ (a:=r.add 1) (by kernel_rfl) (isAgg3 _) (E1.cell h1 id)) ?_
 refine uE (O:=(.cells #[(.int .i64 0)] 3)) (fun p=>.pointer (some p)) (zL rfl) (zQ (zeroValue3 _) rfl) ?_
 intro p2 w2 hn2
 have E2:Pure w0 w2:=E1.trans (Ext.new hn2)
 have hb2:=hn2.at_size
 have B2:=Box.of_newA hn2
 refine yW (zL rfl) (yQ (a:=p2) (v:=.int .i64 at_) (by kernel_rfl) (by kernel_rfl) rfl (sizeOf3 _) (B2.canW0 (by simp))) ?_
 intro w3 hw3
 have hb3:=World.block_lt_of_cell? w1 p1 hp1
 have E3:Pure w0 w3:=E2.own (p:=p2) (by have:=E1.size;omega) (hw3▸Ext.setCell p2 _)
 have hp3:w3.cell? p1=some (.pointer (some r)):=by
  rw [hw3];exact (Ext.setCell p2 _).cell ((Ext.new (F:=None) hn2).cell hp1 id) (fun e=>by omega)
 have hf3:w3.cell? p2=some (.int .i64 at_):=by
  rw [hw3];exact (B2.set0).cell0
 refine zB ?_
 clear ha
 intro a ha
 refine jPR ha (by decide) ?_
 clear ha
 intro a ha
 refine jMO ha ?_
 refine qK (by kernel_rfl) ?_
 refine qD 1 ?_
 refine q0 (.func (.func fd) #[] caps) ?_
 refine zB ?_
 refine jEI (zL rfl) (by intro c hc;cases hc) (jPN (caps:=caps) (args:=#[]) (args':=caps) (by kernel_rfl) hc rfl (by simp)) ((hdo w3 p1 p2 E3 (by omega) (by have:=E1.size;omega) hp3 hf3).mono ?_)
 rintro e w4 (⟨rfl,hK⟩ | ⟨x,rfl,ha1,ha2,hw1,hw2,hw3',hK⟩)
 ·refine .inl ⟨_,rfl,?_⟩
  refine jSS ?_
  clear ha
  intro a ha
  show Leaves _ _ _ _ _ _ _
  rw [ha.defers]
  refine leaves_cons (f:=310) (args:=#[.pointer (some p2),.pointer (some p1)]) (by simp) (jUT call310 (by simp [evE,put,upd])) ?_
  refine (jSD p2 p1 w4).mono ?_
  rintro e u' w5 ⟨rfl,rfl,rfl⟩
  exact ⟨_,results_none results288 _ _ _,rfl,hK⟩
 ·refine .inr ⟨_,rfl,?_⟩
  intro ρ' 
  clear ha
  intro a ha
  show Leaves _ _ _ _ _ _ _
  rw [ha.defers]
  refine leaves_cons (f:=310) (args:=#[.pointer (some p2),.pointer (some p1)]) (by simp) (jUT call310 (by simp [evE,put,upd])) ?_
  refine (jUK p2 p1 r at_ x [] w4 ha2 ha1 hw1 hw2 hw3').mono ?_
  rintro e u' w5 ⟨rfl,rfl,rfl⟩
  exact ⟨_,results_none results288 _ _ _,rfl,hK⟩
structure RdAt (S:NP) (w:World) (a:Addr) (s:Sl) (bs:List UInt8) (at_ err spot:Int):Prop where
 box:Box w a [s.v,.int .i64 at_,.int .i64 err,.int .i64 spot] 299
 lst:Lst S w 1 s (byr bs)
 apart:∀b,S b→b≠a.block
 small:bs.length≤100000000000
 room:s.len≤s.cap
def jUD (e:Int):List PanicEntry:=[{ v:=.iface 335 (.int .i64 e),recovered:=false }]
section
variable {S:NP} {w w':World} {a:Addr} {s:Sl} {bs:List UInt8} {at_ err spot:Int}
theorem RdAt.ext {F:NP} (h:RdAt S w a s bs at_ err spot) (E:Ext F w w') (hF:∀b,S b→¬ F b) (ha:¬ F a.block):RdAt S w' a s bs at_ err spot :=
 ⟨h.box.ext E ha,h.lst.ext E hF,h.apart,h.small,h.room⟩
theorem RdAt.pure (h:RdAt S w a s bs at_ err spot) (E:Pure w w'):RdAt S w' a s bs at_ err spot:=h.ext E (fun _ _ h=>h) id
theorem RdAt.atC (h:RdAt S w a s bs at_ err spot):w.cell? (a.add 1)=some (.int .i64 at_):=h.box.cell (i:=1) rfl
theorem RdAt.errC (h:RdAt S w a s bs at_ err spot):w.cell? (a.add 2)=some (.int .i64 err):=h.box.cell (i:=2) rfl
theorem RdAt.setAt (h:RdAt S w a s bs at_ err spot) (k:Int):RdAt S (w.setCell (a.add 1) (.int .i64 k)) a s bs k err spot :=
 ⟨h.box.set 1 _,h.lst.ext (Ext.setCell _ _) (fun b hb e=>h.apart b hb (by rw [zV] at e;exact e)),h.apart,h.small,h.room⟩
theorem RdAt.setErr (h:RdAt S w a s bs at_ err spot) (k:Int):RdAt S (w.setCell (a.add 2) (.int .i64 k)) a s bs at_ k spot :=
 ⟨h.box.set 2 _,h.lst.ext (Ext.setCell _ _) (fun b hb e=>h.apart b hb (by rw [zV] at e;exact e)),h.apart,h.small,h.room⟩
theorem RdAt.setSpot (h:RdAt S w a s bs at_ err spot) (k:Int):RdAt S (w.setCell (a.add 3) (.int .i64 k)) a s bs at_ err k :=
 ⟨h.box.set 3 _,h.lst.ext (Ext.setCell _ _) (fun b hb e=>h.apart b hb (by rw [zV] at e;exact e)),h.apart,h.small,h.room⟩
theorem yB {k:Nat} {v:Value}:Ext (·=a.block) w (w.setCell (a.add k) v):=(Ext.setCell _ _).mono (fun i _ e=>by rw [zV] at e;exact e)
end
theorem jUW {S:NP} (a:Addr) (s:Sl) (bs:List UInt8) (at_:Nat) (err spot:Int) (w0:World) (h:RdAt S w0 a s bs at_ err spot) (hat:at_≤bs.length) :
  Calls prog 293 #[.pointer (some a)] w0 (fun e w'=>(∃hlt:at_<bs.length,e=.returned (.int .u8 (bs[at_].toNat:Int))∧RdAt S w' a s bs ((at_+1:Nat):Int) err spot∧Ext (·=a.block) w0 w') ∨
   (at_=bs.length∧e=.panicked (jUD 3)∧RdAt S w' a s bs at_ err spot∧Ext (·=a.block) w0 w')):=by
 refine (w_H1 (some a) w0 (fun o r w'=>(∃hlt:at_<bs.length,o=none∧r=(bs[at_].toNat:Int)∧RdAt S w' a s bs ((at_+1:Nat):Int) err spot∧Ext (·=a.block) w0 w')∨(at_=bs.length∧o=some (jUD 3)∧RdAt S w' a s bs at_ err spot∧Ext (·=a.block) w0 w')) ?_).mono ?_
 ·unfold m_H1
  refine ⟨a,rfl,fun w1 hs=>?_⟩
  have h1:=h.pure hs.first
  have hl:s.len=bs.length:=by rw [h.lst.len,qO]
  refine ⟨_,h1.atC,a,rfl,s,h1.box.cell0,fun hc=>?_,fun hc=>?_⟩
  ·have:at_=bs.length:=by have:=beq_iff_eq.1 hc;omega
   exact .inr ⟨this,rfl,h1,Ext.pure hs.first⟩
  ·have hne:at_≠bs.length:=by have:=beq_eq_false_iff_ne.1 hc;omega
   have hlt:at_<bs.length:=by omega
   unfold m_H1_j1
   refine ⟨a,rfl,_,h1.atC,a,rfl,h1.box.canW (i:=1) (by simp),id,?_⟩
   rintro w2 rfl
   have hw:IntKind.i64.wrap ((at_:Int)+1)=((at_+1:Nat):Int):=vV hlt (by have:=h.small;omega)
   rw [hw]
   have h2:=h1.setAt ((at_+1:Nat):Int)
   refine ⟨a,rfl,fun w3 hs3=>?_⟩
   have h3:=h2.pure hs3.ext
   have hw2:IntKind.i64.wrap (((at_+1:Nat):Int) - 1)=(at_:Int):=by
    rw [IntWalk.i64_in _ (by have:=h.small;omega)];omega
   obtain ⟨c,hc1,_,hc3⟩:=jSL h3.lst hlt
   refine ⟨s,h3.box.cell0,a,rfl,_,h3.atC,c,?_,_,hc3,.inl ⟨hlt,rfl,rfl,h3,((Ext.pure hs.first).trans yB).thenPure hs3.ext⟩⟩
   rw [hw2];exact hc1
 ·rintro e w' (⟨r,rfl,h⟩ | ⟨ch,rfl,h⟩)
  ·rcases h with ⟨hlt,_,rfl,h⟩ | ⟨_,h,_⟩
   ·exact .inl ⟨hlt,rfl,h⟩
   ·cases h
  ·rcases h with ⟨hlt,h,_⟩ | ⟨h1,h2,h⟩
   ·cases h
   ·cases h2;exact .inr ⟨h1,rfl,h⟩
theorem c_num {S:NP} (a:Addr) (s:Sl) (bs:List UInt8) (at_:Nat) (err spot:Int) (w0:World) (h:RdAt S w0 a s bs at_ err spot) (hat:at_≤bs.length) :
  Calls prog 290 #[.pointer (some a)] w0 (fun e w'=>(∃n k:Nat,xX 0 0 (bs.drop at_)=.ok (n,k)∧e=.returned (.int .u64 (n:Int))∧n<18446744073709551616∧at_+k≤bs.length∧RdAt S w' a s bs ((at_+k:Nat):Int) err spot∧Ext (·=a.block) w0 w') ∨
   (∃x:Nat,∃at':Int,xX 0 0 (bs.drop at_)=.error x∧e=.panicked (jUD x)∧RdAt S w' a s bs at' err spot∧Ext (·=a.block) w0 w')):=by
 refine (w_X (some a) w0 (fun o r w' => (∃ n k : Nat, xX 0 0 (bs.drop at_) = .ok (n, k) ∧ o = none ∧ r = (n : Int) ∧ n < 18446744073709551616 ∧ at_ + k ≤ bs.length ∧ RdAt S w' a s bs ((at_ + k : Nat) : Int) err spot ∧ Ext (· = a.block) w0 w') ∨
   (∃x:Nat,∃at':Int,xX 0 0 (bs.drop at_)=.error x∧o=some (jUD x)∧RdAt S w' a s bs at' err spot∧Ext (·=a.block) w0 w')) ?_).mono ?_
 ·unfold m_X
  refine ⟨fun n i w=>∃acc k:Nat,n=(acc:Int)∧i=(k:Int)∧k≤9∧acc<2 ^ (7*k)∧at_+k≤bs.length∧xX k acc (bs.drop (at_+k))=xX 0 0 (bs.drop at_)∧RdAt S w a s bs ((at_+k:Nat):Int) err spot∧Ext (·=a.block) w0 w,fun _ i _=>(10 - i).toNat,⟨0,0,rfl,rfl,by omega,by simp,by simpa using hat,rfl,by simpa using h,Ext.refl _⟩,?_⟩
  rintro _ _ wl ⟨acc,k,rfl,rfl,hk,hacc,hle,hrd,hR,hE⟩
  unfold m_X_l1
  refine (jUW a s bs (at_+k) err spot wl hR hle).mono ?_
  rintro e w1 (⟨hlt,rfl,hR1,hE1⟩ | ⟨heq,rfl,hR1,hE1⟩)
  ·refine .inl ⟨_,rfl,?_⟩
   have hdrop:bs.drop (at_+k)=bs[at_+k] :: bs.drop (at_+k+1):=List.drop_eq_getElem_cons hlt
   generalize hcc:bs[at_+k]=c at *
   have hc:=c.toNat_lt
   rw [hdrop,xD] at hrd
   refine ⟨fun hb=>?_,fun hb=>?_⟩
   ·have hb':k=9∧1<c.toNat:=by simp at hb;omega
    rw [if_pos hb'] at hrd
    exact .inr ⟨11,_,hrd.symm,rfl,hR1,hE.trans hE1⟩
   ·have hb':¬ (k=9∧1<c.toNat):=by intro hh;simp at hb;omega
    rw [if_neg hb'] at hrd
    have hpw:c.toNat % 128*2 ^ (7*k)<18446744073709551616:=by
     by_cases h9:k=9
     ·subst h9;omega
     ·have h8:2 ^ (7*k)≤2 ^ 56:=Nat.pow_le_pow_right (by omega) (by omega);have h127:c.toNat % 128≤127:=by omega
      calc c.toNat % 128*2 ^ (7*k)≤127*2 ^ 56:=Nat.mul_le_mul h127 h8
       _<18446744073709551616:=by decide
    have hac:acc<18446744073709551616:=Nat.lt_of_lt_of_le hacc (by
     calc 2 ^ (7*k)≤2 ^ 63:=Nat.pow_le_pow_right (by omega) (by omega)
      _≤18446744073709551616:=by decide)
    have h7:IntKind.i64.wrap (7*(k:Int))=((7*k:Nat):Int):=by rw [IntWalk.i64_in _ (by omega)];simp
    have h128:128 ^ k=2 ^ (7*k):=by rw [Nat.pow_mul]
    have hsum:acc ||| (c.toNat % 128*2 ^ (7*k))=acc+c.toNat % 128*2 ^ (7*k):=or_add hacc
    have hsl:acc+c.toNat % 128*2 ^ (7*k)<18446744073709551616:=by
     rw [← hsum];exact Nat.or_lt_two_pow (n:=64) hac hpw
    unfold m_X_j2
    rw [h7]
    refine ⟨_,jOF c.toNat hc,_,by rw [yM (by omega)];exact jVN _ _ (by omega) hpw,_,jTD _ _ hac hpw,?_⟩
    rw [hsum]
    refine ⟨fun hs=>?_,fun hs=>?_⟩
    ·have hs':c.toNat<128:=by have:=of_decide_eq_true hs;omega
     rw [if_pos hs'] at hrd
     refine ⟨fun hz=>?_,fun hz=>?_⟩
     ·have hz':c.toNat=0∧0<k:=by simp at hz;omega
      rw [if_pos hz'] at hrd
      exact .inr ⟨10,_,hrd.symm,rfl,hR1,hE.trans hE1⟩
     ·have hz':¬ (c.toNat=0∧0<k):=by intro hh;simp at hz;omega
      rw [if_neg hz',h128] at hrd
      rw [Nat.mod_eq_of_lt hs'] at hsl ⊢
      exact .inl ⟨_,k+1,hrd.symm,rfl,rfl,hsl,by omega,hR1,hE.trans hE1⟩
    ·have hs':¬ c.toNat<128:=by have:=of_decide_eq_false hs;omega
     rw [if_neg hs',h128] at hrd
     have hk9:k≠9:=by omega
     rw [vV (n:=10) (by omega) (by omega)]
     refine ⟨⟨_,k+1,rfl,rfl,by omega,?_,by omega,hrd,hR1,hE.trans hE1⟩,by show (10 - ((k+1:Nat):Int)).toNat<(10 - (k:Int)).toNat;omega⟩
     have:2 ^ (7*(k+1))=128*2 ^ (7*k):=by rw [Nat.mul_add,Nat.pow_add];omega
     rw [this]
     have h127:c.toNat % 128*2 ^ (7*k)≤127*2 ^ (7*k):=Nat.mul_le_mul_right _ (by omega)
     omega
  ·refine .inr ⟨_,rfl,.inr ⟨3,_,?_,rfl,hR1,hE.trans hE1⟩⟩
   rw [← hrd,heq,List.drop_length];rfl
 ·rintro e w' (⟨r,rfl,h⟩ | ⟨ch,rfl,h⟩)
  ·rcases h with ⟨n,k,h1,_,rfl,h⟩ | ⟨_,_,_,h,_⟩
   ·exact .inl ⟨n,k,h1,rfl,h⟩
   ·cases h
  ·rcases h with ⟨n,k,h1,h,_⟩ | ⟨x,at',h1,h2,h⟩
   ·cases h
   ·cases h2;exact .inr ⟨x,at',h1,rfl,h⟩
abbrev RdS (S:NP) (w:World) (a:Addr) (s:Sl) (bs:List UInt8) (r:Rd):Prop:=RdAt S w a s bs r.at_ r.err r.spot
theorem jCV {w:World} {p:Addr} {u v:Value} {T:TypeId} (h:Box w p [u] T):Box (w.setCell p v) p [v] T:=h.set0
theorem RdAt.gives {S:NP} {w:World} {a:Addr} {s:Sl} {bs:List UInt8} {at_ err spot:Int} (h:RdAt S w a s bs at_ err spot) (f e:Int) :
  CanW w (a.add 1)∧CanW w (a.add 2)∧CanW w (a.add 3)∧RdAt S (((w.setCell (a.add 1) (.int .i64 f)).setCell (a.add 2) (.int .i64 e)).setCell (a.add 3) (.int .i64 f)) a s bs f e f :=
 ⟨h.box.canW (i:=1) (by simp),h.box.canW (i:=2) (by simp),h.box.canW (i:=3) (by simp),((h.setAt f).setErr e).setSpot f⟩
theorem jAJ {w:World} {a:Addr} {u v x:Value}:Ext (·=a.block) w (((w.setCell (a.add 1) u).setCell (a.add 2) v).setCell (a.add 3) x):=(yB.trans yB).trans yB
theorem jKK {S:NP} (a:Addr) (s:Sl) (bs:List UInt8) (r:Rd) (w0:World) (h:RdS S w0 a s bs r) (hat:r.at_≤bs.length) (hS:∀b,S b→b<w0.heap.size) :
  Calls prog 219 #[.pointer (some a)] w0 (fun e w'=>∃x:Int,e=.returned (.int .u64 x)∧x=((qW bs r).1:Int)∧RdS S w' a s bs (qW bs r).2∧Ext (·=a.block) w0 w'):=by
 refine w_I3 (some a) w0 (fun x w'=>x=((qW bs r).1:Int)∧RdS S w' a s bs (qW bs r).2∧Ext (·=a.block) w0 w') ?_
 unfold m_I3
 intro p1 w1 n1 p2 w2 n2
 have E1:Pure w0 w1:=Ext.new n1
 have E2:Pure w0 w2:=E1.trans (Ext.new n2)
 have hp1:w2.cell? p1=some (.pointer (some a)):=(Ext.new (F:=None) n2).cell (Box.of_newA n1).cell0 id
 have b1:=n1.at_size
 have b2:=n2.at_size
 have b12:p1.block≠p2.block:=by have:=World.block_lt_of_cell? w1 p1 (Box.of_newA n1).cell0;omega
 have ha0:=World.block_lt_of_cell? w0 a h.box.cell0
 have B2:=Box.of_newA n2
 have h2:=h.pure E2
 refine ⟨some a,hp1,?_⟩
 have fin:∀w3,(Box w3 p2 [.int .u64 ((qW bs r).1:Int)] 23∧RdS S w3 a s bs (qW bs r).2∧Ext (·=a.block) w0 w3)→∃v2:Int,w3.cell? p2=some (.int .u64 v2)∧CanW w3 p2∧∀w4:World,w4=w3.setCell p2 (.int .u64 v2)→∃qV1:Int,w4.cell? p2=some (.int .u64 qV1)∧(qV1=((qW bs r).1:Int)∧RdS S w4 a s bs (qW bs r).2∧Ext (·=a.block) w0 w4):=by
  rintro w3 ⟨hB,hR,hE⟩;refine ⟨_,hB.cell0,hB.canW0 (by simp),?_⟩;rintro w4 rfl;have hx:Ext (·=p2.block) w3 (w3.setCell p2 (.int .u64 ((qW bs r).1:Int))):=Ext.setCell _ _;exact ⟨_,(jCV hB).cell0,rfl,hR.ext hx (fun b hb e=>by have:=hS b hb;have:=E1.size;omega) (fun e=>by have:=E1.size;omega),hE.trans' hx (fun i hi e=>by have:=E1.size;omega)⟩
 by_cases he:r.err=0
 ·refine (jMD a 289 _ r.at_ w2 (fun w3=>Box w3 p2 [.int .u64 ((qW bs r).1:Int)] 23∧RdS S w3 a s bs (qW bs r).2∧Ext (·=a.block) w0 w3) h2.atC (by have:=h2.errC;rw [he] at this;exact this) call289 ?_).mono ?_
  ·intro w3 p pf E3 hp hpf hpc hpfc
   have h3:=h2.pure E3
   refine (w_Q3 p1 p2 w3 (fun o w4=>(o=none∧(Box w4 p2 [.int .u64 ((qW bs r).1:Int)] 23∧RdS S w4 a s bs (qW bs r).2∧Ext (·=a.block) w0 w4))∨(∃x,o=some (jUD x)∧w4.cell? p=some (.pointer (some a))∧w4.cell? pf=some (.int .i64 r.at_)∧CanW w4 (a.add 1)∧CanW w4 (a.add 2)∧CanW w4 (a.add 3) ∧
    (Box (((w4.setCell (a.add 1) (.int .i64 r.at_)).setCell (a.add 2) (.int .i64 x)).setCell (a.add 3) (.int .i64 r.at_)) p2 [.int .u64 ((qW bs r).1:Int)] 23∧RdS S (((w4.setCell (a.add 1) (.int .i64 r.at_)).setCell (a.add 2) (.int .i64 x)).setCell (a.add 3) (.int .i64 r.at_)) a s bs (qW bs r).2∧Ext (·=a.block) w0 (((w4.setCell (a.add 1) (.int .i64 r.at_)).setCell (a.add 2) (.int .i64 x)).setCell (a.add 3) (.int .i64 r.at_))))) ?_).mono ?_
   ·unfold m_Q3
    refine ⟨some a,E3.cell hp1 id,?_⟩
    refine (c_num a s bs r.at_ r.err r.spot w3 h3 hat).mono ?_
    rintro e w4 (⟨n,k,hn,rfl,hlt,hle,hR,hE⟩ | ⟨x,at',hn,rfl,hR,hE⟩)
    ·refine .inl ⟨_,rfl,?_⟩
     have hB4:Box w4 p2 [.int .u64 0] 23:=(B2.pure E3).ext hE (fun e=>by have:=E1.size;omega)
     refine ⟨hB4.canW0 (by simp),?_⟩
     rintro w5 rfl
     have hx:Ext (·=p2.block) w4 (w4.setCell p2 (.int .u64 (n:Int))):=Ext.setCell _ _
     have hrn:qW bs r=(n,⟨r.at_+k,0,r.spot⟩):=by simp [qW,he,hn]
     rw [hrn]
     refine .inl ⟨rfl,jCV hB4,?_,((Ext.pure (E2.trans E3)).trans hE).trans' hx (fun i hi e=>by have:=E1.size;omega)⟩
     have:=hR.ext hx (fun b hb e=>by have:=hS b hb;have:=E1.size;omega) (fun e=>by have:=E1.size;omega)
     rw [he] at this
     exact this
    ·refine .inr ⟨_,rfl,.inr ⟨x,rfl,?_⟩⟩
     have hrn:qW bs r=(0,⟨r.at_,x,r.at_⟩):=by simp [qW,he,hn]
     have hB4:Box w4 p2 [.int .u64 0] 23:=(B2.pure E3).ext hE (fun e=>by have:=E1.size;omega)
     obtain ⟨c1,c2,c3,hR'⟩:=hR.gives r.at_ x
     rw [hrn]
     exact ⟨hE.cell hpc (fun e=>by have:=E2.size;omega),hE.cell hpfc (fun e=>by have:=E2.size;omega),c1,c2,c3,hB4.ext jAJ (fun e=>by have:=E1.size;omega),hR',((Ext.pure (E2.trans E3)).trans hE).trans jAJ⟩
   ·rintro e w4 (⟨rfl,h⟩ | ⟨ch,rfl,h⟩)
    ·rcases h with ⟨_,h⟩ | ⟨_,h,_⟩
     ·exact .inl ⟨rfl,h⟩
     ·cases h
    ·rcases h with ⟨h,_⟩ | ⟨x,h1,h⟩
     ·cases h
     ·cases h1;exact .inr ⟨x,rfl,h⟩
  ·rintro e w3 ⟨rfl,hK⟩
   exact ⟨rfl,fin w3 hK⟩
 ·refine (jCU a _ r.err w2 h2.errC (by omega)).mono ?_
  rintro e w3 ⟨rfl,E3⟩
  have hrn:qW bs r=(0,r):=by simp [qW,he]
  refine ⟨rfl,fin w3 ?_⟩
  rw [hrn]
  exact ⟨B2.pure E3,h2.pure E3,Ext.pure (E2.trans E3)⟩
theorem c_Byte {S:NP} (a:Addr) (s:Sl) (bs:List UInt8) (r:Rd) (w0:World) (h:RdS S w0 a s bs r) (hat:r.at_≤bs.length) (hS:∀b,S b→b<w0.heap.size) :
  Calls prog 232 #[.pointer (some a)] w0 (fun e w'=>∃x:Int,e=.returned (.int .u8 x)∧x=((uD bs r).1:Int)∧RdS S w' a s bs (uD bs r).2∧Ext (·=a.block) w0 w'):=by
 refine w_D3 (some a) w0 (fun x w'=>x=((uD bs r).1:Int)∧RdS S w' a s bs (uD bs r).2∧Ext (·=a.block) w0 w') ?_
 unfold m_D3
 intro p1 w1 n1 p2 w2 n2
 have E1:Pure w0 w1:=Ext.new n1
 have E2:Pure w0 w2:=E1.trans (Ext.new n2)
 have hp1:w2.cell? p1=some (.pointer (some a)):=(Ext.new (F:=None) n2).cell (Box.of_newA n1).cell0 id
 have b1:=n1.at_size
 have b2:=n2.at_size
 have b12:p1.block≠p2.block:=by have:=World.block_lt_of_cell? w1 p1 (Box.of_newA n1).cell0;omega
 have ha0:=World.block_lt_of_cell? w0 a h.box.cell0
 have B2:=Box.of_newA n2
 have h2:=h.pure E2
 refine ⟨some a,hp1,?_⟩
 have fin:∀w3,(Box w3 p2 [.int .u8 ((uD bs r).1:Int)] 5∧RdS S w3 a s bs (uD bs r).2∧Ext (·=a.block) w0 w3)→∃v2:Int,w3.cell? p2=some (.int .u8 v2)∧CanW w3 p2∧∀w4:World,w4=w3.setCell p2 (.int .u8 v2)→∃qV1:Int,w4.cell? p2=some (.int .u8 qV1)∧(qV1=((uD bs r).1:Int)∧RdS S w4 a s bs (uD bs r).2∧Ext (·=a.block) w0 w4):=by
  rintro w3 ⟨hB,hR,hE⟩;refine ⟨_,hB.cell0,hB.canW0 (by simp),?_⟩;rintro w4 rfl;have hx:Ext (·=p2.block) w3 (w3.setCell p2 (.int .u8 ((uD bs r).1:Int))):=Ext.setCell _ _;exact ⟨_,(jCV hB).cell0,rfl,hR.ext hx (fun b hb e=>by have:=hS b hb;have:=E1.size;omega) (fun e=>by have:=E1.size;omega),hE.trans' hx (fun i hi e=>by have:=E1.size;omega)⟩
 by_cases he:r.err=0
 ·refine (jMD a 292 _ r.at_ w2 (fun w3=>Box w3 p2 [.int .u8 ((uD bs r).1:Int)] 5∧RdS S w3 a s bs (uD bs r).2∧Ext (·=a.block) w0 w3) h2.atC (by have:=h2.errC;rw [he] at this;exact this) call292 ?_).mono ?_
  ·intro w3 p pf E3 hp hpf hpc hpfc
   have h3:=h2.pure E3
   refine (w_R3 p1 p2 w3 (fun o w4=>(o=none∧(Box w4 p2 [.int .u8 ((uD bs r).1:Int)] 5∧RdS S w4 a s bs (uD bs r).2∧Ext (·=a.block) w0 w4))∨(∃x,o=some (jUD x)∧w4.cell? p=some (.pointer (some a))∧w4.cell? pf=some (.int .i64 r.at_)∧CanW w4 (a.add 1)∧CanW w4 (a.add 2)∧CanW w4 (a.add 3) ∧
    (Box (((w4.setCell (a.add 1) (.int .i64 r.at_)).setCell (a.add 2) (.int .i64 x)).setCell (a.add 3) (.int .i64 r.at_)) p2 [.int .u8 ((uD bs r).1:Int)] 5∧RdS S (((w4.setCell (a.add 1) (.int .i64 r.at_)).setCell (a.add 2) (.int .i64 x)).setCell (a.add 3) (.int .i64 r.at_)) a s bs (uD bs r).2∧Ext (·=a.block) w0 (((w4.setCell (a.add 1) (.int .i64 r.at_)).setCell (a.add 2) (.int .i64 x)).setCell (a.add 3) (.int .i64 r.at_))))) ?_).mono ?_
   ·unfold m_R3
    refine ⟨some a,E3.cell hp1 id,?_⟩
    refine (jUW a s bs r.at_ r.err r.spot w3 h3 hat).mono ?_
    rintro e w4 (⟨hlt,rfl,hR,hE⟩ | ⟨heq,rfl,hR,hE⟩)
    ·refine .inl ⟨_,rfl,?_⟩
     have hB4:Box w4 p2 [.int .u8 0] 5:=(B2.pure E3).ext hE (fun e=>by have:=E1.size;omega)
     refine ⟨hB4.canW0 (by simp),?_⟩
     rintro w5 rfl
     have hx:Ext (·=p2.block) w4 (w4.setCell p2 (.int .u8 (bs[r.at_].toNat:Int))):=Ext.setCell _ _
     have hrn:uD bs r=(bs[r.at_].toNat,⟨r.at_+1,0,r.spot⟩):=by simp [uD,he,hlt]
     rw [hrn]
     refine .inl ⟨rfl,jCV hB4,?_,((Ext.pure (E2.trans E3)).trans hE).trans' hx (fun i hi e=>by have:=E1.size;omega)⟩
     have:=hR.ext hx (fun b hb e=>by have:=hS b hb;have:=E1.size;omega) (fun e=>by have:=E1.size;omega)
     rw [he] at this
     exact this
    ·refine .inr ⟨_,rfl,.inr ⟨3,rfl,?_⟩⟩
     have hrn:uD bs r=(0,⟨r.at_,3,r.at_⟩):=by simp [uD,he,heq]
     have hB4:Box w4 p2 [.int .u8 0] 5:=(B2.pure E3).ext hE (fun e=>by have:=E1.size;omega)
     obtain ⟨c1,c2,c3,hR'⟩:=hR.gives r.at_ 3
     rw [hrn]
     exact ⟨hE.cell hpc (fun e=>by have:=E2.size;omega),hE.cell hpfc (fun e=>by have:=E2.size;omega),c1,c2,c3,hB4.ext jAJ (fun e=>by have:=E1.size;omega),hR',((Ext.pure (E2.trans E3)).trans hE).trans jAJ⟩
   ·rintro e w4 (⟨rfl,h⟩ | ⟨ch,rfl,h⟩)
    ·rcases h with ⟨_,h⟩ | ⟨_,h,_⟩
     ·exact .inl ⟨rfl,h⟩
     ·cases h
    ·rcases h with ⟨h,_⟩ | ⟨x,h1,h⟩
     ·cases h
     ·cases h1;exact .inr ⟨x,rfl,h⟩
  ·rintro e w3 ⟨rfl,hK⟩
   exact ⟨rfl,fin w3 hK⟩
 ·refine (jCU a _ r.err w2 h2.errC (by omega)).mono ?_
  rintro e w3 ⟨rfl,E3⟩
  have hrn:uD bs r=(0,r):=by simp [uD,he]
  refine ⟨rfl,fin w3 ?_⟩
  rw [hrn]
  exact ⟨B2.pure E3,h2.pure E3,Ext.pure (E2.trans E3)⟩
theorem c_Text {S:NP} (a:Addr) (s:Sl) (bs:List UInt8) (most:Nat) (r:Rd) (w0:World) (h:RdS S w0 a s bs r) (hat:r.at_≤bs.length) (hS:∀b,S b→b<w0.heap.size) (hm:most≤1000000000) :
  Calls prog 227 #[.pointer (some a),.int .i64 (most:Int)] w0 (fun e w'=>∃x:ByteArray,e=.returned (.string x)∧x=⟨(qL bs most r).1.toArray⟩∧RdS S w' a s bs (qL bs most r).2∧Ext (·=a.block) w0 w'):=by
 refine w_M3 (some a) most w0 (fun x w'=>x=⟨(qL bs most r).1.toArray⟩∧RdS S w' a s bs (qL bs most r).2∧Ext (·=a.block) w0 w') ?_
 unfold m_M3
 intro p1 w1 n1 pm w1' nm p2 w2 n2
 have E1:Pure w0 w1:=Ext.new n1
 have E1':Pure w0 w1':=E1.trans (Ext.new nm)
 have E2:Pure w0 w2:=E1'.trans (Ext.new n2)
 have hp1':w1'.cell? p1=some (.pointer (some a)):=(Ext.new (F:=None) nm).cell (Box.of_newA n1).cell0 id
 have hp1:w2.cell? p1=some (.pointer (some a)):=(Ext.new (F:=None) n2).cell hp1' id
 have hpm:w2.cell? pm=some (.int .i64 (most:Int)):=(Ext.new (F:=None) n2).cell (Box.of_newA nm).cell0 id
 have b1:=n1.at_size
 have bm:=nm.at_size
 have b2:=n2.at_size
 have b12:p1.block≠p2.block:=by have:=World.block_lt_of_cell? w1' p1 hp1';omega
 have ha0:=World.block_lt_of_cell? w0 a h.box.cell0
 have B2:=Box.of_newA n2
 have h2:=h.pure E2
 have g1:w0.heap.size≤p2.block:=by have:=E1'.size;omega
 have g2:w0.heap.size≤p1.block:=by omega
 have g3:w0.heap.size≤pm.block:=by have:=E1.size;omega
 refine ⟨some a,hp1,?_⟩
 have fin:∀w3,(Box w3 p2 [.string ⟨(qL bs most r).1.toArray⟩] 9∧RdS S w3 a s bs (qL bs most r).2∧Ext (·=a.block) w0 w3)→∃v2:ByteArray,w3.cell? p2=some (.string v2)∧CanW w3 p2∧∀w4:World,w4=w3.setCell p2 (.string v2)→∃qV1:ByteArray,w4.cell? p2=some (.string qV1)∧(qV1=⟨(qL bs most r).1.toArray⟩∧RdS S w4 a s bs (qL bs most r).2∧Ext (·=a.block) w0 w4):=by
  rintro w3 ⟨hB,hR,hE⟩;refine ⟨_,hB.cell0,hB.canW0 (by simp),?_⟩;rintro w4 rfl;have hx:Ext (·=p2.block) w3 (w3.setCell p2 (.string ⟨(qL bs most r).1.toArray⟩)):=Ext.setCell _ _;exact ⟨_,(jCV hB).cell0,rfl,hR.ext hx (fun b hb e=>by have:=hS b hb;omega) (fun e=>by omega),hE.trans' hx (fun i hi e=>by omega)⟩
 by_cases he:r.err=0
 ·refine (jMD a 291 _ r.at_ w2 (fun w3=>Box w3 p2 [.string ⟨(qL bs most r).1.toArray⟩] 9∧RdS S w3 a s bs (qL bs most r).2∧Ext (·=a.block) w0 w3) h2.atC (by have:=h2.errC;rw [he] at this;exact this) call291 ?_).mono ?_
  ·intro w3 p pf E3 hp hpf hpc hpfc
   have h3:=h2.pure E3
   refine (w_Q p1 pm p2 w3 (fun o w4=>(o=none∧(Box w4 p2 [.string ⟨(qL bs most r).1.toArray⟩] 9∧RdS S w4 a s bs (qL bs most r).2∧Ext (·=a.block) w0 w4))∨(∃x,o=some (jUD x)∧w4.cell? p=some (.pointer (some a))∧w4.cell? pf=some (.int .i64 r.at_)∧CanW w4 (a.add 1)∧CanW w4 (a.add 2)∧CanW w4 (a.add 3) ∧
    (Box (((w4.setCell (a.add 1) (.int .i64 r.at_)).setCell (a.add 2) (.int .i64 x)).setCell (a.add 3) (.int .i64 r.at_)) p2 [.string ⟨(qL bs most r).1.toArray⟩] 9∧RdS S (((w4.setCell (a.add 1) (.int .i64 r.at_)).setCell (a.add 2) (.int .i64 x)).setCell (a.add 3) (.int .i64 r.at_)) a s bs (qL bs most r).2∧Ext (·=a.block) w0 (((w4.setCell (a.add 1) (.int .i64 r.at_)).setCell (a.add 2) (.int .i64 x)).setCell (a.add 3) (.int .i64 r.at_))))) ?_).mono ?_
   ·unfold m_Q
    refine ⟨some a,E3.cell hp1 id,?_⟩
    refine (c_num a s bs r.at_ r.err r.spot w3 h3 hat).mono ?_
    have give:∀(x:Nat) (at':Int) (w4:World),qL bs most r=([],⟨r.at_,x,r.at_⟩)→RdAt S w4 a s bs at' r.err r.spot→Ext (·=a.block) w3 w4→(∃y,some (jUD x)=some (jUD y)∧w4.cell? p=some (.pointer (some a))∧w4.cell? pf=some (.int .i64 r.at_)∧CanW w4 (a.add 1)∧CanW w4 (a.add 2)∧CanW w4 (a.add 3) ∧
     (Box (((w4.setCell (a.add 1) (.int .i64 r.at_)).setCell (a.add 2) (.int .i64 y)).setCell (a.add 3) (.int .i64 r.at_)) p2 [.string ⟨(qL bs most r).1.toArray⟩] 9∧RdS S (((w4.setCell (a.add 1) (.int .i64 r.at_)).setCell (a.add 2) (.int .i64 y)).setCell (a.add 3) (.int .i64 r.at_)) a s bs (qL bs most r).2∧Ext (·=a.block) w0 (((w4.setCell (a.add 1) (.int .i64 r.at_)).setCell (a.add 2) (.int .i64 y)).setCell (a.add 3) (.int .i64 r.at_)))):=by
     intro x at' w4 hrn hR hE
     have hB4:Box w4 p2 [.string ⟨#[]⟩] 9:=(B2.pure E3).ext hE (fun e=>by omega)
     obtain ⟨c1,c2,c3,hR'⟩:=hR.gives r.at_ x
     rw [hrn]
     exact ⟨x,rfl,hE.cell hpc (fun e=>by have:=E2.size;omega),hE.cell hpfc (fun e=>by have:=E2.size;omega),c1,c2,c3,hB4.ext jAJ (fun e=>by omega),hR',((Ext.pure (E2.trans E3)).trans hE).trans jAJ⟩
    rintro e w4 (⟨n,k,hn,rfl,hlt,hle,hR,hE⟩ | ⟨x,at',hn,rfl,hR,hE⟩)
    ·refine .inl ⟨_,rfl,hE.kept (fun b hb=>hb.elim),_,hE.cell (E3.cell hpm id) (fun e=>by omega),fun hb=>?_,fun _=>⟨_,hE.cell (E3.cell hpm id) (fun e=>by omega),?_⟩⟩
     ·have:=of_decide_eq_true hb;omega
     ·rw [yM (by omega)]
      refine ⟨fun hb=>?_,fun hb=>?_⟩
      ·have hlt':most<n:=by have:=of_decide_eq_true hb;omega
       exact .inr (give 1 _ w4 (by simp [qL,he,hn,hlt']) hR hE)
      ·have hlt':¬ most<n:=by have:=of_decide_eq_false hb;omega
       unfold m_Q_j2
       intro w5 hs5
       have E5:=hs5.ext
       have hR5:=hR.pure E5
       have hp5:w5.cell? p1=some (.pointer (some a)):=E5.cell (hE.cell (E3.cell hp1 id) (fun e=>by omega)) id
       have hl:s.len=bs.length:=by rw [h.lst.len,qO]
       have hsm:=h.small
       have hE5:Ext (·=a.block) w3 w5:=hE.thenPure E5
       refine ⟨_,hp5,a,rfl,s,hR5.box.cell0,_,hp5,a,rfl,_,hR5.atC,?_⟩
       have hw1:IntKind.u64.wrap (IntKind.i64.wrap ((s.len:Int) - ((r.at_+k:Nat):Int)))=((bs.length - (r.at_+k):Nat):Int):=by
        rw [hl,IntWalk.i64_in _ (by omega),show ((bs.length:Int) - ((r.at_+k:Nat):Int))=((bs.length - (r.at_+k):Nat):Int) by omega,yM (by omega)]
       rw [hw1]
       refine ⟨fun hb2=>?_,fun hb2=>?_⟩
       ·have hg:bs.length<r.at_+k+n:=by have:=of_decide_eq_true hb2;omega
        exact .inr (give 3 _ w5 (by simp [qL,he,hn,hlt',hg]) hR5 hE5)
       ·have hg:¬ bs.length<r.at_+k+n:=by have:=of_decide_eq_false hb2;omega
        have hrn:qL bs most r=((bs.drop (r.at_+k)).take n,⟨r.at_+k+n,0,r.spot⟩):=by simp [qL,he,hn,hlt',hg]
        unfold m_Q_j3
        refine ⟨fun _=>True,trivial,?_⟩
        intro w6 hw6
        have E6:Pure w5 w6:=by rw [hw6];exact Ext.drew _
        have hR6:=hR5.pure E6
        have hp6:=E6.cell hp5 id
        have hn1:IntKind.i64.wrap (n:Int)=(n:Int):=IntWalk.i64_in _ (by omega)
        have hn2:IntKind.i64.wrap (((r.at_+k:Nat):Int)+(n:Int))=((r.at_+k+n:Nat):Int):=by rw [IntWalk.i64_in _ (by omega)];simp
        obtain ⟨s1,hr1,hL1⟩:=hR6.lst.sub (k:=.i64) (lo:=r.at_+k) (n:=n) jFW h.room (by rw [qO];omega)
        have hB6:Box w6 p2 [.string ⟨#[]⟩] 9:=((B2.pure E3).ext hE5 (fun e=>by omega)).pure E6
        have hL2:Lst S w6 1 s1 (byr ((bs.drop (r.at_+k)).take n)):=by
         have e:(List.drop (r.at_+k) (byr bs)).take n=byr ((bs.drop (r.at_+k)).take n):=by simp [byr,List.map_take,List.map_drop]
         rw [← e];exact hL1
        refine ⟨_,hp6,a,rfl,s,hR6.box.cell0,_,hp6,a,rfl,_,hR6.atC,_,hp6,a,rfl,_,hR6.atC,s1,by rw [hn1,hn2];exact hr1,_,jQH underlying65 underlying5 underlying9 hL2,hB6.canW0 (by simp),id,?_⟩
        rintro w7 rfl
        have hx:Ext (·=p2.block) w6 (w6.setCell p2 (.string ⟨((bs.drop (r.at_+k)).take n).toArray⟩)):=Ext.setCell _ _
        have hR7:=hR6.ext hx (fun b hb e=>by have:=hS b hb;omega) (fun e=>by omega)
        refine ⟨_,hx.cell hp6 (fun e=>b12 e),a,rfl,_,hR7.atC,a,rfl,hR7.box.canW (i:=1) (by simp),id,?_⟩
        rintro w8 rfl
        rw [hn1,hn2,hrn]
        have hR8:=hR7.setAt ((r.at_+k+n:Nat):Int)
        rw [he] at hR8
        exact .inl ⟨rfl,(jCV hB6).ext yB (fun e=>by omega),hR8,((((Ext.pure (E2.trans E3)).trans hE5).thenPure E6).trans' hx (fun i hi e=>by omega)).trans yB⟩
    ·exact .inr ⟨_,rfl,.inr (give x at' w4 (by simp [qL,he,hn]) hR hE)⟩
   ·rintro e w4 (⟨rfl,h⟩ | ⟨ch,rfl,h⟩)
    ·rcases h with ⟨_,h⟩ | ⟨_,h,_⟩
     ·exact .inl ⟨rfl,h⟩
     ·cases h
    ·rcases h with ⟨h,_⟩ | ⟨x,h1,h⟩
     ·cases h
     ·cases h1;exact .inr ⟨x,rfl,h⟩
  ·rintro e w3 ⟨rfl,hK⟩
   exact ⟨rfl,fin w3 hK⟩
 ·refine (jCU a _ r.err w2 h2.errC (by omega)).mono ?_
  rintro e w3 ⟨rfl,E3⟩
  have hrn:qL bs most r=([],r):=by simp [qL,he]
  refine ⟨rfl,fin w3 ?_⟩
  rw [hrn]
  exact ⟨B2.pure E3,h2.pure E3,Ext.pure (E2.trans E3)⟩
theorem jTC {w:World} {e:TypeId} {sz:Nat} {s:Sl} {rs:List (List Value)} (h:Rws w e sz s rs):s.len≤s.cap:=by
 rcases h.own with ⟨rfl,_⟩ | ⟨g,cur,_,_,hc,_⟩
 ·exact Nat.le_refl _
 ·rw [h.len];exact hc
theorem c_cNew {S:NP} (s:Sl) (bs:List UInt8) (w0:World) (hs:Lst S w0 1 s (byr bs)) (hz:s.a=none→s=Sl.nil) (hn:bs.length≤100000000000) :
  Calls prog 158 #[s.v] w0 (fun e w'=>∃x:Option Addr,e=.returned (.pointer x)∧∃a s',x=some a∧RdS s'.blk w' a s' bs ⟨0,0,0⟩∧Pure w0 w'∧w0.heap.size≤a.block∧(∀b,s'.blk b→w0.heap.size≤b∧b<w'.heap.size)):=by
 refine w_Z2 _ w0 (fun x w'=>∃a s',x=some a∧RdS s'.blk w' a s' bs ⟨0,0,0⟩∧Pure w0 w'∧w0.heap.size≤a.block∧(∀b,s'.blk b→w0.heap.size≤b∧b<w'.heap.size)) ?_
 unfold m_Z2
 refine (jSJ s bs w0 hs hz hn).mono ?_
 rintro _ w1 ⟨r1,rfl,hR⟩
 refine ⟨r1,rfl,fun p2 w2 n2=>⟨p2,r1,rfl,?_,hR.pure.trans (Ext.new n2),by rw [n2.at_size];exact hR.pure.size,fun b hb=>⟨hR.own b hb,?_⟩⟩⟩
 ·have hb1:∀b,r1.blk b→b<w1.heap.size:=fun b hb=>hR.rows.lt hb
  exact ⟨Box.of_newA n2,(hR.rows.pure (Ext.new n2)).lst,fun b hb e=>by have:=hb1 b hb;have:=n2.at_size;omega,hn,jTC hR.rows⟩
 ·exact (hR.rows.pure (Ext.new n2)).lt hb
theorem c_Left {S:NP} (a:Addr) (s:Sl) (bs:List UInt8) (r:Rd) (w0:World) (h:RdS S w0 a s bs r) (hat:r.at_≤bs.length) :
  Calls prog 160 #[.pointer (some a)] w0 (fun e w'=>∃x:Int,e=.returned (.int .i64 x)∧x=((bs.length - r.at_:Nat):Int)∧Pure w0 w'):=by
 refine w_B3 (some a) w0 (fun x w'=>x=((bs.length - r.at_:Nat):Int)∧Pure w0 w') ?_
 unfold m_B3
 refine ⟨fun hb=>(by cases hb),fun _=>⟨a,rfl,fun w1 hs=>?_⟩⟩
 have h1:=h.pure hs.first
 have hl:s.len=bs.length:=by rw [h.lst.len,qO]
 refine ⟨s,h1.box.cell0,a,rfl,_,h1.atC,?_,hs.first⟩
 rw [hl,IntWalk.i64_in _ (by have:=h.small;omega)];omega
theorem c_At {S:NP} (a:Addr) (s:Sl) (bs:List UInt8) (r:Rd) (w0:World) (h:RdS S w0 a s bs r) :
  Calls prog 161 #[.pointer (some a)] w0 (fun e w'=>∃x:Int,e=.returned (.int .i64 x)∧x=(r.at_:Int)∧w'=w0):=by
 refine w_C3 (some a) w0 (fun x w'=>x=(r.at_:Int)∧w'=w0) ?_
 unfold m_C3
 exact ⟨fun hb=>(by cases hb),fun _=>⟨a,rfl,_,h.atC,rfl,rfl⟩⟩
theorem c_Why {S:NP} (a:Addr) (s:Sl) (bs:List UInt8) (r:Rd) (w0:World) (h:RdS S w0 a s bs r) :
  Calls prog 233 #[.pointer (some a)] w0 (fun e w'=>∃x y:Int,e=.returned (.tuple #[.int .i64 x,.int .i64 y])∧x=(r.err:Int)∧y=(r.spot:Int)∧Pure w0 w'):=by
 refine w_E3 (some a) w0 (fun x y w'=>x=(r.err:Int)∧y=(r.spot:Int)∧Pure w0 w') ?_
 unfold m_E3
 refine ⟨fun hb=>(by cases hb),fun _=>⟨a,rfl,fun w1 hs=>?_⟩⟩
 have h1:=h.pure hs.first
 exact ⟨_,h1.errC,a,rfl,_,h1.box.cell (i:=3) rfl,rfl,rfl,hs.first⟩
end Go.Proofs
end
section
open Go Go.SE
namespace Go.Proofs
attribute [local irreducible] Calls CallsD
theorem RetO.after {w w1 w2:World} {e:TypeId} {sz:Nat} {rs:List (List Value)} {s:Sl} (E:Pure w w1) (h:RetO w1 e sz rs s w2):RetO w e sz rs s w2 :=
 ⟨h.rows,fun b hb=>Nat.le_trans E.size (h.own b hb),E.trans h.pure⟩
section
variable {S:NP} (s:Sl) (bs:List UInt8) (k f t x a b:Int) (y:ByteArray) (m:Option Nat) (w0:World) (hs:Lst S w0 1 s (byr bs)) (hz:s.a=none→s=Sl.nil) (hn:bs.length≤10000000000)
include hs hz hn
end
end Go.Proofs
end
section
open Go Go.SE
namespace Go.Proofs
open Tryz
attribute [local irreducible] Calls CallsD
section
variable {S:NP} (a q:Addr) (s:Sl) (bs:List UInt8) (r:Rd) (cells:List Value) (w0:World) (h:RdS S w0 a s bs r) (hat:r.at_≤bs.length) (hS:∀b,S b→b<w0.heap.size) (hq:Box w0 q cells 303) (hl:cells.length=12) (haq:a.block≠q.block) (hSq:∀b,S b→b≠q.block)
include h hat hS hq hl haq hSq
theorem jSH:Calls prog 218 #[.pointer (some a),.pointer (some q)] w0 (fun e w'=>e=.returned (.tuple #[])∧RdS S w' a s bs (qW bs r).2∧Box w' q (cells.set 7 (.int .u64 ((qW bs r).1:Int))) 303∧Ext (fun b=>b=a.block∨b=q.block) w0 w'):=by
 refine w_J3 (some a) (some q) w0 (fun w'=>RdS S w' a s bs (qW bs r).2∧Box w' q (cells.set 7 (.int .u64 ((qW bs r).1:Int))) 303∧Ext (fun b=>b=a.block∨b=q.block) w0 w') ?_;unfold m_J3;refine (jKK a s bs r w0 h hat hS).mono ?_;rintro e w1 ⟨x,rfl,rfl,hR,hE⟩;have hq1:=hq.ext hE (fun e=>haq e.symm);refine ⟨_,rfl,q,rfl,hq1.canW (i:=7) (by omega),?_⟩;rintro w2 rfl;have hx:Ext (·=q.block) w1 (w1.setCell (q.add 7) (.int .u64 ((qW bs r).1:Int))):=yB;exact ⟨hR.ext hx (fun b hb e=>hSq b hb e) haq,hq1.set 7 _,(hE.mono (fun _ _ e=>.inl e)).trans (hx.mono (fun _ _ e=>.inr e))⟩
theorem jWK:Calls prog 221 #[.pointer (some a),.pointer (some q)] w0 (fun e w'=>e=.returned (.tuple #[])∧RdS S w' a s bs (qW bs r).2∧Box w' q (cells.set 8 (.int .u64 ((qW bs r).1:Int))) 303∧Ext (fun b=>b=a.block∨b=q.block) w0 w'):=by
 refine w_K3 (some a) (some q) w0 (fun w'=>RdS S w' a s bs (qW bs r).2∧Box w' q (cells.set 8 (.int .u64 ((qW bs r).1:Int))) 303∧Ext (fun b=>b=a.block∨b=q.block) w0 w') ?_;unfold m_K3;refine (jKK a s bs r w0 h hat hS).mono ?_;rintro e w1 ⟨x,rfl,rfl,hR,hE⟩;have hq1:=hq.ext hE (fun e=>haq e.symm);refine ⟨_,rfl,q,rfl,hq1.canW (i:=8) (by omega),?_⟩;rintro w2 rfl;have hx:Ext (·=q.block) w1 (w1.setCell (q.add 8) (.int .u64 ((qW bs r).1:Int))):=yB;exact ⟨hR.ext hx (fun b hb e=>hSq b hb e) haq,hq1.set 8 _,(hE.mono (fun _ _ e=>.inl e)).trans (hx.mono (fun _ _ e=>.inr e))⟩
theorem jUN:Calls prog 223 #[.pointer (some a),.pointer (some q)] w0 (fun e w'=>e=.returned (.tuple #[])∧RdS S w' a s bs (qW bs r).2∧Box w' q (cells.set 3 (.int .u64 ((qW bs r).1:Int))) 303∧Ext (fun b=>b=a.block∨b=q.block) w0 w'):=by
 refine w_L3 (some a) (some q) w0 (fun w'=>RdS S w' a s bs (qW bs r).2∧Box w' q (cells.set 3 (.int .u64 ((qW bs r).1:Int))) 303∧Ext (fun b=>b=a.block∨b=q.block) w0 w') ?_;unfold m_L3;refine (jKK a s bs r w0 h hat hS).mono ?_;rintro e w1 ⟨x,rfl,rfl,hR,hE⟩;have hq1:=hq.ext hE (fun e=>haq e.symm);refine ⟨_,rfl,q,rfl,hq1.canW (i:=3) (by omega),?_⟩;rintro w2 rfl;have hx:Ext (·=q.block) w1 (w1.setCell (q.add 3) (.int .u64 ((qW bs r).1:Int))):=yB;exact ⟨hR.ext hx (fun b hb e=>hSq b hb e) haq,hq1.set 3 _,(hE.mono (fun _ _ e=>.inl e)).trans (hx.mono (fun _ _ e=>.inr e))⟩
theorem jSG:Calls prog 226 #[.pointer (some a),.pointer (some q)] w0 (fun e w'=>e=.returned (.tuple #[])∧RdS S w' a s bs (qL bs 64 r).2∧Box w' q (cells.set 4 (.string ⟨(qL bs 64 r).1.toArray⟩)) 303∧Ext (fun b=>b=a.block∨b=q.block) w0 w'):=by
 refine w_N3 (some a) (some q) w0 (fun w'=>RdS S w' a s bs (qL bs 64 r).2∧Box w' q (cells.set 4 (.string ⟨(qL bs 64 r).1.toArray⟩)) 303∧Ext (fun b=>b=a.block∨b=q.block) w0 w') ?_;unfold m_N3;refine (c_Text a s bs 64 r w0 h hat hS (by omega)).mono ?_;rintro e w1 ⟨x,rfl,rfl,hR,hE⟩;have hq1:=hq.ext hE (fun e=>haq e.symm);refine ⟨_,rfl,q,rfl,hq1.canW (i:=4) (by omega),?_⟩;rintro w2 rfl;have hx:Ext (·=q.block) w1 (w1.setCell (q.add 4) (.string ⟨(qL bs 64 r).1.toArray⟩)):=yB;exact ⟨hR.ext hx (fun b hb e=>hSq b hb e) haq,hq1.set 4 _,(hE.mono (fun _ _ e=>.inl e)).trans (hx.mono (fun _ _ e=>.inr e))⟩
theorem c_getA:Calls prog 229 #[.pointer (some a),.pointer (some q)] w0 (fun e w'=>e=.returned (.tuple #[])∧RdS S w' a s bs (qW bs r).2∧Box w' q ((cells.set 9 (.int .u64 ((qW bs r).1:Int))).set 11 (.int .i64 1)) 303∧Ext (fun b=>b=a.block∨b=q.block) w0 w'):=by
 refine w_O3 (some a) (some q) w0 (fun w'=>RdS S w' a s bs (qW bs r).2∧Box w' q ((cells.set 9 (.int .u64 ((qW bs r).1:Int))).set 11 (.int .i64 1)) 303∧Ext (fun b=>b=a.block∨b=q.block) w0 w') ?_;unfold m_O3;refine (jKK a s bs r w0 h hat hS).mono ?_;rintro e w1 ⟨x,rfl,rfl,hR,hE⟩;have hq1:=hq.ext hE (fun e=>haq e.symm);refine ⟨_,rfl,q,rfl,hq1.canW (i:=9) (by omega),?_⟩;rintro w2 rfl;have hx:Ext (·=q.block) w1 ((w1.setCell (q.add 9) (.int .u64 ((qW bs r).1:Int))).setCell (q.add 11) (.int .i64 1)):=yB.trans yB;have hq2:=hq1.set 9 (.int .u64 ((qW bs r).1:Int));refine ⟨q,rfl,hq2.canW (i:=11) (by rw [List.length_set];omega),?_⟩;rintro w3 rfl;exact ⟨hR.ext hx (fun b hb e=>hSq b hb e) haq,hq2.set 11 _,(hE.mono (fun _ _ e=>.inl e)).trans (hx.mono (fun _ _ e=>.inr e))⟩
theorem c_getB:Calls prog 231 #[.pointer (some a),.pointer (some q)] w0 (fun e w'=>e=.returned (.tuple #[])∧RdS S w' a s bs (qW bs r).2∧Box w' q ((cells.set 10 (.int .u64 ((qW bs r).1:Int))).set 11 (.int .i64 2)) 303∧Ext (fun b=>b=a.block∨b=q.block) w0 w'):=by
 refine w_P3 (some a) (some q) w0 (fun w'=>RdS S w' a s bs (qW bs r).2∧Box w' q ((cells.set 10 (.int .u64 ((qW bs r).1:Int))).set 11 (.int .i64 2)) 303∧Ext (fun b=>b=a.block∨b=q.block) w0 w') ?_;unfold m_P3;refine (jKK a s bs r w0 h hat hS).mono ?_;rintro e w1 ⟨x,rfl,rfl,hR,hE⟩;have hq1:=hq.ext hE (fun e=>haq e.symm);refine ⟨_,rfl,q,rfl,hq1.canW (i:=10) (by omega),?_⟩;rintro w2 rfl;have hx:Ext (·=q.block) w1 ((w1.setCell (q.add 10) (.int .u64 ((qW bs r).1:Int))).setCell (q.add 11) (.int .i64 2)):=yB.trans yB;have hq2:=hq1.set 10 (.int .u64 ((qW bs r).1:Int));refine ⟨q,rfl,hq2.canW (i:=11) (by rw [List.length_set];omega),?_⟩;rintro w3 rfl;exact ⟨hR.ext hx (fun b hb e=>hSq b hb e) haq,hq2.set 11 _,(hE.mono (fun _ _ e=>.inl e)).trans (hx.mono (fun _ _ e=>.inr e))⟩
end
end Go.Proofs
end
section
namespace Go.Sp
structure Node where
 kind:Int
 frm:Int
 to:Int
 num:Int
 text:ByteArray
 a:Int
 b:Int
deriving DecidableEq
structure Shape where
 frm:Bool
 to:Bool
 num:Bool
 text:Bool
 kids:Int
deriving DecidableEq
def noShape:Shape:=⟨false,false,false,false,0⟩
def shapeOf (k:Int):Shape :=
 if k=1 then ⟨true,false,false,false,0⟩ else if k=2 then ⟨false,false,true,false,0⟩ else if k=3 then ⟨false,false,false,true,0⟩
 else if k=4 then ⟨false,false,false,false,2⟩ else if k=5 then ⟨false,false,false,false,1⟩ else if k=6 then ⟨true,false,false,false,0⟩
 else if k=7 then ⟨true,false,false,false,1⟩ else if k=8 then ⟨true,true,false,false,1⟩ else if k=9 then ⟨true,true,false,false,1⟩ else noShape
def isKind (k:Int):Bool:=decide (1≤k) && decide (k≤9)
def lE (n:Int):Bool:=decide (0≤n) && decide (n<16)
def zZ (n:Node):Int :=
 let s:=shapeOf n.kind
 if !isKind n.kind || (!s.frm && n.frm != 0) || (!s.to && n.to != 0) || (!s.num && n.num != 0) || (!s.text && !decide (n.text=⟨#[]⟩)) then 53 else 0
def zY (s:Shape) (n:Node):Int :=
 if (s.frm && !lE n.frm) || (s.to && (!lE n.to || n.to == n.frm)) then 50 else if n.text.size>64 then 1 else 0
structure Ent where
 node:Node
 size:Int
 depth:Int
deriving DecidableEq
abbrev Pool:=List Ent
def inP (L:Pool) (t:Int):Bool:=decide (1≤t) && decide (t≤L.length)
def get (L:Pool) (t:Int):Option Ent:=if inP L t then L[(t - 1).toNat]? else none
def sizeOf (L:Pool) (t:Int):Int:=((get L t).map (·.size)).getD 0
def depthOf (L:Pool) (t:Int):Int:=((get L t).map (·.depth)).getD 0
def jNC:Node:=⟨0,0,0,0,⟨#[]⟩,0,0⟩
def nodeOf (L:Pool) (t:Int):Node:=((get L t).map (·.node)).getD jNC
def zG (n:Node):List Int:=[n.a,n.b].take (shapeOf n.kind).kids.toNat
def check (L:Pool) (n:Node):Int×Int×Int :=
 let s:=shapeOf n.kind
 if zZ n≠0 then (0,0,zZ n)
 else if (decide (s.kids<1) && n.a != 0) || (decide (s.kids<2) && n.b != 0) then (0,0,53)
 else if zY s n≠0 then (0,0,zY s n)
 else if (zG n).any (fun t=>!inP L t) then (0,0,51)
 else
  let sz:=1+((zG n).map (sizeOf L)).sum
  let d:=(zG n).foldl (fun d t=>max d (depthOf L t)) 0+1
  if sz>4096∨d>64 then (0,0,52) else (sz,d,0)
def find (L:Pool) (n:Node):Option Nat:=L.findIdx? (fun e=>e.node=n)
def make (L:Pool) (n:Node):Int×Int×Pool :=
 let c:=check L n
 if c.2.2≠0 then (0,c.2.2,L)
 else match find L n with
  | some i=>(i+1,0,L)
  | none=>if 65536≤L.length then (0,6,L) else (L.length+1,0,L++[⟨n,c.1,c.2.1⟩])
structure Ok (L:Pool):Prop where
 few:L.length≤65536
 nodup:(L.map (·.node)).Nodup
 size:∀e∈L,1≤e.size∧e.size≤4096
 depth:∀e∈L,1≤e.depth∧e.depth≤64
theorem zX {L:Pool} {t:Int}:inP L t=true↔1≤t∧t≤L.length:=by simp [inP]
theorem jCE {L:Pool} {t:Int} (h:inP L t=true):∃e,get L t=some e∧e∈L∧∃hi:(t - 1).toNat<L.length,L[(t - 1).toNat]=e:=by
 obtain ⟨h1,h2⟩:=zX.1 h;have hi:(t - 1).toNat<L.length:=by omega
 exact ⟨L[(t - 1).toNat],by simp [get,h],List.getElem_mem hi,hi,rfl⟩
theorem uX {L:Pool} {t:Int} (h:inP L t=false):get L t=none:=by simp [get,h]
theorem Ok.sizeOf {L:Pool} (h:Ok L) (t:Int):0≤sizeOf L t∧sizeOf L t≤4096:=by
 cases ht:inP L t with
 | true=>obtain ⟨e,he,hm,_⟩:=jCE ht;have:=h.size e hm;simp [Sp.sizeOf,he];omega
 | false=>simp [Sp.sizeOf,uX ht]
theorem Ok.depthOf {L:Pool} (h:Ok L) (t:Int):0≤depthOf L t∧depthOf L t≤64:=by
 cases ht:inP L t with
 | true=>obtain ⟨e,he,hm,_⟩:=jCE ht;have:=h.depth e hm;simp [Sp.depthOf,he];omega
 | false=>simp [Sp.depthOf,uX ht]
theorem Ok.nil:Ok []:=⟨by simp,by simp,by simp,by simp⟩
theorem yL (k:Int):(shapeOf k).kids=0∨(shapeOf k).kids=1∨(shapeOf k).kids=2:=by
 unfold shapeOf noShape;repeat' split
 all_goals simp
end Go.Sp
end
section
namespace Go.Sp
inductive Tree where
 | mk (k f t u:Int) (x:ByteArray) (kids:List Tree)
def Tree.kids:Tree→List Tree | .mk _ _ _ _ _ ks=>ks
def Tree.node:Tree→Node | .mk k f t u x _=>⟨k,f,t,u,x,0,0⟩
theorem Tree.ind {P:Tree→Prop} (h:∀k f t u x (ks:List Tree),(∀i (hi:i<ks.length),P ks[i])→P (.mk k f t u x ks)) (t:Tree):P t:=by
 refine Tree.rec (motive_1:=P) (motive_2:=fun ks=>∀i (hi:i<ks.length),P ks[i]) ?_ ?_ ?_ t
 ·intro k f t u x ks ih;exact h _ _ _ _ _ _ ih
 ·intro i hi;simp at hi
 ·intro t ks ht hks i hi;cases i with
  | zero=>exact ht
  | succ i=>exact hks i (by simpa using hi)
def qT (n:Node) (len:Nat):Int :=
 let e:=if zZ n=0 then if (len:Int)≠(shapeOf n.kind).kids then 53 else 0 else zZ n
 if e=0 then zY (shapeOf n.kind) n else e
mutual
def qC (inside seen:Int):Tree→Int×Int
 | .mk k f t u x ks=>if 4096≤seen then (52,seen) else if 64≤inside then (52,seen) else vG (inside+1) (qT ⟨k,f,t,u,x,0,0⟩ ks.length) (seen+1) ks
def vG (inside e seen:Int):List Tree→Int×Int
 | []=>(e,seen)
 | t :: ts=>if e=0 then vG inside (qC inside seen t).1 (qC inside seen t).2 ts else (e,seen)
end
mutual
def grow (L:Pool):Tree→Int×Int×Pool
 | .mk k f t u x ks=>vB ⟨k,f,t,u,x,0,0⟩ 0 L ks
def vB (n:Node) (i:Nat) (L:Pool):List Tree→Int×Int×Pool
 | []=>make L n
 | t :: ts=>if (grow L t).2.1≠0 then (0,(grow L t).2.1,(grow L t).2.2) else vB (if i=0 then { n with a:=(grow L t).1 } else { n with b:=(grow L t).1 }) (i+1) (grow L t).2.2 ts
end
def of (L:Pool) (t:Tree):Int×Int×Pool :=
 if (qC 0 0 t).1≠0 then (0,(qC 0 0 t).1,L)
 else if (grow L t).2.1≠0 then (0,(grow L t).2.1,L) else ((grow L t).1,0,(grow L t).2.2)
theorem jGD (L:Pool) (n:Node):∃M,(make L n).2.2=L++M:=by
 unfold make;simp only;by_cases hc:(check L n).2.2=0
 ·simp only [hc];rw [if_neg (by simp)];split
  ·exact ⟨[],by simp⟩
  ·split
   ·exact ⟨[],by simp⟩
   ·exact ⟨_,rfl⟩
 ·rw [if_pos hc];exact ⟨[],by simp⟩
theorem jUH {L:Pool} {n:Node} (hok:Ok L) (h:(check L n).2.2=0):1≤(check L n).1∧(check L n).1≤4096∧1≤(check L n).2.1∧(check L n).2.1≤64:=by
 unfold check at h ⊢;simp only at h ⊢;by_cases h1:zZ n≠0
 ·rw [if_pos h1] at h;exact absurd h h1
 rw [if_neg h1] at h ⊢;split at h
 ·simp at h
 rename_i h2;rw [if_neg h2];by_cases h3:zY (shapeOf n.kind) n≠0
 ·rw [if_pos h3] at h;exact absurd h h3
 rw [if_neg h3] at h ⊢;split at h
 ·simp at h
 rename_i h4;rw [if_neg h4];split at h
 ·simp at h
 rename_i h5;rw [if_neg h5];have hs:∀l:List Int,0≤(l.map (sizeOf L)).sum:=by
  intro l;induction l with
  | nil=>simp
  | cons y l ih=>have:=hok.sizeOf y;simp only [List.map_cons,List.sum_cons];omega
 have hd:∀(l:List Int) (d:Int),0≤d→0≤l.foldl (fun d t=>max d (depthOf L t)) d:=by
  intro l;induction l with
  | nil=>intro d h;exact h
  | cons y l ih=>intro d h;exact ih (max d (depthOf L y)) (by omega)
 have:=hs (zG n);have:=hd (zG n) 0 (by omega);simp only;omega
theorem jLP {L:Pool} (hok:Ok L) (n:Node):Ok (make L n).2.2:=by
 by_cases hc:(check L n).2.2=0
 ·have:=jUH hok hc;unfold make;simp only [hc];rw [if_neg (by simp)];split
  ·exact hok
  ·rename_i hf;split
   ·exact hok
   ·rename_i hl;refine ⟨by simp;omega,?_,?_,?_⟩
    ·rw [List.map_append,List.nodup_append];refine ⟨hok.nodup,by simp,?_⟩;intro a ha b hb;simp only [List.map_cons,List.map_nil,List.mem_singleton] at hb;subst hb;obtain ⟨e,he,rfl⟩:=List.mem_map.1 ha;unfold find at hf;rw [List.findIdx?_eq_none_iff] at hf;simpa using hf e he
    ·intro e he;rcases List.mem_append.1 he with h | h
     ·exact hok.size e h
     ·simp only [List.mem_singleton] at h;subst h;simp;omega
    ·intro e he;rcases List.mem_append.1 he with h | h
     ·exact hok.depth e h
     ·simp only [List.mem_singleton] at h;subst h;simp;omega
 ·unfold make;simp only;rw [if_pos hc];exact hok
theorem xG (t:Tree):∀L,Ok L→Ok (grow L t).2.2∧∃M,(grow L t).2.2=L++M:=by
 induction t using Tree.ind with
 | h k f t u x ks ih =>
  have:∀(ks:List Tree),(∀i (hi:i<ks.length),∀L,Ok L→Ok (grow L ks[i]).2.2∧∃M,(grow L ks[i]).2.2=L++M)→∀n i L,Ok L→Ok (vB n i L ks).2.2∧∃M,(vB n i L ks).2.2=L++M:=by
   intro ks;induction ks with
   | nil=>intro _ n i L h;unfold vB;exact ⟨jLP h n,jGD L n⟩
   | cons t ts iht =>
    intro hh n i L h
    have h0:=hh 0 (by simp) L h
    simp only [List.getElem_cons_zero] at h0
    unfold vB
    split
    ·exact h0
    ·obtain ⟨ho,M,hM⟩:=h0
     have:=iht (fun i hi=>hh (i+1) (by simpa using hi)) (if i=0 then { n with a:=(grow L t).1 } else { n with b:=(grow L t).1 }) (i+1) (grow L t).2.2 ho
     refine ⟨this.1,?_⟩
     obtain ⟨M2,hM2⟩:=this.2
     exact ⟨M++M2,by rw [hM2,hM,List.append_assoc]⟩
  intro L h
  unfold grow
  exact this ks ih _ _ L h
def uO (n:Int):Prop:=0≤n∧n<18446744073709551616
inductive NumT:Tree→Prop
 | mk (k f t u:Int) (x:ByteArray) (ks:List Tree) (own:uO u) (kids:∀i (hi:i<ks.length),NumT ks[i]):NumT (.mk k f t u x ks)
end Go.Sp
end
section
namespace Go.Sp
theorem qB {L:Pool} {i:Nat} (hi:i<L.length):nodeOf L ((i:Int)+1)=L[i].node:=by
 have h:inP L ((i:Int)+1)=true:=zX.2 ⟨by omega,by omega⟩;have e:((i:Int)+1 - 1).toNat=i:=by omega
 simp [nodeOf,get,h,e,hi]
theorem tA {L:Pool} {t:Int} (h:inP L t=true):∃i:Nat,i<L.length∧t=(i:Int)+1:=by
 have:=zX.1 h;exact ⟨(t - 1).toNat,by omega,by omega⟩
theorem jDH {L:Pool} {i:Nat} (hi:i<L.length):get L ((i:Int)+1)=some L[i]:=by
 have h:inP L ((i:Int)+1)=true:=zX.2 ⟨by omega,by omega⟩;have e:((i:Int)+1 - 1).toNat=i:=by omega
 simp [get,h,e,hi]
structure Wf (L:Pool):Prop where
 ok:Ok L
 each:∀i (hi:i<L.length),check (L.take i) L[i].node=(L[i].size,L[i].depth,0)
theorem Wf.nil:Wf []:=⟨Ok.nil,fun i hi=>by simp at hi⟩
theorem jGL {L:Pool} {n:Node} (h:(check L n).2.2=0):zZ n=0∧((shapeOf n.kind).kids<1→n.a=0)∧((shapeOf n.kind).kids<2→n.b=0)∧zY (shapeOf n.kind) n=0∧(∀t∈zG n,inP L t=true) ∧
  (check L n).1=1+((zG n).map (sizeOf L)).sum∧(check L n).2.1=(zG n).foldl (fun d t=>max d (depthOf L t)) 0+1∧(check L n).1≤4096∧(check L n).2.1≤64:=by
 unfold check at h ⊢
 simp only at h ⊢
 by_cases h1:zZ n≠0
 ·rw [if_pos h1] at h;exact absurd h h1
 rw [if_neg h1] at h ⊢
 split at h
 ·simp at h
 rename_i h2;rw [if_neg h2]
 by_cases h3:zY (shapeOf n.kind) n≠0
 ·rw [if_pos h3] at h;exact absurd h h3
 rw [if_neg h3] at h ⊢
 split at h
 ·simp at h
 rename_i h4;rw [if_neg h4]
 split at h
 ·simp at h
 rename_i h5;rw [if_neg h5]
 simp only [Bool.or_eq_true,Bool.and_eq_true,decide_eq_true_eq,bne_iff_ne,ne_eq,not_or,not_and,Classical.not_not] at h2
 refine ⟨by simpa using h1,h2.1,h2.2,by simpa using h3,fun t ht=>?_,rfl,rfl,by simp only;omega,by simp only;omega⟩
 cases hi:inP L t with
 | true=>rfl
 | false=>exact absurd (List.any_eq_true.2 ⟨t,ht,by simp [hi]⟩) h4
theorem jCB (L:Pool) (n:Node):(make L n).2.2=L∨((check L n).2.2=0∧(make L n).2.2=L++[⟨n,(check L n).1,(check L n).2.1⟩]):=by
 by_cases hc:(check L n).2.2=0
 ·unfold make;simp only [hc];rw [if_neg (by simp)];split
  ·exact .inl rfl
  ·split
   ·exact .inl rfl
   ·exact .inr ⟨trivial,rfl⟩
 ·unfold make;simp only;rw [if_pos hc];exact .inl rfl
theorem jQB {L:Pool} {e:Ent} (h:∀i (hi:i<L.length),check (L.take i) L[i].node=(L[i].size,L[i].depth,0)) (he:check L e.node=(e.size,e.depth,0)):∀i (hi:i<(L++[e]).length),check ((L++[e]).take i) (L++[e])[i].node=((L++[e])[i].size,(L++[e])[i].depth,0):=by
 intro i hi;simp only [List.length_append,List.length_cons,List.length_nil] at hi;by_cases hlt:i<L.length
 ·simp only [List.getElem_append_left hlt];rw [List.take_append_of_le_length (by omega)];exact h i hlt
 ·have:i=L.length:=by omega
  subst this;simp only [List.getElem_append_right (Nat.le_refl _),Nat.sub_self,List.getElem_cons_zero];rw [List.take_left' rfl];exact he
theorem lJ {L:Pool} (h:Wf L) (n:Node):Wf (make L n).2.2:=by
 have ho:=jLP h.ok n;rcases jCB L n with e | ⟨hc,e⟩
 ·rw [e];exact h
 ·rw [e] at ho ⊢;exact ⟨ho,jQB h.each (by rw [← hc])⟩
theorem jHL (t:Tree):∀L,Wf L→Wf (grow L t).2.2:=by
 induction t using Tree.ind with
 | h k f t u x ks ih =>
  have:∀(ks:List Tree),(∀i (hi:i<ks.length),∀L,Wf L→Wf (grow L ks[i]).2.2)→∀n i L,Wf L→Wf (vB n i L ks).2.2:=by
   intro ks;induction ks with
   | nil=>intro _ n i L h;unfold vB;exact lJ h n
   | cons t ts iht =>
    intro hh n i L h
    have h0:=hh 0 (by simp) L h
    simp only [List.getElem_cons_zero] at h0
    unfold vB
    split
    ·exact h0
    ·exact iht (fun i hi=>hh (i+1) (by simpa using hi)) _ _ _ h0
  intro L h
  unfold grow
  exact this ks ih _ _ L h
theorem of_wf {L:Pool} (h:Wf L) (t:Tree):Wf (of L t).2.2:=by
 unfold of;split
 ·exact h
 ·split
  ·exact h
  ·exact jHL t L h
theorem jTQ {L:Pool} (h:Ok L) (t:Tree):∃M,(of L t).2.2=L++M:=by
 unfold of;split
 ·exact ⟨[],by simp⟩
 ·split
  ·exact ⟨[],by simp⟩
  ·exact (xG t L h).2
theorem jAX {L M:Pool} {t:Int} (h:inP L t=true):inP (L++M) t=true:=by
 have:=zX.1 h;exact zX.2 ⟨this.1,by rw [List.length_append];omega⟩
theorem jLV {L M:Pool} {t:Int} (h:inP L t=true):get (L++M) t=get L t:=by
 obtain ⟨i,hi,rfl⟩:=tA h;rw [jDH hi,jDH (by rw [List.length_append];omega),List.getElem_append_left hi]
theorem jCQ {L M:Pool} {t:Int} (h:inP L t=true):nodeOf (L++M) t=nodeOf L t:=by unfold nodeOf;rw [jLV h]
theorem jCO {L M:Pool} {t:Int} (h:inP L t=true):sizeOf (L++M) t=sizeOf L t:=by unfold sizeOf;rw [jLV h]
theorem jBA {L M:Pool} {t:Int} (h:inP L t=true):depthOf (L++M) t=depthOf L t:=by unfold depthOf;rw [jLV h]
theorem Wf.node {L:Pool} (h:Wf L) {t:Int} (ht:inP L t=true):zZ (nodeOf L t)=0∧((shapeOf (nodeOf L t).kind).kids<1→(nodeOf L t).a=0)∧((shapeOf (nodeOf L t).kind).kids<2→(nodeOf L t).b=0)∧zY (shapeOf (nodeOf L t).kind) (nodeOf L t)=0 ∧
  (∀k∈zG (nodeOf L t),inP L k=true∧k<t)∧sizeOf L t=1+((zG (nodeOf L t)).map (sizeOf L)).sum∧depthOf L t=(zG (nodeOf L t)).foldl (fun d k=>max d (depthOf L k)) 0+1:=by
 obtain ⟨i,hi,rfl⟩:=tA ht
 have he:=h.each i hi
 have hz:=jGL (L:=L.take i) (n:=L[i].node) (by rw [he])
 rw [qB hi]
 obtain ⟨h1,h2,h3,h4,h5,h6,h7,_,_⟩:=hz
 have hin:∀k∈zG L[i].node,inP (L.take i) k=true∧inP L k=true∧k<(i:Int)+1:=by
  intro k hk;have hk':=h5 k hk;have hk2:=zX.1 hk';have:L.take i++L.drop i=L:=List.take_append_drop i L;refine ⟨hk',by rw [← this];exact jAX hk',?_⟩;rw [List.length_take] at hk2;omega
 have hsz:∀k∈zG L[i].node,sizeOf (L.take i) k=sizeOf L k∧depthOf (L.take i) k=depthOf L k:=by
  intro k hk;have hk':=(hin k hk).1;have:L.take i++L.drop i=L:=List.take_append_drop i L;exact ⟨by rw [← jCO (M:=L.drop i) hk',this],by rw [← jBA (M:=L.drop i) hk',this]⟩
 refine ⟨h1,h2,h3,h4,fun k hk=>⟨(hin k hk).2.1,(hin k hk).2.2⟩,?_,?_⟩
 ·have:sizeOf L ((i:Int)+1)=L[i].size:=by simp [sizeOf,jDH hi]
  rw [this]
  rw [he] at h6
  simp only at h6
  rw [h6]
  congr 2
  exact List.map_congr_left (fun k hk=>(hsz k hk).1)
 ·have:depthOf L ((i:Int)+1)=L[i].depth:=by simp [depthOf,jDH hi]
  rw [this]
  rw [he] at h7
  simp only at h7
  rw [h7]
  congr 1
  have:∀(l:List Int) (d:Int),(∀k∈l,depthOf (L.take i) k=depthOf L k)→l.foldl (fun d t=>max d (depthOf (L.take i) t)) d=l.foldl (fun d k=>max d (depthOf L k)) d:=by
   intro l;induction l with
   | nil=>intro d _;rfl
   | cons a l ih=>intro d hh;simp only [List.foldl_cons];rw [hh a (by simp)];exact ih _ (fun k hk=>hh k (by simp [hk]))
  exact this _ _ (fun k hk=>(hsz k hk).2)
def jQZ:Tree:=.mk 0 0 0 0 ⟨#[]⟩ []
def jGW (L:Pool):Nat→Int→Tree
 | 0,_=>jQZ
 | fuel+1,t=>if inP L t=true then .mk (nodeOf L t).kind (nodeOf L t).frm (nodeOf L t).to (nodeOf L t).num (nodeOf L t).text ((zG (nodeOf L t)).map (jGW L fuel)) else jQZ
def zD (L:Pool) (t:Int):Tree:=jGW L t.toNat t
theorem jAD {L:Pool} {t:Int} (h:inP L t=false) (f:Nat):jGW L f t=jQZ:=by
 cases f <;> simp [jGW,h]
theorem jNY {L:Pool} (h:Wf L):∀(f:Nat) (t:Int),t.toNat≤f→jGW L f t=zD L t:=by
 have key:∀(f g:Nat) (t:Int),t.toNat≤f→t.toNat≤g→jGW L f t=jGW L g t:=by
  intro f;induction f with
  | zero =>
   intro g t hf hg
   have:inP L t=false:=by
    apply Bool.eq_false_iff.2;intro hi;have:=zX.1 hi;omega
   rw [jAD this,jAD this]
  | succ f ih =>
   intro g t hf hg
   cases hi:inP L t with
   | false=>rw [jAD hi,jAD hi]
   | true =>
    have hpos:=zX.1 hi
    cases g with
    | zero=>omega
    | succ g =>
     simp only [jGW,hi,if_true]
     congr 1
     refine List.map_congr_left (fun k hk=>ih g k ?_ ?_)
     ·have:=((h.node hi).2.2.2.2.1 k hk).2;omega
     ·have:=((h.node hi).2.2.2.2.1 k hk).2;omega
 intro f t hf;exact key f t.toNat t hf (Nat.le_refl _)
theorem vS {L:Pool} (h:Wf L) {t:Int} (ht:inP L t=true):zD L t=.mk (nodeOf L t).kind (nodeOf L t).frm (nodeOf L t).to (nodeOf L t).num (nodeOf L t).text ((zG (nodeOf L t)).map (zD L)):=by
 have hpos:=zX.1 ht;have e:t.toNat=(t.toNat - 1)+1:=by omega
 unfold zD;rw [e];simp only [jGW,ht,if_true];congr 1;refine List.map_congr_left (fun k hk=>?_);have:=((h.node ht).2.2.2.2.1 k hk).2;exact jNY h _ k (by omega)
theorem Wf.first {L M:Pool} (h:Wf (L++M)):Wf L:=by
 refine ⟨⟨by have:=h.ok.few;rw [List.length_append] at this;omega,?_,fun e he=>h.ok.size e (by simp [he]),fun e he=>h.ok.depth e (by simp [he])⟩,fun i hi=>?_⟩
 ·have:=h.ok.nodup;rw [List.map_append] at this;exact (List.nodup_append.1 this).1
 ·have:=h.each i (by rw [List.length_append];omega);rw [List.getElem_append_left hi,List.take_append_of_le_length (by omega)] at this;exact this
theorem lL {L M:Pool} (h:Wf (L++M)):∀(n:Nat) (t:Int),t.toNat=n→inP L t=true→zD (L++M) t=zD L t:=by
 have hL:=h.first;intro n;induction n using Nat.strongRecOn with
 | _ n ih =>
  intro t hn ht
  rw [vS h (jAX ht),vS hL ht,jCQ ht]
  congr 1
  refine List.map_congr_left (fun k hk=>?_)
  have hk':=(hL.node ht).2.2.2.2.1 k hk
  have:=zX.1 hk'.1
  exact ih k.toNat (by omega) k rfl hk'.1
end Go.Sp
end
