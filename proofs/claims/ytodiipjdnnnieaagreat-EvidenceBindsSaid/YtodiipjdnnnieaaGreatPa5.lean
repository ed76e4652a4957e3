import Derived.Test.YtodiipjdnnnieaaGreatProg
import Derived.KernelRfl
import Derived.Test.YtodiipjdnnnieaaGreatPa3
import Derived.Test.YtodiipjdnnnieaaGreatPa4
import Derived.Sort.Walk0
import Derived.Sort.Statements
import Derived.Shelf.SlSortCmp.Insertion
import Init.Data.List.Lex
import Derived.Shelf.SlSortCmp.NoneTotal
import Derived.Test.YtodiipjdnnnieaaGreatPa2
import Derived.Laws.Strings
import Derived.Test.YtodiipjdnnnieaaGreatPa1
import Derived.Test.YtodiipjdnnnieaaGreatPa0
section
open Go Go.SE
open Go.IntKind renaming i64 → q6
namespace Go.Proofs
set_option maxRecDepth 100000
set_option maxHeartbeats 4000000
attribute [local irreducible] wpL wpX opE wpE Calls
def m_R1_l1 (l1:Sl) (n1 i1:Int) (wl1:World) (Kc1:Int→Int→WP) (K:Bool→WP):Prop :=Br ((decide (i1<(l1.len:Int))) && (decide (i1≤10))) (∃a1:Addr,At l1 i1 6 a1∧∃aH bN bO bP aK bQ,Row wl1 a1 (Ab aH bN bO bP aK bQ)∧Calls Tryz.prog 75 #[(.agg #[(vi aH),(vi bN),(vi bO),(vu bP),(vs aK),bQ.v]),(vi 500)] wl1 (fun e w2=>∃r1,e=.returned (vi r1)∧Br (decide ((q6.wrap (n1+r1))≥500)) (K true w2) (Kc1 (q6.wrap (n1+r1)) (q6.wrap (i1+1)) w2))) (K (decide ((l1.len:Int)>10)) wl1)
def m_R1 (l1:Sl) (w0:World) (K:Bool→WP):Prop :=∃(I1:Int→Int→WP) (mu1:Int→Int→World→Nat),I1 0 0 w0∧∀(n1 i1:Int) (wl1:World),I1 n1 i1 wl1→m_R1_l1 l1 n1 i1 wl1 (fun y'0 y'1 w'=>I1 y'0 y'1 w'∧mu1 y'0 y'1 w'<mu1 n1 i1 wl1) K
theorem w_R1 (l1 w0 K) (h:m_R1 l1 w0 K):
  Calls Tryz.prog 23 #[l1.v] w0 (fun e w'=>∃r2,e=.returned (vb r2)∧K r2 w'):=by
 refine cw (args:=[l1.v]) Tryz.func23 Tryz.ntmps23 (eg (q0 (vb false) (ln (eg (q0 (vi 0) (ln (zA ?_)))))))
 refine eg (q (ln (zJ ?_)))
 obtain ⟨I1,mu1,h0,hr⟩:=h
 refine vH (σ:=Int×Int×World) (fun s ρ w=>w=s.2.2∧Has ρ [(0,l1.v),(3,(vi s.1)),(4,(vi s.2.1))]∧I1 s.1 s.2.1 s.2.2) (fun s=>mu1 s.1 s.2.1 s.2.2) (0,0,w0) ⟨rfl,hm,h0⟩ ?_
 rintro ⟨n1,i1,wl1⟩ ρ w ⟨hw,hH,hI⟩
 dsimp only at hw hH;subst w
 have h:=hr n1 i1 wl1 hI
 refine zU hH (zA (zA (vQ (fun ρ wJ=>∃b1'0:Bool,((decide (i1<(l1.len:Int)))=b1'0)∧wl1=wJ∧Has ρ [(0,l1.v),(3,(vi n1)),(4,(vi i1)),(12,(vb (b1'0 && (decide (i1≤10)))))]) ?_ ?_)))
 refine rg (q (qd ?_))
 rcases Bool.eq_false_or_eq_true (decide (i1<(l1.len:Int))) with hg2 | hg2
 refine qk 9 hg2 (qk 9 hg2 (q2 (vb (decide (i1≤10))) (xT hg2) (ln ⟨true,hg2,rfl,hm⟩)))
 refine sj2 9 hg2 (q2 (vb false) (xF hg2) (ln ⟨false,hg2,rfl,hm⟩))
 rintro ρ w1 ⟨b1'0,he0,hw,hH⟩
 subst he0
 subst hw
 refine vI hH (zO (cbr h ?_ ?_))<;>intro h
 refine zB (zO (zA (zJ (eg (qc (qi (Tryz.runUnderlying66 _) (Tryz.sizeOf107 _) h fun a1 h=>?_))))))
 obtain ⟨aH,bN,bO,bP,aK,bQ,hv1,h⟩:=h
 refine qa (Tryz.isAgg107 _) (Tryz.sizeOf107 _) hv1 (sc Tryz.call75 (h.mono fun e w2 ⟨r1,k,h⟩=>⟨_,k,?_⟩))
 refine qb (ln (eg (qb (ln (cbr h ?_ ?_)))))<;>intro h
 refine eg (q (ln (er (qN (zY (zY (qN (zY (rs1 Tryz.results23 ⟨true,rfl,h⟩)))))))))
 refine zB (yQ (zO (rg (qc (ln ⟨((q6.wrap (n1+r1)),(q6.wrap (i1+1)),w2),⟨rfl,hm,h.1⟩,h.2⟩)))))
 refine vF (yM (yM (yK (zO (eg (q0 l1.v (q0 (vi (l1.len:Int)) (q0 (vb (decide ((l1.len:Int)>10))) (q0 (vb (decide ((l1.len:Int)>10))) (zC (zO (er (rs1 Tryz.results23 ⟨(decide ((l1.len:Int)>10)),rfl,h⟩)))))))))))))
def m_X_j1 (p1:Option Addr) (a1 b1:Int) (x1:Bool) (w0:World) (H:NP) (w:World) (K:Int→Int→Int→ByteArray→Bool→Bool→Int→WP):Prop :=Br x1 (∀w3,Hst w0 H w H w3→K 0 0 0 ⟨#[]⟩ false false 51 w3) (Calls Tryz.prog 51 #[(vp p1),(vi a1)] w (fun e w4=>∃aA aB aC aD aE r1,e=.returned (.tuple #[(Af aA aB aC aD aE),(vb r1)])∧Kept H w w4∧∀H2 w6,Hst w0 H w4 H2 w6→Calls Tryz.prog 51 #[(vp p1),(vi b1)] w6 (fun e w7=>∃aQ aY aO aR aP r2,e=.returned (.tuple #[(Af aQ aY aO aR aP),(vb r2)])∧Kept H2 w6 w7∧Br ((aA != 1) || (aQ != 1)) (∀H4 w11,Hst w0 H2 w7 H4 w11→K 0 0 0 ⟨#[]⟩ false false 120 w11) (∀y1:Bool,y1=((((aB != 0) || (aY != 1)) || (aC != aO)) || (!(decide (aD=aR))))→Br y1 (∀H10 w20,Hst w0 H2 w7 H10 w20→K aA aB aC aD aE (aE || aP) 122 w20) (∀H10 w21,Hst w0 H2 w7 H10 w21→K aA aB aC aD aE (aE || aP) 0 w21)))))
def m_X (p1:Option Addr) (a1 b1:Int) (w0:World) (K:Int→Int→Int→ByteArray→Bool→Bool→Int→WP):Prop :=Br (Option.isNone p1) (∀H1 w2,Hst w0 None w0 H1 w2→K 0 0 0 ⟨#[]⟩ false false 7 w2) (∀H1 w1,Hst w0 None w0 H1 w1→Calls Tryz.prog 160 #[(vp p1),(vi a1)] w1 (fun e w22=>∃r3,e=.returned (vi r3)∧Kept H1 w1 w22∧Br (r3 == 0) (m_X_j1 p1 a1 b1 true w0 H1 w22 K) (Calls Tryz.prog 160 #[(vp p1),(vi b1)] w22 (fun e w23=>∃r4,e=.returned (vi r4)∧Kept H1 w22 w23∧m_X_j1 p1 a1 b1 (r4 == 0) w0 H1 w23 K))))
theorem w_X (p1 a1 b1 w0 K) (h:m_X p1 a1 b1 w0 K):
  Calls Tryz.prog 90 #[(vp p1),(vi a1),(vi b1)] w0 (fun e w'=>∃bH dD bI bJ dE r5 r6,e=.returned (.tuple #[(Af bH dD bI bJ dE),(vb r5),(vi r6)])∧K bH dD bI bJ dE r5 r6 w'):=by
 refine cw (args:=[(vp p1),(vi a1),(vi b1)]) Tryz.func90 Tryz.ntmps90 ?_
 obtain ⟨hs,hb⟩:=st0 w0
 refine eg (nw3 (Ac 0 0 0 (⟨#[]⟩) false) 35 hs hb (zM (Tryz.zeroValue35 _) rfl) fun p2 w1 H1 hs hb=>qb (ln (zA (eg (q (q2 (vb (Option.isNone p1)) (xV (by kernel_rfl) rfl Tryz.underlying68) (ln (cbr h ?_ ?_))))))))<;>intro h
 refine eg (q (zK (zD rfl) (xo p2 (Ac 0 0 0 (⟨#[]⟩) false) (Tryz.sizeOf35 _) (hb.k0 0 5 gZ)) ?_))
 intro w2 hn2
 obtain ⟨hs,hb⟩:=hb.st1 0 hs hn2 gZ
 refine qb (ln (er (zY ?_)))
 have ⟨h,hs⟩:=hs.hr (h H1 w2)
 refine tI (.inl rfl) (vs:=[(Af 0 0 0 (⟨#[]⟩) false),(vb false),(vi 7)]) (v:=(.tuple #[(Af 0 0 0 (⟨#[]⟩) false),(vb false),(vi 7)])) Tryz.results90 ⟨(rva (Tryz.isAgg35 _) (Tryz.sizeOf35 _) (hb.r0 0 5 gZ)),(rvT (by kernel_rfl)),(rvT (by kernel_rfl)),trivial⟩ (by kernel_rfl) ⟨0,0,0,⟨#[]⟩,false,false,7,rfl,h⟩
 refine zB (zO (zA (zA (qQ (fun ρ w=>∃x1,∃H:NP,Has ρ [(0,(vp p1)),(1,(vi a1)),(2,(vi b1)),(6,(vp (some p2))),(26,(vb x1))]∧Hst w0 H w H w∧HB H w [(p2,(Ac 0 0 0 (⟨#[]⟩) false),35)]∧m_X_j1 p1 a1 b1 x1 w0 H w K) ?_ ?_))))
 rintro ρ w ⟨x1,H,hH,hs,hb,h⟩
 refine zU hH (cbr h ?_ ?_)<;>intro h
 refine eg (q (zK (zD rfl) (xo p2 (Ac 0 0 0 (⟨#[]⟩) false) (Tryz.sizeOf35 _) (hb.k0 0 5 gZ)) ?_))
 intro w3 hn3
 obtain ⟨hs,hb⟩:=hb.st1 0 hs hn3 gZ
 refine qb (ln (er (zY ?_)))
 have ⟨h,hs⟩:=hs.hr (h w3)
 refine tI (.inl rfl) (vs:=[(Af 0 0 0 (⟨#[]⟩) false),(vb false),(vi 51)]) (v:=(.tuple #[(Af 0 0 0 (⟨#[]⟩) false),(vb false),(vi 51)])) Tryz.results90 ⟨(rva (Tryz.isAgg35 _) (Tryz.sizeOf35 _) (hb.r0 0 5 gZ)),(rvT (by kernel_rfl)),(rvT (by kernel_rfl)),trivial⟩ (by kernel_rfl) ⟨0,0,0,⟨#[]⟩,false,false,51,rfl,h⟩
 refine zB (zO (eg (qb (sc Tryz.call51 (h.mono fun e w4 ⟨aA,aB,aC,aD,aE,r1,k,hk,h⟩=>have ⟨hs,hb⟩:=hk.hh hs hb;⟨_,k,?_⟩)))))
 refine qc (nw3 (Ac 0 0 0 (⟨#[]⟩) false) 35 hs hb (zM (Tryz.zeroValue35 _) rfl) fun p3 w5 H2 hs hb=>zK (zD rfl) (xo p3 (Ac aA aB aC aD aE) (Tryz.sizeOf35 _) (hb.k0 0 5 gZ)) ?_)
 intro w6 hn5
 obtain ⟨hs,hb⟩:=hb.st1 0 hs hn5 gZ
 refine q (ln (eg (qb ?_)))
 have ⟨h,hs⟩:=hs.hr (h H2 w6)
 refine sc Tryz.call51 (h.mono fun e w7 ⟨aQ,aY,aO,aR,aP,r2,k,hk,h⟩=>have ⟨hs,hb⟩:=hk.hh hs hb;⟨_,k,?_⟩)
 refine qc (nw3 (Ac 0 0 0 (⟨#[]⟩) false) 35 hs hb (zM (Tryz.zeroValue35 _) rfl) fun p4 w8 H3 hs hb=>zK (zD rfl) (xo p4 (Ac aQ aY aO aR aP) (Tryz.sizeOf35 _) (hb.k0 0 5 gZ)) ?_)
 intro w9 hn7
 obtain ⟨hs,hb⟩:=hb.st1 0 hs hn7 gZ
 refine q (ln (zA (zA (vQ (fun ρ wJ=>∃b2'0:Bool,∃HJ:NP,((aA != 1)=b2'0)∧Hst w0 H2 w7 HJ wJ∧HB HJ wJ [(p4,(Ac aQ aY aO aR aP),35),(p3,(Ac aA aB aC aD aE),35),(p2,(Ac 0 0 0 (⟨#[]⟩) false),35)]∧Has ρ [(6,(vp (some p2))),(9,(vp (some p3))),(11,(vp (some p4))),(47,(vb (b2'0 || (aQ != 1))))]) ?_ ?_))))
 refine rg (q (q3 (xl (Tryz.isAgg3 _) (hb.d0 1 (gS gZ))) (qb ?_)))
 rcases Bool.eq_false_or_eq_true (aA != 1) with hg2 | hg2
 refine sj3 43 hg2 (q2 (vb true) (xT hg2) (ln ⟨true,_,hg2,hs,hb,hm⟩))
 refine qk 43 hg2 (q4 43 hg2 (xl (Tryz.isAgg3 _) (hb.d0 0 gZ)) (qk 43 hg2 (q2 (vb (aQ != 1)) (xF hg2) (ln ⟨false,_,hg2,hs,hb,hm⟩))))
 rintro ρ w10 ⟨b2'0,H4,he0,hs,hb,hH⟩
 subst he0
 refine vI hH (zO (cbr h ?_ ?_))<;>intro h
 refine eg (q (zK (zD rfl) (xo p2 (Ac 0 0 0 (⟨#[]⟩) false) (Tryz.sizeOf35 _) (hb.k0 2 5 (gS (gS gZ)))) ?_))
 intro w11 hn8
 obtain ⟨hs,hb⟩:=hb.st1 2 hs hn8 (gS (gS gZ))
 refine qb (ln (er (zY ?_)))
 have ⟨h,hs⟩:=hs.hr (h H4 w11)
 refine tI (.inl rfl) (vs:=[(Af 0 0 0 (⟨#[]⟩) false),(vb false),(vi 120)]) (v:=(.tuple #[(Af 0 0 0 (⟨#[]⟩) false),(vb false),(vi 120)])) Tryz.results90 ⟨(rva (Tryz.isAgg35 _) (Tryz.sizeOf35 _) (hb.r0 2 5 (gS (gS gZ)))),(rvT (by kernel_rfl)),(rvT (by kernel_rfl)),trivial⟩ (by kernel_rfl) ⟨0,0,0,⟨#[]⟩,false,false,120,rfl,h⟩
 refine zB (zO (zA (vQ (fun ρ wJ=>∃HJ:NP,Hst w0 H2 w7 HJ wJ∧HB HJ wJ [(p4,(Ac aQ aY aO aR aP),35),(p3,(Ac aA aB aC aD aE),35),(p2,(Ac 0 0 0 (⟨#[]⟩) false),35)]∧Has ρ [(6,(vp (some p2))),(9,(vp (some p3))),(11,(vp (some p4))),(13,(vb (aE || aP)))]) ?_ ?_)))
 refine rg (q (q3 (xl (Tryz.isAgg4 _) (hb.d 1 4 (gS gZ))) (q (zN 3 (fun ρ wJ=>∃b5'0:Bool,∃HJ:NP,(aE=b5'0)∧Hst w0 H2 w7 HJ wJ∧HB HJ wJ [(p4,(Ac aQ aY aO aR aP),35),(p3,(Ac aA aB aC aD aE),35),(p2,(Ac 0 0 0 (⟨#[]⟩) false),35)]∧Has ρ [(6,(vp (some p2))),(9,(vp (some p3))),(11,(vp (some p4))),(54,(vb (b5'0 || aP)))]) ?_ ?_))))
 rintro ρ w14 ⟨b5'0,H7,he0,hs,hb,hH⟩
 subst he0
 refine zQ hH (q (ln ⟨_,hs,hb,hm⟩))
 rcases Bool.eq_false_or_eq_true aE with hg6 | hg6
 refine sj2 51 hg6 (q2 (vb true) (xT hg6) (zC ⟨true,_,hg6,hs,hb,hm⟩))
 refine qk 51 hg6 (q4 51 hg6 (xl (Tryz.isAgg4 _) (hb.d 0 4 gZ)) (q2 (vb aP) (xF hg6) (zC ⟨false,_,hg6,hs,hb,hm⟩)))
 rintro ρ w13 ⟨H6,hs,hb,hH⟩
 refine vI hH (zO (zA (zA (vQ (fun ρ wJ=>∃b8'0 y1:Bool,∃HJ:NP,((((aB != 0) || (aY != 1)) || (aC != aO))=b8'0)∧(y1=(b8'0 || (!(decide (aD=aR)))))∧Hst w0 H2 w7 HJ wJ∧HB HJ wJ [(p4,(Ac aQ aY aO aR aP),35),(p3,(Ac aA aB aC aD aE),35),(p2,(Ac 0 0 0 (⟨#[]⟩) false),35)]∧Has ρ [(6,(vp (some p2))),(9,(vp (some p3))),(13,(vb (aE || aP))),(76,(vb y1))]) ?_ ?_))))
 refine rg (q (q3 (xl (Tryz.isAgg3 _) (hb.d 1 1 (gS gZ))) (qb (zN 4 (fun ρ wJ=>∃b9'0:Bool,∃HJ:NP,((aB != 0)=b9'0)∧Hst w0 H2 w7 HJ wJ∧HB HJ wJ [(p4,(Ac aQ aY aO aR aP),35),(p3,(Ac aA aB aC aD aE),35),(p2,(Ac 0 0 0 (⟨#[]⟩) false),35)]∧Has ρ [(6,(vp (some p2))),(9,(vp (some p3))),(11,(vp (some p4))),(13,(vb (aE || aP))),(62,(vb (b9'0 || (aY != 1))))]) ?_ ?_))))
 rintro ρ w18 ⟨b9'0,H11,he0,hs,hb,hH⟩
 subst he0
 refine zQ hH (q (zN 6 (fun ρ wJ=>∃b10'0:Bool,∃HJ:NP,(((aB != 0) || (aY != 1))=b10'0)∧Hst w0 H2 w7 HJ wJ∧HB HJ wJ [(p4,(Ac aQ aY aO aR aP),35),(p3,(Ac aA aB aC aD aE),35),(p2,(Ac 0 0 0 (⟨#[]⟩) false),35)]∧Has ρ [(6,(vp (some p2))),(9,(vp (some p3))),(11,(vp (some p4))),(13,(vb (aE || aP))),(69,(vb (b10'0 || (aC != aO))))]) ?_ ?_))
 rintro ρ w19 ⟨b10'0,H12,he0,hs,hb,hH⟩
 subst he0
 refine zQ hH (q ?_)
 rcases Bool.eq_false_or_eq_true (((aB != 0) || (aY != 1)) || (aC != aO)) with hg16 | hg16
 refine sj5 70 hg16 (q2 (vb true) (xT hg16) (ln ⟨true,_,_,hg16,rfl,hs,hb,hm⟩))
 refine qk 70 hg16 (q4 70 hg16 (xl (Tryz.isAgg9 _) (hb.d 1 3 (gS gZ))) (qk 70 hg16 (q4 70 hg16 (xl (Tryz.isAgg9 _) (hb.d 0 3 gZ)) (stq (v:=(vb (!(decide (aD=aR))))) (wy 70 hg16) (uM (by kernel_rfl) (by kernel_rfl)) (q2 (vb (!(decide (aD=aR)))) (xF hg16) (ln ⟨false,_,_,hg16,rfl,hs,hb,hm⟩))))))
 rcases Bool.eq_false_or_eq_true ((aB != 0) || (aY != 1)) with hg15 | hg15
 refine sj5 63 hg15 (q2 (vb true) (xT hg15) (zC ⟨true,_,hg15,hs,hb,hm⟩))
 refine qk 63 hg15 (q4 63 hg15 (xl (Tryz.isAgg23 _) (hb.d 1 2 (gS gZ))) (qk 63 hg15 (q4 63 hg15 (xl (Tryz.isAgg23 _) (hb.d 0 2 gZ)) (qk 63 hg15 (q2 (vb (aC != aO)) (xF hg15) (zC ⟨false,_,hg15,hs,hb,hm⟩))))))
 rcases Bool.eq_false_or_eq_true (aB != 0) with hg13 | hg13
 refine sj3 58 hg13 (q2 (vb true) (xT hg13) (zC ⟨true,_,hg13,hs,hb,hm⟩))
 refine qk 58 hg13 (q4 58 hg13 (xl (Tryz.isAgg3 _) (hb.d 0 1 gZ)) (qk 58 hg13 (q2 (vb (aY != 1)) (xF hg13) (zC ⟨false,_,hg13,hs,hb,hm⟩))))
 rintro ρ w17 ⟨b8'0,y1,H10,he0,hy1,hs,hb,hH⟩
 subst he0
 have h:=h y1 hy1
 refine vI hH (zO (cbr h ?_ ?_))<;>intro h
 refine eg (q2 (Af aA aB aC aD aE) (xa p3 (Ac aA aB aC aD aE) (Tryz.isAgg35 _) (Tryz.sizeOf35 _) (hb.r0 1 5 (gS gZ))) (q (zK (zD rfl) (xo p2 (Ac aA aB aC aD aE) (Tryz.sizeOf35 _) (hb.k0 2 5 (gS (gS gZ)))) ?_)))
 intro w20 hn9
 obtain ⟨hs,hb⟩:=hb.st1 2 hs hn9 (gS (gS gZ))
 refine qb (ln (er (zY ?_)))
 have ⟨h,hs⟩:=hs.hr (h H10 w20)
 refine tI (.inl rfl) (vs:=[(Af aA aB aC aD aE),(vb (aE || aP)),(vi 122)]) (v:=(.tuple #[(Af aA aB aC aD aE),(vb (aE || aP)),(vi 122)])) Tryz.results90 ⟨(rva (Tryz.isAgg35 _) (Tryz.sizeOf35 _) (hb.r0 2 5 (gS (gS gZ)))),(rvT (by kernel_rfl)),(rvT (by kernel_rfl)),trivial⟩ (by kernel_rfl) ⟨aA,aB,aC,aD,aE,(aE || aP),122,rfl,h⟩
 refine zB (zO (eg (q2 (Af aA aB aC aD aE) (xa p3 (Ac aA aB aC aD aE) (Tryz.isAgg35 _) (Tryz.sizeOf35 _) (hb.r0 1 5 (gS gZ))) (q (zK (zD rfl) (xo p2 (Ac aA aB aC aD aE) (Tryz.sizeOf35 _) (hb.k0 2 5 (gS (gS gZ)))) ?_)))))
 intro w21 hn10
 obtain ⟨hs,hb⟩:=hb.st1 2 hs hn10 (gS (gS gZ))
 refine qb (ln (er ?_))
 have ⟨h,hs⟩:=hs.hr (h H10 w21)
 refine tI (.inl rfl) (vs:=[(Af aA aB aC aD aE),(vb (aE || aP)),(vi 0)]) (v:=(.tuple #[(Af aA aB aC aD aE),(vb (aE || aP)),(vi 0)])) Tryz.results90 ⟨(rva (Tryz.isAgg35 _) (Tryz.sizeOf35 _) (hb.r0 2 5 (gS (gS gZ)))),(rvT (by kernel_rfl)),(rvT (by kernel_rfl)),trivial⟩ (by kernel_rfl) ⟨aA,aB,aC,aD,aE,(aE || aP),0,rfl,h⟩
 refine rg (qb ?_)
 have ⟨h,hs⟩:=hs.hr (h H1 w1)
 refine sc Tryz.call160 (h.mono fun e w22 ⟨r3,k,hk,h⟩=>have ⟨hs,hb⟩:=hk.hh hs hb;⟨_,k,?_⟩)
 refine qb ?_
 rcases Bool.eq_false_or_eq_true (r3 == 0) with hg17 | hg17
 have h:=h.1 hg17
 refine sj4 21 hg17 (q2 (vb true) (xT hg17) (ln ⟨true,H1,hm,hs,hb,h⟩))
 have h:=h.2 hg17
 refine qk 21 hg17 (qk 21 hg17 (vN (wy 21 hg17) (xc Tryz.call160) (h.mono ?_)))
 rintro e w23 ⟨r4,rfl,hk,h⟩
 refine ⟨_,rfl,?_⟩
 obtain ⟨hs,hb⟩:=hk.hh hs hb
 refine qk 21 hg17 (q2 (vb (r4 == 0)) (xF hg17) (ln ⟨(r4 == 0),H1,hm,hs,hb,h⟩))
def m_H3 (p1:Option Addr) (a1 b1:Int) (w0:World) (K:Int→Int→WP):Prop :=Calls Tryz.prog 90 #[(vp p1),(vi a1),(vi b1)] w0 (fun e w1=>∃aA aB aC aD aE r1 r2,e=.returned (.tuple #[(Af aA aB aC aD aE),(vb r1),(vi r2)])∧Kept None w0 w1∧Br (((cond r1 121 r2):Int) != 0) (∀H2 w4,Hst w0 None w1 H2 w4→K 0 (cond r1 121 r2) w4) (∀H2 w4,Hst w0 None w1 H2 w4→Calls Tryz.prog 76 #[(vp p1),(.agg #[(vi 6),(vi 0),(vu aC),(vs aD),(vb false)])] w4 (fun e w5=>∃r3 r4,e=.returned (.tuple #[(vi r3),(vi r4)])∧Kept H2 w4 w5∧K r3 r4 w5)))
theorem w_H3 (p1 a1 b1 w0 K) (h:m_H3 p1 a1 b1 w0 K):
  Calls Tryz.prog 32 #[(vp p1),(vi a1),(vi b1)] w0 (fun e w'=>∃r5 r6,e=.returned (.tuple #[(vi r5),(vi r6)])∧K r5 r6 w'):=by
 refine cw (args:=[(vp p1),(vi a1),(vi b1)]) Tryz.func32 Tryz.ntmps32 ?_
 obtain ⟨hs,hb⟩:=st0 w0
 refine eg (qb (ln (eg (qc (sc Tryz.call90 (h.mono fun e w1 ⟨aA,aB,aC,aD,aE,r1,r2,k,hk,h⟩=>have ⟨hs,hb⟩:=hk.hh hs hb;⟨_,k,?_⟩))))))
 refine qd (nw3 (Ac 0 0 0 (⟨#[]⟩) false) 35 hs hb (zM (Tryz.zeroValue35 _) rfl) fun p2 w2 H1 hs hb=>zK (zD rfl) (xo p2 (Ac aA aB aC aD aE) (Tryz.sizeOf35 _) (hb.k0 0 5 gZ)) ?_)
 intro w3 hn2
 obtain ⟨hs,hb⟩:=hb.st1 0 hs hn2 gZ
 refine qb (ln (zA (eg (q (ln (vQ (fun ρ wJ=>∃b2'0:Bool,∃HJ:NP,(r1=b2'0)∧Hst w0 None w1 HJ wJ∧HB HJ wJ [(p2,(Ac aA aB aC aD aE),35)]∧Has ρ [(0,(vp p1)),(8,(vp (some p2))),(10,(vi (cond b2'0 121 r2)))]) ?_ ?_))))))
 refine vO (t:=r1) (by kernel_rfl) (fun hc2=>?_) (fun hc2=>?_)
 refine rg (q (ln ⟨true,_,hc2,hs,hb,hm⟩))
 refine zB (zO ⟨false,_,hc2,hs,hb,hm⟩)
 rintro ρ w4 ⟨b2'0,H2,he0,hs,hb,hH⟩
 subst he0
 refine vI hH (zO (zA (eg (qb (ln (cbr h ?_ ?_))))))<;>intro h
 refine eg (qc (ln (er (zY ?_))))
 have ⟨h,hs⟩:=hs.hr (h H2 w4)
 refine xS (.inl rfl) Tryz.results32 (v:=(vi 0)) (by kernel_rfl) (v':=(vi (cond r1 121 r2))) (by kernel_rfl) ⟨0,(cond r1 121 r2),rfl,h⟩
 refine zB (zO (eg (qb (q3 (xl (Tryz.isAgg23 _) (hb.d 0 2 gZ)) (q (q3 (xl (Tryz.isAgg9 _) (hb.d 0 3 gZ)) (q ?_)))))))
 have ⟨h,hs⟩:=hs.hr (h H2 w4)
 refine sc Tryz.call76 (h.mono fun e w5 ⟨r3,r4,k,hk,h⟩=>have ⟨hs,hb⟩:=hk.hh hs hb;⟨_,k,?_⟩)
 refine qd (ln (er (xS (.inl rfl) Tryz.results32 (v:=(vi r3)) (by kernel_rfl) (v':=(vi r4)) (by kernel_rfl) ⟨r3,r4,rfl,h⟩)))
def m_I3 (p1:Option Addr) (who1 a1 b1:Int) (w0:World) (K:Int→Int→WP):Prop :=Br ((who1 != 0) && (who1 != 1)) (∀H1 w1,Hst w0 None w0 H1 w1→K 0 2 w1) (∀H1 w1,Hst w0 None w0 H1 w1→Calls Tryz.prog 90 #[(vp p1),(vi a1),(vi b1)] w1 (fun e w2=>∃aA aB aC aD aE r1 r2,e=.returned (.tuple #[(Af aA aB aC aD aE),(vb r1),(vi r2)])∧Kept H1 w1 w2∧Br (r2 != 0) (∀H2 w4,Hst w0 H1 w2 H2 w4→K 0 r2 w4) (∀H2 w4,Hst w0 H1 w2 H2 w4→Calls Tryz.prog 91 #[(vp p1),(vi a1),(vi b1)] w4 (fun e w5=>∃r3 r4,e=.returned (.tuple #[(vi r3),(vi r4)])∧Kept H2 w4 w5∧Br (r4 != 0) (K 0 r4 w5) (Calls Tryz.prog 92 #[(vp p1),(vs (⟨#[114,101,115,111,108,118,101]⟩:ByteArray))] w5 (fun e w6=>∃r5 r6,e=.returned (.tuple #[(vi r5),(vi r6)])∧Kept H2 w5 w6∧Br (r6 != 0) (K 0 r6 w6) (Calls Tryz.prog 91 #[(vp p1),(vi r5),(vi r3)] w6 (fun e w7=>∃r7 r8,e=.returned (.tuple #[(vi r7),(vi r8)])∧Kept H2 w6 w7∧Br (r8 != 0) (K 0 r8 w7) (Calls Tryz.prog 93 #[(vp p1),(vi who1),(vi r7)] w7 (fun e w8=>∃r9 r10,e=.returned (.tuple #[(vi r9),(vi r10)])∧Kept H2 w7 w8∧K r9 r10 w8))))))))))
theorem w_I3 (p1 who1 a1 b1 w0 K) (h:m_I3 p1 who1 a1 b1 w0 K):
  Calls Tryz.prog 33 #[(vp p1),(vi who1),(vi a1),(vi b1)] w0 (fun e w'=>∃r11 r12,e=.returned (.tuple #[(vi r11),(vi r12)])∧K r11 r12 w'):=by
 refine cw (args:=[(vp p1),(vi who1),(vi a1),(vi b1)]) Tryz.func33 Tryz.ntmps33 ?_
 obtain ⟨hs,hb⟩:=st0 w0
 refine eg (qb (ln (zA (zA (vQ (fun ρ wJ=>∃b2'0:Bool,∃HJ:NP,((who1 != 0)=b2'0)∧Hst w0 None w0 HJ wJ∧HB HJ wJ []∧Has ρ [(0,(vp p1)),(1,(vi who1)),(2,(vi a1)),(3,(vi b1)),(21,(vb (b2'0 && (who1 != 1))))]) ?_ ?_)))))
 refine rg (qc ?_)
 rcases Bool.eq_false_or_eq_true (who1 != 0) with hg2 | hg2
 refine qk 18 hg2 (qk 18 hg2 (q2 (vb (who1 != 1)) (xT hg2) (ln ⟨true,_,hg2,hs,hb,hm⟩)))
 refine sj2 18 hg2 (q2 (vb false) (xF hg2) (ln ⟨false,_,hg2,hs,hb,hm⟩))
 rintro ρ w1 ⟨b2'0,H1,he0,hs,hb,hH⟩
 subst he0
 refine vI hH (zO (cbr h ?_ ?_))<;>intro h
 refine eg (qb (ln (er (zY ?_))))
 have ⟨h,hs⟩:=hs.hr (h H1 w1)
 refine xS (.inl rfl) Tryz.results33 (v:=(vi 0)) (by kernel_rfl) (v':=(vi 2)) (by kernel_rfl) ⟨0,2,rfl,h⟩
 refine zB (zO (zA (eg (qc ?_))))
 have ⟨h,hs⟩:=hs.hr (h H1 w1)
 refine sc Tryz.call90 (h.mono fun e w2 ⟨aA,aB,aC,aD,aE,r1,r2,k,hk,h⟩=>have ⟨hs,hb⟩:=hk.hh hs hb;⟨_,k,?_⟩)
 refine qd (nw3 (Ac 0 0 0 (⟨#[]⟩) false) 35 hs hb (zM (Tryz.zeroValue35 _) rfl) fun p2 w3 H2 hs hb=>zK (zD rfl) (xo p2 (Ac aA aB aC aD aE) (Tryz.sizeOf35 _) (hb.k0 0 5 gZ)) ?_)
 intro w4 hn2
 obtain ⟨hs,hb⟩:=hb.st1 0 hs hn2 gZ
 refine qb (ln (eg (qb (ln (cbr h ?_ ?_)))))<;>intro h
 refine eg (qc (ln (er (zY ?_))))
 have ⟨h,hs⟩:=hs.hr (h H2 w4)
 refine xS (.inl rfl) Tryz.results33 (v:=(vi 0)) (by kernel_rfl) (v':=(vi r2)) (by kernel_rfl) ⟨0,r2,rfl,h⟩
 refine zB (zO (eg (qc ?_)))
 have ⟨h,hs⟩:=hs.hr (h H2 w4)
 refine sc Tryz.call91 (h.mono fun e w5 ⟨r3,r4,k,hk,h⟩=>have ⟨hs,hb⟩:=hk.hh hs hb;⟨_,k,?_⟩)
 refine q (qd (ln (zA (eg (qb (ln (cbr h ?_ ?_)))))))<;>intro h
 refine eg (qc (ln (er (zY (xS (.inl rfl) Tryz.results33 (v:=(vi 0)) (by kernel_rfl) (v':=(vi r4)) (by kernel_rfl) ⟨0,r4,rfl,h⟩)))))
 refine zB (zO (eg (q (sc Tryz.call92 (h.mono fun e w6 ⟨r5,r6,k,hk,h⟩=>have ⟨hs,hb⟩:=hk.hh hs hb;⟨_,k,?_⟩)))))
 refine q (qd (ln (zA (eg (qb (ln (cbr h ?_ ?_)))))))<;>intro h
 refine eg (qc (ln (er (zY (xS (.inl rfl) Tryz.results33 (v:=(vi 0)) (by kernel_rfl) (v':=(vi r6)) (by kernel_rfl) ⟨0,r6,rfl,h⟩)))))
 refine zB (zO (zA (eg (qc (sc Tryz.call91 (h.mono fun e w7 ⟨r7,r8,k,hk,h⟩=>have ⟨hs,hb⟩:=hk.hh hs hb;⟨_,k,?_⟩))))))
 refine q (qd (ln (eg (qb (zC (zO (cbr h ?_ ?_)))))))<;>intro h
 refine eg (qc (ln (er (zY (xS (.inl rfl) Tryz.results33 (v:=(vi 0)) (by kernel_rfl) (v':=(vi r8)) (by kernel_rfl) ⟨0,r8,rfl,h⟩)))))
 refine zB (zO (eg (qc (sc Tryz.call93 (h.mono fun e w8 ⟨r9,r10,k,hk,h⟩=>have ⟨hs,hb⟩:=hk.hh hs hb;⟨_,k,?_⟩)))))
 refine qd (ln (er (xS (.inl rfl) Tryz.results33 (v:=(vi r9)) (by kernel_rfl) (v':=(vi r10)) (by kernel_rfl) ⟨r9,r10,rfl,h⟩)))
def s_S1 (e1:Int):Int :=e1
theorem pw_S1 (e1:Int) (w0:World) :
  Calls Tryz.prog 36 #[(vi e1)] w0 (fun e w'=>(e=.returned (vi e1))∧Pure w0 w'):=by
 refine cw (args:=[(vi e1)]) Tryz.func36 Tryz.ntmps36 (eg (q0 (vi 0) (ln (eg (q0 (vi e1) (q0 (vi e1) (ln ?_)))))))
 refine er (rs1 Tryz.results36 (v:=(vi e1)) ⟨by kernel_rfl,Ext.refl _⟩)
theorem p_S1 (e1:Int) (w0:World):Calls Tryz.prog 36 #[(.int .i64 e1)] w0 (fun e w'=>e=.returned (.int .i64 (s_S1 e1))∧Pure w0 w'):=pw_S1 e1 w0
def m_G2 (aI aJ aF:Int) (aG:ByteArray) (aM:Bool) (w0:World) (K:Sl→WP):Prop :=∀p1 w1,New w0 (.cells #[(vi aI),(vi aJ),(vu aF),(vs aG),(vb aM)] 35) p1 w1→∃v1,w1.cell? p1=some (vi v1)∧Br (v1 == 1) (∃v2,w1.cell? (p1.add 4)=some (vb v2)∧Br v2 (K Sl.nil w1) (∃v3,w1.cell? (p1.add 1)=some (vi v3)∧Calls Tryz.prog 162 #[(vi 1),(vi v3),(vp (some p1))] w1 (fun e w2=>∃aA bK aC aD,e=.returned (Ah aA bK aC aD)∧∀p2 w3,New w2 (.cells #[(vi aA),(vi bK),(vu aC),(vs aD)] 75) p2 w3→K (Sl.mk (some p2) 1 1) w3))) (Br (v1 == 2) (∃v4,w1.cell? (p1.add 1)=some (vi v4)∧Calls Tryz.prog 162 #[(vi 2),(vi v4),(vp (some p1))] w1 (fun e w4=>∃aQ bR aO aR,e=.returned (Ah aQ bR aO aR)∧∀p3 w5,New w4 (.cells #[(vi aQ),(vi bR),(vu aO),(vs aR)] 75) p3 w5→K (Sl.mk (some p3) 1 1) w5)) (Br (v1 == 3) (Calls Tryz.prog 162 #[(vi 3),(vi 0),(vp (some p1))] w1 (fun e w6=>∃bH bS bI bJ,e=.returned (Ah bH bS bI bJ)∧∀p4 w7,New w6 (.cells #[(vi bH),(vi bS),(vu bI),(vs bJ)] 75) p4 w7→K (Sl.mk (some p4) 1 1) w7)) (Br (v1 == 4) (∃v5,w1.cell? (p1.add 1)=some (vi v5)∧Calls Tryz.prog 162 #[(vi 4),(vi v5),(vp (some p1))] w1 (fun e w8=>∃bT bU bV bW,e=.returned (Ah bT bU bV bW)∧∀p5 w9,New w8 (.cells #[(vi bT),(vi bU),(vu bV),(vs bW)] 75) p5 w9→∃v6,w9.cell? (p1.add 4)=some (vb v6)∧Br (!v6) (Calls Tryz.prog 162 #[(vi 1),(vi 0),(vp (some p1))] w9 (fun e w10=>∃bX bY bZ cA,e=.returned (Ah bX bY bZ cA)∧Calls Tryz.prog 162 #[(vi 1),(vi 1),(vp (some p1))] w10 (fun e w11=>∃cB cC cD cE,e=.returned (Ah cB cC cD cE)∧∀p6 w12,New w11 (.cells #[(vi bX),(vi bY),(vu bZ),(vs cA),(vi cB),(vi cC),(vu cD),(vs cE)] 75) p6 w12→∃s1:Sl,∃w13:World,(Builtin.append_ #[71,71] 71 #[(Sl.mk (some p5) 1 1).v,(Sl.mk (some p6) 2 2).v]).run Tryz.prog w12=.ok s1.v w13∧K s1 w13))) (K (Sl.mk (some p5) 1 1) w9))) (Br (v1 == 5) (Calls Tryz.prog 162 #[(vi 5),(vi 2),(vp (some p1))] w1 (fun e w14=>∃cF cG cH cI,e=.returned (Ah cF cG cH cI)∧∀p7 w15,New w14 (.cells #[(vi cF),(vi cG),(vu cH),(vs cI)] 75) p7 w15→K (Sl.mk (some p7) 1 1) w15)) (Br (v1 == 6) (Calls Tryz.prog 162 #[(vi 6),(vi 2),(vp (some p1))] w1 (fun e w16=>∃cJ cK cL cM,e=.returned (Ah cJ cK cL cM)∧Calls Tryz.prog 162 #[(vi 2),(vi 0),(vp (some p1))] w16 (fun e w17=>∃cN cO cP cQ,e=.returned (Ah cN cO cP cQ)∧Calls Tryz.prog 162 #[(vi 2),(vi 1),(vp (some p1))] w17 (fun e w18=>∃cR cS cT cU,e=.returned (Ah cR cS cT cU)∧∀p8 w19,New w18 (.cells #[(vi cJ),(vi cK),(vu cL),(vs cM),(vi cN),(vi cO),(vu cP),(vs cQ),(vi cR),(vi cS),(vu cT),(vs cU)] 75) p8 w19→K (Sl.mk (some p8) 3 3) w19)))) (K Sl.nil w1))))))
theorem w_G2 (aI aJ aF aG aM w0 K) (h:m_G2 aI aJ aF aG aM w0 K):
  Calls Tryz.prog 94 #[(.agg #[(vi aI),(vi aJ),(vu aF),(vs aG),(vb aM)])] w0 (fun e w'=>∃r1:Sl,e=.returned r1.v∧K r1 w'):=by
 refine cw (args:=[(Af aI aJ aF aG aM)]) Tryz.func94 Tryz.ntmps94 (eg (sn (O:=(.cells #[(vi aI),(vi aJ),(vu aF),(vs aG),(vb aM)] 35)) xb ?_))
 intro p1 w1 hn8
 have h:=h p1 w1 hn8
 refine q (ln (eg (qb (ln (zA (eg (q (ql (Tryz.isAgg3 _) h fun v1 h=>ln (zJ (eg (qb (ln (cbr h ?_ ?_)))))))))))))<;>intro h
 refine zA (eg (q (ql (Tryz.isAgg4 _) h fun v2 h=>ln (cbr h ?_ ?_))))<;>intro h
 refine eg (q (ln (er (zY (qN (zY (rs1 Tryz.results94 ⟨Sl.nil,rfl,h⟩)))))))
 refine zB (zO (eg (qb (ql (Tryz.isAgg3 _) h fun v3 h=>vN (zD rfl) (yY (fs:=#[]) (caps:=#[(vp (some p1))]) (args:=#[(vi 1),(vi v3)]) (args':=#[(vi 1),(vi v3),(vp (some p1))]) (by kernel_rfl) Tryz.call162 (by kernel_rfl) (by kernel_rfl)) (h.mono ?_)))))
 rintro e w2 ⟨aA,bK,aC,aD,rfl,h⟩
 refine ⟨_,rfl,?_⟩
 refine nw4 (fun p=>(Sl.mk (some p) 1 1).v) h fun p2 w3 h=>q (ln (er (qN (zY (rs1 Tryz.results94 ⟨(Sl.mk (some p2) 1 1),rfl,h⟩)))))
 refine eg (qb (ln (cbr h ?_ ?_)))<;>intro h
 refine eg (qb (ql (Tryz.isAgg3 _) h fun v4 h=>vN (zD rfl) (yY (fs:=#[]) (caps:=#[(vp (some p1))]) (args:=#[(vi 2),(vi v4)]) (args':=#[(vi 2),(vi v4),(vp (some p1))]) (by kernel_rfl) Tryz.call162 (by kernel_rfl) (by kernel_rfl)) (h.mono ?_)))
 rintro e w4 ⟨aQ,bR,aO,aR,rfl,h⟩
 refine ⟨_,rfl,?_⟩
 refine nw4 (fun p=>(Sl.mk (some p) 1 1).v) h fun p3 w5 h=>q (ln (er (qN (zY (rs1 Tryz.results94 ⟨(Sl.mk (some p3) 1 1),rfl,h⟩)))))
 refine eg (qb (ln (cbr h ?_ ?_)))<;>intro h
 refine eg (q (vN (zD rfl) (yY (fs:=#[]) (caps:=#[(vp (some p1))]) (args:=#[(vi 3),(vi 0)]) (args':=#[(vi 3),(vi 0),(vp (some p1))]) (by kernel_rfl) Tryz.call162 (by kernel_rfl) (by kernel_rfl)) (h.mono ?_)))
 rintro e w6 ⟨bH,bS,bI,bJ,rfl,h⟩
 refine ⟨_,rfl,?_⟩
 refine nw4 (fun p=>(Sl.mk (some p) 1 1).v) h fun p4 w7 h=>q (ln (er (qN (zY (rs1 Tryz.results94 ⟨(Sl.mk (some p4) 1 1),rfl,h⟩)))))
 refine eg (qb (ln (cbr h ?_ ?_)))<;>intro h
 refine eg (qb (ql (Tryz.isAgg3 _) h fun v5 h=>vN (zD rfl) (yY (fs:=#[]) (caps:=#[(vp (some p1))]) (args:=#[(vi 4),(vi v5)]) (args':=#[(vi 4),(vi v5),(vp (some p1))]) (by kernel_rfl) Tryz.call162 (by kernel_rfl) (by kernel_rfl)) (h.mono ?_)))
 rintro e w8 ⟨bT,bU,bV,bW,rfl,h⟩
 refine ⟨_,rfl,?_⟩
 refine nw4 (fun p=>(Sl.mk (some p) 1 1).v) h fun p5 w9 h=>q (ln (zA (eg (q (ql (Tryz.isAgg4 _) h fun v6 h=>q (ln (cbr h ?_ ?_)))))))<;>intro h
 refine rg (qb (vN (zD rfl) (yY (fs:=#[]) (caps:=#[(vp (some p1))]) (args:=#[(vi 1),(vi 0)]) (args':=#[(vi 1),(vi 0),(vp (some p1))]) (by kernel_rfl) Tryz.call162 (by kernel_rfl) (by kernel_rfl)) (h.mono ?_)))
 rintro e w10 ⟨bX,bY,bZ,cA,rfl,h⟩
 refine ⟨_,rfl,?_⟩
 refine q (vN (zD rfl) (yY (fs:=#[]) (caps:=#[(vp (some p1))]) (args:=#[(vi 1),(vi 1)]) (args':=#[(vi 1),(vi 1),(vp (some p1))]) (by kernel_rfl) Tryz.call162 (by kernel_rfl) (by kernel_rfl)) (h.mono ?_))
 rintro e w11 ⟨cB,cC,cD,cE,rfl,h⟩
 refine ⟨_,rfl,?_⟩
 refine nw4 (fun p=>(Sl.mk (some p) 2 2).v) h fun p6 w12 h=>?_
 obtain ⟨s1,w13,hv4,h⟩:=h
 refine st (v:=s1.v) (zD rfl) (vP (args:=#[(Sl.mk (some p5) 1 1).v,(Sl.mk (some p6) 2 2).v]) (by kernel_rfl) (fun _=>rfl) hv4) (q0 s1.v (ln (eg (q0 s1.v (q0 s1.v (ln (er (qN (zY (rs1 Tryz.results94 ⟨s1,rfl,h⟩))))))))))
 refine zB (zO (eg (qb (ln (er (qN (zY (rs1 Tryz.results94 ⟨(Sl.mk (some p5) 1 1),rfl,h⟩))))))))
 refine eg (qb (ln (cbr h ?_ ?_)))<;>intro h
 refine eg (q (vN (zD rfl) (yY (fs:=#[]) (caps:=#[(vp (some p1))]) (args:=#[(vi 5),(vi 2)]) (args':=#[(vi 5),(vi 2),(vp (some p1))]) (by kernel_rfl) Tryz.call162 (by kernel_rfl) (by kernel_rfl)) (h.mono ?_)))
 rintro e w14 ⟨cF,cG,cH,cI,rfl,h⟩
 refine ⟨_,rfl,?_⟩
 refine nw4 (fun p=>(Sl.mk (some p) 1 1).v) h fun p7 w15 h=>q (ln (er (qN (zY (rs1 Tryz.results94 ⟨(Sl.mk (some p7) 1 1),rfl,h⟩)))))
 refine eg (qb (ln (cbr h ?_ ?_)))<;>intro h
 refine eg (q (vN (zD rfl) (yY (fs:=#[]) (caps:=#[(vp (some p1))]) (args:=#[(vi 6),(vi 2)]) (args':=#[(vi 6),(vi 2),(vp (some p1))]) (by kernel_rfl) Tryz.call162 (by kernel_rfl) (by kernel_rfl)) (h.mono ?_)))
 rintro e w16 ⟨cJ,cK,cL,cM,rfl,h⟩
 refine ⟨_,rfl,?_⟩
 refine q (vN (zD rfl) (yY (fs:=#[]) (caps:=#[(vp (some p1))]) (args:=#[(vi 2),(vi 0)]) (args':=#[(vi 2),(vi 0),(vp (some p1))]) (by kernel_rfl) Tryz.call162 (by kernel_rfl) (by kernel_rfl)) (h.mono ?_))
 rintro e w17 ⟨cN,cO,cP,cQ,rfl,h⟩
 refine ⟨_,rfl,?_⟩
 refine q (vN (zD rfl) (yY (fs:=#[]) (caps:=#[(vp (some p1))]) (args:=#[(vi 2),(vi 1)]) (args':=#[(vi 2),(vi 1),(vp (some p1))]) (by kernel_rfl) Tryz.call162 (by kernel_rfl) (by kernel_rfl)) (h.mono ?_))
 rintro e w18 ⟨cR,cS,cT,cU,rfl,h⟩
 refine ⟨_,rfl,?_⟩
 refine nw4 (fun p=>(Sl.mk (some p) 3 3).v) h fun p8 w19 h=>q (ln (er (qN (zY (rs1 Tryz.results94 ⟨(Sl.mk (some p8) 3 3),rfl,h⟩)))))
 refine zB (yQ (zO (eg (q (ln (er (rs1 Tryz.results94 ⟨Sl.nil,rfl,h⟩)))))))
theorem tC (a0 a1 a2:Int) (a3:ByteArray) (b0 b1 b2:Int) (b3:ByteArray) (w:World):(Go.binOp .eql 75 (.agg #[(.int .i64 a0),(.int .i64 a1),(.int .u64 a2),(.string a3)]) (.agg #[(.int .i64 b0),(.int .i64 b1),(.int .u64 b2),(.string b3)])).run Tryz.prog w=.ok (.bool ((a0 == b0) && ((a1 == b1) && ((a2 == b2) && (decide (a3=b3)))))) w:=by
 simp [Go.binOp,Op.equal,Op.maxDepth,go_sem,jER,bne]
 repeat' split
 all_goals simp_all
def m_G1_l1 (who1 c1:Int) (text1:ByteArray) (r2:Sl) (why1 x1:Int) (w0:World) (Hl1:NP) (wl1:World) (Kc1:Int→Int→NP→WP) (K:Int→WP):Prop :=Br (decide (x1<(r2.len:Int))) (∃a1:Addr,At r2 x1 4 a1∧∃aH aL aN aK,Row wl1 a1 (Ai aH aL aN aK)∧Br (aH != 2) (∀H3 w8,Hst w0 Hl1 wl1 H3 w8→Kc1 why1 (q6.wrap (x1+1)) H3 w8) (Br ((aH == 2) && ((aL == who1) && ((aN == c1) && (decide (aK=text1))))) (∀H3 w8,Hst w0 Hl1 wl1 H3 w8→K 0 w8) (Br (aL != who1) (∀H3 w8,Hst w0 Hl1 wl1 H3 w8→∃z1,(Builtin.max_ #[3,3] 3 #[(vi why1),(vi 3)]).run Tryz.prog w8=.ok (vi z1) w8∧Kc1 z1 (q6.wrap (x1+1)) H3 w8) (Br (aN != c1) (∀H3 w8,Hst w0 Hl1 wl1 H3 w8→∃z2,(Builtin.max_ #[3,3] 3 #[(vi why1),(vi 4)]).run Tryz.prog w8=.ok (vi z2) w8∧Kc1 z2 (q6.wrap (x1+1)) H3 w8) (∀H3 w8,Hst w0 Hl1 wl1 H3 w8→∃z3,(Builtin.max_ #[3,3] 3 #[(vi why1),(vi 5)]).run Tryz.prog w8=.ok (vi z3) w8∧Kc1 z3 (q6.wrap (x1+1)) H3 w8))))) (K why1 wl1)
def m_G1 (p1:Option Addr) (t1 who1 c1:Int) (text1:ByteArray) (w0:World) (K:Int→WP):Prop :=Calls Tryz.prog 51 #[(vp p1),(vi t1)] w0 (fun e w1=>∃aA aB aC aD aE r1,e=.returned (.tuple #[(Af aA aB aC aD aE),(vb r1)])∧Kept None w0 w1∧Br (!r1) (∀H1 w3,Hst w0 None w1 H1 w3→K 1 w3) (∀H2 w5,Hst w0 None w1 H2 w5→Calls Tryz.prog 94 #[(.agg #[(vi aA),(vi aB),(vu aC),(vs aD),(vb aE)])] w5 (fun e w6=>∃r2:Sl,e=.returned r2.v∧Kept H2 w5 w6∧∃(I1:Int→Int→NP→WP) (mu1:Int→Int→World→Nat),I1 2 0 H2 w6∧∀(why1 x1:Int) (Hl1:NP) (wl1:World),Hst w0 Hl1 wl1 Hl1 wl1→I1 why1 x1 Hl1 wl1→m_G1_l1 who1 c1 text1 r2 why1 x1 w0 Hl1 wl1 (fun y'0 y'1 H' w'=>I1 y'0 y'1 H' w'∧mu1 y'0 y'1 w'<mu1 why1 x1 wl1) K)))
theorem w_G1 (p1 t1 who1 c1 text1 w0 K) (h:m_G1 p1 t1 who1 c1 text1 w0 K):
  Calls Tryz.prog 35 #[(vp p1),(vi t1),(vi who1),(vu c1),(vs text1)] w0 (fun e w'=>∃r3,e=.returned (vi r3)∧K r3 w'):=by
 refine cw (args:=[(vp p1),(vi t1),(vi who1),(vu c1),(vs text1)]) Tryz.func35 Tryz.ntmps35 ?_
 obtain ⟨hs,hb⟩:=st0 w0
 refine eg (q (ln (eg (qb (sc Tryz.call51 (h.mono fun e w1 ⟨aA,aB,aC,aD,aE,r1,k,hk,h⟩=>have ⟨hs,hb⟩:=hk.hh hs hb;⟨_,k,?_⟩))))))
 refine qc (nw3 (Ac 0 0 0 (⟨#[]⟩) false) 35 hs hb (zM (Tryz.zeroValue35 _) rfl) fun p2 w2 H1 hs hb=>zK (zD rfl) (xo p2 (Ac aA aB aC aD aE) (Tryz.sizeOf35 _) (hb.k0 0 5 gZ)) ?_)
 intro w3 hn2
 obtain ⟨hs,hb⟩:=hb.st1 0 hs hn2 gZ
 refine q (ln (zA (eg (qb (ln (cbr h ?_ ?_))))))<;>intro h
 refine eg (q (ln (er (zY ?_))))
 have ⟨h,hs⟩:=hs.hr (h H1 w3)
 refine rs1 Tryz.results35 ⟨1,rfl,h⟩
 refine zB (zO (eg (qd (nw3 (Ai 0 0 0 (⟨#[]⟩)) 75 hs hb (zM (Tryz.zeroValue75 _) rfl) fun p3 w4 H2 hs hb=>zK (zD rfl) (xo p3 (Ai 2 who1 c1 text1) (Tryz.sizeOf75 _) (hb.k0 0 4 gZ)) ?_))))
 intro w5 hn4
 obtain ⟨hs,hb⟩:=hb.st1 0 hs hn4 gZ
 refine ln (eg (q (ln (zA (eg (q2 (Af aA aB aC aD aE) (xa p2 (Ac aA aB aC aD aE) (Tryz.isAgg35 _) (Tryz.sizeOf35 _) (hb.r0 1 5 (gS gZ))) ?_))))))
 have ⟨h,hs⟩:=hs.hr (h H2 w5)
 refine sc Tryz.call94 (h.mono fun e w6 ⟨r2,k,hk,h⟩=>have ⟨hs,hb⟩:=hk.hh hs hb;⟨_,k,?_⟩)
 refine qb (ln (zJ ?_))
 obtain ⟨I1,mu1,h0,hr⟩:=h
 refine vH (σ:=Int×Int×NP×World) (fun s ρ w=>w=s.2.2.2∧Has ρ [(2,(vi who1)),(3,(vu c1)),(13,(vp (some p3))),(14,(vi s.1)),(30,r2.v),(31,(vi (r2.len:Int))),(32,(vi s.2.1))]∧Hst w0 s.2.2.1 w s.2.2.1 w∧HB s.2.2.1 w [(p3,(Ai 2 who1 c1 text1),75),(p2,(Ac aA aB aC aD aE),35)]∧I1 s.1 s.2.1 s.2.2.1 s.2.2.2) (fun s=>mu1 s.1 s.2.1 s.2.2.2) (2,0,H2,w6) ⟨rfl,hm,hs,hb,h0⟩ ?_
 rintro ⟨why1,x1,Hl1,wl1⟩ ρ w ⟨hw,hH,hs,hb,hI⟩
 dsimp only at hw hH hs hb;subst w
 have h:=hr why1 x1 Hl1 wl1 hs hI
 refine zU hH (eg (q (ln (zA (cbr h ?_ ?_)))))<;>intro h
 refine zB (zO (zA (zJ (eg (qi (Tryz.runUnderlying71 _) (Tryz.sizeOf75 _) h fun a1 h=>?_)))))
 obtain ⟨aH,aL,aN,aK,hv4,h⟩:=h
 refine qa (Tryz.isAgg75 _) (Tryz.sizeOf75 _) hv4 (nw3 (Ai 0 0 0 (⟨#[]⟩)) 75 hs hb (zM (Tryz.zeroValue75 _) rfl) fun p4 w7 H3 hs hb=>zK (zD rfl) (xo p4 (Ai aH aL aN aK) (Tryz.sizeOf75 _) (hb.k0 0 4 gZ)) ?_)
 intro w8 hn6
 obtain ⟨hs,hb⟩:=hb.st1 0 hs hn6 gZ
 refine ln (zJ (eg (q (q3 (xl (Tryz.isAgg3 _) (hb.d0 0 gZ)) (qb (ln (cbr h ?_ ?_)))))))<;>intro h
 refine zB (yQ (yQ (zO (rg (qb (zC ?_))))))
 have ⟨h,hs⟩:=hs.hr (h H3 w8)
 refine zO ⟨(why1,(q6.wrap (x1+1)),H3,w8),⟨rfl,hm,hs,hb.drop 1,h.1⟩,h.2⟩
 refine eg (q2 (Ah aH aL aN aK) (xa p4 (Ai aH aL aN aK) (Tryz.isAgg75 _) (Tryz.sizeOf75 _) (hb.r0 0 4 gZ)) (q2 (Ah 2 who1 c1 text1) (xa p3 (Ai 2 who1 c1 text1) (Tryz.isAgg75 _) (Tryz.sizeOf75 _) (hb.r0 1 4 (gS gZ))) (q2 (vb ((aH == 2) && ((aL == who1) && ((aN == c1) && (decide (aK=text1)))))) (jCH (by kernel_rfl) (by kernel_rfl) (by kernel_rfl) (tC aH aL aN aK 2 who1 c1 text1 _)) (q (ln (cbr h ?_ ?_))))))<;>intro h
 refine eg (q (ln (er (qN (qN (zY (zY (qN (zY ?_)))))))))
 have ⟨h,hs⟩:=hs.hr (h H3 w8)
 refine rs1 Tryz.results35 ⟨0,rfl,h⟩
 refine eg (q (q3 (xl (Tryz.isAgg3 _) (hb.d 0 1 gZ)) (qc (ln (cbr h ?_ ?_)))))<;>intro h
 refine rg (q ?_)
 have ⟨h,hs⟩:=hs.hr (h H3 w8)
 obtain ⟨z1,hv1,h⟩:=h
 refine q2 (vi z1) (vP (args:=#[(vi why1),(vi 3)]) (by kernel_rfl) (fun _=>rfl) hv1) (q (zC (yQ (yQ (zO (rg (qb (ln ⟨(z1,(q6.wrap (x1+1)),H3,w8),⟨rfl,hm,hs,hb.drop 1,h.1⟩,h.2⟩))))))))
 refine eg (q (q3 (xl (Tryz.isAgg23 _) (hb.d 0 2 gZ)) (qc (ln (cbr h ?_ ?_)))))<;>intro h
 refine rg (q ?_)
 have ⟨h,hs⟩:=hs.hr (h H3 w8)
 obtain ⟨z2,hv2,h⟩:=h
 refine q2 (vi z2) (vP (args:=#[(vi why1),(vi 4)]) (by kernel_rfl) (fun _=>rfl) hv2) (q (zC (yQ (yQ (zO (rg (qb (ln ⟨(z2,(q6.wrap (x1+1)),H3,w8),⟨rfl,hm,hs,hb.drop 1,h.1⟩,h.2⟩))))))))
 refine rg (q ?_)
 have ⟨h,hs⟩:=hs.hr (h H3 w8)
 obtain ⟨z3,hv3,h⟩:=h
 refine q2 (vi z3) (vP (args:=#[(vi why1),(vi 5)]) (by kernel_rfl) (fun _=>rfl) hv3) (q (zC (yQ (yQ (zO (rg (qb (ln ⟨(z3,(q6.wrap (x1+1)),H3,w8),⟨rfl,hm,hs,hb.drop 1,h.1⟩,h.2⟩))))))))
 refine vF (yM (yM (yK (zO (eg (q0 (vi why1) (q0 (vi why1) (ln (er (rs1 Tryz.results35 ⟨why1,rfl,h⟩))))))))))
def m_J3 (p1:Option Addr) (t1 who1 c1:Int) (text1:ByteArray) (w0:World) (K:Bool→WP):Prop :=Calls Tryz.prog 35 #[(vp p1),(vi t1),(vi who1),(vu c1),(vs text1)] w0 (fun e w1=>∃r1,e=.returned (vi r1)∧K (r1 == 0) w1)
theorem w_J3 (p1 t1 who1 c1 text1 w0 K) (h:m_J3 p1 t1 who1 c1 text1 w0 K):
  Calls Tryz.prog 45 #[(vp p1),(vi t1),(vi who1),(vu c1),(vs text1)] w0 (fun e w'=>∃r2,e=.returned (vb r2)∧K r2 w'):=by
 refine cw (args:=[(vp p1),(vi t1),(vi who1),(vu c1),(vs text1)]) Tryz.func45 Tryz.ntmps45 (eg (q0 (vb false) (ln (eg (q0 (vp p1) (q0 (vi t1) (q0 (vi who1) (q0 (vu c1) ?_))))))))
 refine q (sc Tryz.call35 (h.mono fun e w1 ⟨r1,k,h⟩=>⟨_,k,?_⟩))
 refine qb (ln (er (rs1 Tryz.results45 ⟨(r1 == 0),rfl,h⟩)))
def m_K3 (p1:Option Addr) (t1:Int) (w0:World) (K:Sl→WP):Prop :=Calls Tryz.prog 51 #[(vp p1),(vi t1)] w0 (fun e w1=>∃aA aB aC aD aE r1,e=.returned (.tuple #[(Af aA aB aC aD aE),(vb r1)])∧Kept None w0 w1∧Br (!r1) (∀H1 w3,Hst w0 None w1 H1 w3→K Sl.nil w3) (∀H1 w3,Hst w0 None w1 H1 w3→Calls Tryz.prog 94 #[(.agg #[(vi aA),(vi aB),(vu aC),(vs aD),(vb aE)])] w3 (fun e w4=>∃r2:Sl,e=.returned r2.v∧Kept H1 w3 w4∧K r2 w4)))
theorem w_K3 (p1 t1 w0 K) (h:m_K3 p1 t1 w0 K):
  Calls Tryz.prog 34 #[(vp p1),(vi t1)] w0 (fun e w'=>∃r3:Sl,e=.returned r3.v∧K r3 w'):=by
 refine cw (args:=[(vp p1),(vi t1)]) Tryz.func34 Tryz.ntmps34 ?_
 obtain ⟨hs,hb⟩:=st0 w0
 refine eg (q (ln (eg (qb (sc Tryz.call51 (h.mono fun e w1 ⟨aA,aB,aC,aD,aE,r1,k,hk,h⟩=>have ⟨hs,hb⟩:=hk.hh hs hb;⟨_,k,?_⟩))))))
 refine qc (nw3 (Ac 0 0 0 (⟨#[]⟩) false) 35 hs hb (zM (Tryz.zeroValue35 _) rfl) fun p2 w2 H1 hs hb=>zK (zD rfl) (xo p2 (Ac aA aB aC aD aE) (Tryz.sizeOf35 _) (hb.k0 0 5 gZ)) ?_)
 intro w3 hn2
 obtain ⟨hs,hb⟩:=hb.st1 0 hs hn2 gZ
 refine q (ln (zA (eg (qb (ln (cbr h ?_ ?_))))))<;>intro h
 refine eg (q (ln (er (zY ?_))))
 have ⟨h,hs⟩:=hs.hr (h H1 w3)
 refine rs1 Tryz.results34 ⟨Sl.nil,rfl,h⟩
 refine zB (zO (eg (q2 (Af aA aB aC aD aE) (xa p2 (Ac aA aB aC aD aE) (Tryz.isAgg35 _) (Tryz.sizeOf35 _) (hb.r0 0 5 gZ)) ?_)))
 have ⟨h,hs⟩:=hs.hr (h H1 w3)
 refine sc Tryz.call94 (h.mono fun e w4 ⟨r2,k,hk,h⟩=>have ⟨hs,hb⟩:=hk.hh hs hb;⟨_,k,?_⟩)
 refine q (ln (er (rs1 Tryz.results34 ⟨r2,rfl,h⟩)))
def m_U_l2 (p1:Option Addr) (r3 out1:Sl) (x2:Int) (wl2:World) (Kc2:Sl→Int→WP) (K:Sl→WP):Prop :=Br (decide (x2<(r3.len:Int))) (∃a2:Addr,At r3 x2 1 a2∧∃v2,wl2.cell? a2=some (vi v2)∧Calls Tryz.prog 34 #[(vp p1),(vi v2)] wl2 (fun e w4=>∃r4:Sl,e=.returned r4.v∧∃s1:Sl,∃w5:World,(Builtin.append_ #[71,71] 71 #[out1.v,r4.v]).run Tryz.prog w4=.ok s1.v w5∧Kc2 s1 (q6.wrap (x2+1)) w5)) (Calls Tryz.prog 81 #[out1.v,(.func (.func 28) #[] #[])] wl2 (fun e w6=>e=.returned (.tuple #[])∧Calls Tryz.prog 82 #[out1.v] w6 (fun e w7=>∃r5:Sl,e=.returned r5.v∧K r5 w7)))
def m_U_l1 (p1:Option Addr) (l1:Sl) (r1:Option Addr) (x1:Int) (wl1:World) (Kc1:Int→WP) (K:Sl→WP):Prop :=Br (decide (x1<(l1.len:Int))) (∃a1:Addr,At l1 x1 1 a1∧∃v1,wl1.cell? a1=some (vi v1)∧Calls Tryz.prog 79 #[(vp r1),(vi v1)] wl1 (fun e w2=>∃r2,e=.returned (vi r2)∧Kc1 (q6.wrap (x1+1)) w2)) (Calls Tryz.prog 80 #[(vp r1)] wl1 (fun e w3=>∃r3:Sl,e=.returned r3.v∧∃(I2:Sl→Int→WP) (mu2:Sl→Int→World→Nat),I2 Sl.nil 0 w3∧∀(out1:Sl) (x2:Int) (wl2:World),I2 out1 x2 wl2→m_U_l2 p1 r3 out1 x2 wl2 (fun y'0 y'1 w'=>I2 y'0 y'1 w'∧mu2 y'0 y'1 w'<mu2 out1 x2 wl2) K))
def m_U (p1:Option Addr) (l1:Sl) (w0:World) (K:Sl→WP):Prop :=Calls Tryz.prog 62 #[(vp p1)] w0 (fun e w1=>∃r1,e=.returned (vp r1)∧∃(I1:Int→WP) (mu1:Int→World→Nat),I1 0 w1∧∀(x1:Int) (wl1:World),I1 x1 wl1→m_U_l1 p1 l1 r1 x1 wl1 (fun y'0 w'=>I1 y'0 w'∧mu1 y'0 w'<mu1 x1 wl1) K)
theorem w_U (p1 l1 w0 K) (h:m_U p1 l1 w0 K):
  Calls Tryz.prog 26 #[(vp p1),l1.v] w0 (fun e w'=>∃r6:Sl,e=.returned r6.v∧K r6 w'):=by
 refine cw (args:=[(vp p1),l1.v]) Tryz.func26 Tryz.ntmps26 (eg (q0 Sl.nil.v (ln (eg (q0 (vp p1) ?_)))))
 refine sc Tryz.call62 (h.mono fun e w1 ⟨r1,k,h⟩=>⟨_,k,?_⟩)
 refine q (ln (zA (eg (qc (ln (zJ ?_))))))
 obtain ⟨I1,mu1,h0,hr⟩:=h
 refine vH (σ:=Int×World) (fun s ρ w=>w=s.2∧Has ρ [(0,(vp p1)),(5,(vp r1)),(13,l1.v),(14,(vi (l1.len:Int))),(15,(vi s.1))]∧I1 s.1 s.2) (fun s=>mu1 s.1 s.2) (0,w1) ⟨rfl,hm,h0⟩ ?_
 rintro ⟨x1,wl1⟩ ρ w ⟨hw,hH,hI⟩
 dsimp only at hw hH;subst w
 have h:=hr x1 wl1 hI
 refine zU hH (eg (q (ln (zA (cbr h ?_ ?_)))))<;>intro h
 refine zB (zO (zA (zJ (eg (qi (Tryz.runUnderlying46 _) (Tryz.sizeOf78 _) h fun a1 h=>ql (Tryz.isAgg78 _) h fun v1 h=>q (ln (rg (qb (sc Tryz.call79 (h.mono fun e w2 ⟨r2,k,h⟩=>⟨_,k,?_⟩))))))))))
 refine zC (yQ (zO (rg (qb (ln ⟨((q6.wrap (x1+1)),w2),⟨rfl,hm,h.1⟩,h.2⟩)))))
 refine vF (yM (yM (yK (zO (eg (q0 Sl.nil.v (ln (zA (zA (rg (q (sc Tryz.call80 (h.mono fun e w3 ⟨r3,k,h⟩=>⟨_,k,?_⟩)))))))))))))
 refine qb (ln (zJ ?_))
 obtain ⟨I2,mu2,h0,hr⟩:=h
 refine vH (σ:=Sl×Int×World) (fun s ρ w=>w=s.2.2∧Has ρ [(0,(vp p1)),(8,s.1.v),(24,r3.v),(25,(vi (r3.len:Int))),(26,(vi s.2.1))]∧I2 s.1 s.2.1 s.2.2) (fun s=>mu2 s.1 s.2.1 s.2.2) (Sl.nil,0,w3) ⟨rfl,hm,h0⟩ ?_
 rintro ⟨out1,x2,wl2⟩ ρ w ⟨hw,hH,hI⟩
 dsimp only at hw hH;subst w
 have h:=hr out1 x2 wl2 hI
 refine zU hH (eg (q (ln (zA (cbr h ?_ ?_)))))<;>intro h
 refine zB (zO (zA (zJ (eg (qi (Tryz.runUnderlying46 _) (Tryz.sizeOf78 _) h fun a2 h=>ql (Tryz.isAgg78 _) h fun v2 h=>q (ln (rg (qc (sc Tryz.call34 (h.mono fun e w4 ⟨r4,k,h⟩=>⟨_,k,?_⟩))))))))))
 obtain ⟨s1,w5,hv3,h⟩:=h
 refine st (v:=s1.v) (zD rfl) (vP (args:=#[out1.v,r4.v]) (by kernel_rfl) (fun _=>rfl) hv3) (q0 s1.v (zC (yQ (zO (rg (q0 (vi (q6.wrap (x2+1))) (q0 (vi (q6.wrap (x2+1))) (ln ⟨(s1,(q6.wrap (x2+1)),w5),⟨rfl,hm,h.1⟩,h.2⟩))))))))
 refine vF (yM (yM (yK (zO (eg (q0 out1.v (sc Tryz.call81 (h.mono fun e w6 ⟨k,h⟩=>⟨_,k,?_⟩))))))))
 refine ln (eg (q (sc Tryz.call82 (h.mono fun e w7 ⟨r5,k,h⟩=>⟨_,k,?_⟩))))
 refine q (ln (er (rs1 Tryz.results26 ⟨r5,rfl,h⟩)))
def m_J_j4 (r1:Option Addr) (r12:Int) (x4:Bool) (H:NP) (w:World) (K:Bool→WP):Prop :=Br x4 (∀p2 w24,New w (.cells #[(vi r12)] 78) p2 w24→Calls Tryz.prog 26 #[(vp r1),(Sl.mk (some p2) 1 1).v] w24 (fun e w25=>∃r15:Sl,e=.returned r15.v∧Kept H w24 w25∧K (((r15.len:Int):Int) == 3) w25)) (K false w)
def m_J_j3 (r1:Option Addr) (r6 r12:Int) (x3:Bool) (H:NP) (w:World) (K:Bool→WP):Prop :=Br x3 (Calls Tryz.prog 34 #[(vp r1),(vi r6)] w (fun e w26=>∃r16:Sl,e=.returned r16.v∧Kept H w w26∧m_J_j4 r1 r12 (((r16.len:Int):Int) == 3) H w26 K)) (m_J_j4 r1 r12 false H w K)
def m_J_j2 (r1:Option Addr) (r2 r6 r12:Int) (x2:Bool) (H:NP) (w:World) (K:Bool→WP):Prop :=Br x2 (Calls Tryz.prog 35 #[(vp r1),(vi r2),(vi 0),(vu 7),(vs (⟨#[120]⟩:ByteArray))] w (fun e w27=>∃r17,e=.returned (vi r17)∧Kept H w w27∧m_J_j3 r1 r6 r12 (r17 == 2) H w27 K)) (m_J_j3 r1 r6 r12 false H w K)
def m_J_j1 (r1:Option Addr) (r2 r6 r12:Int) (x1:Bool) (H:NP) (w:World) (K:Bool→WP):Prop :=Br x1 (Calls Tryz.prog 45 #[(vp r1),(vi r2),(vi 0),(vu 7),(vs (⟨#[120]⟩:ByteArray))] w (fun e w28=>∃r18,e=.returned (vb r18)∧Kept H w w28∧m_J_j2 r1 r2 r6 r12 (!r18) H w28 K)) (m_J_j2 r1 r2 r6 r12 false H w K)
def m_J  (w0:World) (K:Bool→WP):Prop :=Calls Tryz.prog 61 #[] w0 (fun e w1=>∃r1,e=.returned (vp r1)∧Kept None w0 w1∧Br (Option.isNone r1) (K false w1) (Calls Tryz.prog 76 #[(vp r1),(.agg #[(vi 1),(vi 0),(vu 7),(vs (⟨#[120]⟩:ByteArray)),(vb false)])] w1 (fun e w2=>∃r2 r3,e=.returned (.tuple #[(vi r2),(vi r3)])∧Kept None w1 w2∧Calls Tryz.prog 76 #[(vp r1),(.agg #[(vi 1),(vi 1),(vu 7),(vs (⟨#[120]⟩:ByteArray)),(vb false)])] w2 (fun e w3=>∃r4 r5,e=.returned (.tuple #[(vi r4),(vi r5)])∧Kept None w2 w3∧Calls Tryz.prog 32 #[(vp r1),(vi r2),(vi r4)] w3 (fun e w4=>∃r6 r7,e=.returned (.tuple #[(vi r6),(vi r7)])∧Kept None w3 w4∧Calls Tryz.prog 32 #[(vp r1),(vi r2),(vi r2)] w4 (fun e w5=>∃r8 r9,e=.returned (.tuple #[(vi r8),(vi r9)])∧Kept None w4 w5∧Calls Tryz.prog 32 #[(vp r1),(vi r2),(vi r6)] w5 (fun e w6=>∃r10 r11,e=.returned (.tuple #[(vi r10),(vi r11)])∧Kept None w5 w6∧Calls Tryz.prog 33 #[(vp r1),(vi 1),(vi r2),(vi r4)] w6 (fun e w7=>∃r12 r13,e=.returned (.tuple #[(vi r12),(vi r13)])∧Kept None w6 w7∧Calls Tryz.prog 51 #[(vp r1),(vi r12)] w7 (fun e w8=>∃aA aB aC aD aE r14,e=.returned (.tuple #[(Af aA aB aC aD aE),(vb r14)])∧Kept None w7 w8∧∀y1:Bool,y1=((((r7 == 0) && (r9 == 122)) && (r11 == 120)) && (r13 == 0))→Br (((y1 && r14) && (aA == 4)) && (aB == 1)) (∀H7 w23,Hst w0 None w8 H7 w23→Calls Tryz.prog 45 #[(vp r1),(vi r6),(vi 0),(vu 7),(vs (⟨#[120]⟩:ByteArray))] w23 (fun e w29=>∃r19,e=.returned (vb r19)∧Kept H7 w23 w29∧m_J_j1 r1 r2 r6 r12 r19 H7 w29 K)) (∀H7 w23,Hst w0 None w8 H7 w23→m_J_j1 r1 r2 r6 r12 false H7 w23 K))))))))))
theorem w_J  (w0:World) (K:Bool→WP) (h:m_J  w0 K) :
  Calls Tryz.prog 24 #[] w0 (fun e w'=>∃r20,e=.returned (vb r20)∧K r20 w'):=by
 refine cw (args:=[]) Tryz.func24 Tryz.ntmps24 ?_
 obtain ⟨hs,hb⟩:=st0 w0
 refine eg (q (ln (eg (sc Tryz.call61 (h.mono fun e w1 ⟨r1,k,hk,h⟩=>have ⟨hs,hb⟩:=hk.hh hs hb;⟨_,k,?_⟩)))))
 refine q (ln (zA (eg (q (q2 (vb (Option.isNone r1)) (xV (by kernel_rfl) rfl Tryz.underlying68) (ln (cbr h ?_ ?_)))))))<;>intro h
 refine eg (q (ln (er (zY (rs1 Tryz.results24 ⟨false,rfl,h⟩)))))
 refine zB (zO (eg (qb (sc Tryz.call76 (h.mono fun e w2 ⟨r2,r3,k,hk,h⟩=>have ⟨hs,hb⟩:=hk.hh hs hb;⟨_,k,?_⟩)))))
 refine q (qd (ln (eg (qb (sc Tryz.call76 (h.mono fun e w3 ⟨r4,r5,k,hk,h⟩=>have ⟨hs,hb⟩:=hk.hh hs hb;⟨_,k,?_⟩))))))
 refine q (qd (ln (eg (qc (sc Tryz.call32 (h.mono fun e w4 ⟨r6,r7,k,hk,h⟩=>have ⟨hs,hb⟩:=hk.hh hs hb;⟨_,k,?_⟩))))))
 refine q (qd (ln (eg (qc (sc Tryz.call32 (h.mono fun e w5 ⟨r8,r9,k,hk,h⟩=>have ⟨hs,hb⟩:=hk.hh hs hb;⟨_,k,?_⟩))))))
 refine q (qd (ln (eg (qc (sc Tryz.call32 (h.mono fun e w6 ⟨r10,r11,k,hk,h⟩=>have ⟨hs,hb⟩:=hk.hh hs hb;⟨_,k,?_⟩))))))
 refine q (qd (ln (eg (qc (sc Tryz.call33 (h.mono fun e w7 ⟨r12,r13,k,hk,h⟩=>have ⟨hs,hb⟩:=hk.hh hs hb;⟨_,k,?_⟩))))))
 refine q (qd (ln (eg (qb (sc Tryz.call51 (h.mono fun e w8 ⟨aA,aB,aC,aD,aE,r14,k,hk,h⟩=>have ⟨hs,hb⟩:=hk.hh hs hb;⟨_,k,?_⟩))))))
 refine qc (nw3 (Ac 0 0 0 (⟨#[]⟩) false) 35 hs hb (zM (Tryz.zeroValue35 _) rfl) fun p1 w9 H1 hs hb=>zK (zD rfl) (xo p1 (Ac aA aB aC aD aE) (Tryz.sizeOf35 _) (hb.k0 0 5 gZ)) ?_)
 intro w10 hn2
 obtain ⟨hs,hb⟩:=hb.st1 0 hs hn2 gZ
 refine q (ln (eg (q (sc Tryz.call36 ((p_S1 r7 w10).mono ?_)))))
 rintro e w11 ⟨he,hE⟩
 refine ⟨_,he,?_⟩
 obtain ⟨hs,hb⟩:=hs.pp hb hE
 refine qb (zN 4 (fun ρ wJ=>∃b1'0:Bool,∃HJ:NP,((r7 == 0)=b1'0)∧Hst w0 None w8 HJ wJ∧HB HJ wJ [(p1,(Ac aA aB aC aD aE),35)]∧Has ρ [(1,(vp r1)),(2,(vi r2)),(6,(vi r6)),(11,(vi r11)),(12,(vi r12)),(13,(vi r13)),(14,(vp (some p1))),(15,(vb r14)),(72,(vb (b1'0 && (r9 == 122))))]) ?_ ?_)
 rintro ρ w13 ⟨b1'0,H2,he0,hs,hb,hH⟩
 subst he0
 refine zQ hH (q (zN 4 (fun ρ wJ=>∃b2'0:Bool,∃HJ:NP,(((r7 == 0) && (r9 == 122))=b2'0)∧Hst w0 None w8 HJ wJ∧HB HJ wJ [(p1,(Ac aA aB aC aD aE),35)]∧Has ρ [(1,(vp r1)),(2,(vi r2)),(6,(vi r6)),(12,(vi r12)),(13,(vi r13)),(14,(vp (some p1))),(15,(vb r14)),(77,(vb (b2'0 && (r11 == 120))))]) ?_ ?_))
 rintro ρ w16 ⟨b2'0,H3,he0,hs,hb,hH⟩
 subst he0
 refine zQ hH (q (zN 4 (fun ρ wJ=>∃b3'0 y1:Bool,∃HJ:NP,((((r7 == 0) && (r9 == 122)) && (r11 == 120))=b3'0)∧(y1=(b3'0 && (r13 == 0)))∧Hst w0 None w8 HJ wJ∧HB HJ wJ [(p1,(Ac aA aB aC aD aE),35)]∧Has ρ [(1,(vp r1)),(2,(vi r2)),(6,(vi r6)),(12,(vi r12)),(14,(vp (some p1))),(15,(vb r14)),(82,(vb y1))]) ?_ ?_))
 rintro ρ w19 ⟨b3'0,y1,H4,he0,hy1,hs,hb,hH⟩
 subst he0
 have h:=h y1 hy1
 refine zQ hH (q (zN 2 (fun ρ wJ=>∃b4'0:Bool,∃HJ:NP,(y1=b4'0)∧Hst w0 None w8 HJ wJ∧HB HJ wJ [(p1,(Ac aA aB aC aD aE),35)]∧Has ρ [(1,(vp r1)),(2,(vi r2)),(6,(vi r6)),(12,(vi r12)),(14,(vp (some p1))),(85,(vb (b4'0 && r14)))]) ?_ ?_))
 rintro ρ w21 ⟨b4'0,H5,he0,hs,hb,hH⟩
 subst he0
 refine zQ hH (q (zN 4 (fun ρ wJ=>∃b5'0:Bool,∃HJ:NP,((y1 && r14)=b5'0)∧Hst w0 None w8 HJ wJ∧HB HJ wJ [(p1,(Ac aA aB aC aD aE),35)]∧Has ρ [(1,(vp r1)),(2,(vi r2)),(6,(vi r6)),(12,(vi r12)),(14,(vp (some p1))),(90,(vb (b5'0 && (aA == 4))))]) ?_ ?_))
 rintro ρ w22 ⟨b5'0,H6,he0,hs,hb,hH⟩
 subst he0
 refine zQ hH (q (zN 4 (fun ρ wJ=>∃b6'0:Bool,∃HJ:NP,(((y1 && r14) && (aA == 4))=b6'0)∧Hst w0 None w8 HJ wJ∧HB HJ wJ [(p1,(Ac aA aB aC aD aE),35)]∧Has ρ [(1,(vp r1)),(2,(vi r2)),(6,(vi r6)),(12,(vi r12)),(95,(vb (b6'0 && (aB == 1))))]) ?_ ?_))
 rintro ρ w23 ⟨b6'0,H7,he0,hs,hb,hH⟩
 subst he0
 refine zQ hH (q (zN 4 (fun ρ w=>∃x1,∃H:NP,Has ρ [(1,(vp r1)),(2,(vi r2)),(6,(vi r6)),(12,(vi r12)),(100,(vb x1))]∧Hst w0 H w H w∧HB H w [(p1,(Ac aA aB aC aD aE),35)]∧m_J_j1 r1 r2 r6 r12 x1 H w K) ?_ ?_))
 rintro ρ w ⟨x1,H,hH,hs,hb,h⟩
 refine zQ hH (q (zN 5 (fun ρ w=>∃x2,∃H:NP,Has ρ [(1,(vp r1)),(2,(vi r2)),(6,(vi r6)),(12,(vi r12)),(106,(vb x2))]∧Hst w0 H w H w∧HB H w [(p1,(Ac aA aB aC aD aE),35)]∧m_J_j2 r1 r2 r6 r12 x2 H w K) ?_ ?_))
 rintro ρ w ⟨x2,H,hH,hs,hb,h⟩
 refine zQ hH (q (zN 5 (fun ρ w=>∃x3,∃H:NP,Has ρ [(1,(vp r1)),(6,(vi r6)),(12,(vi r12)),(112,(vb x3))]∧Hst w0 H w H w∧HB H w [(p1,(Ac aA aB aC aD aE),35)]∧m_J_j3 r1 r6 r12 x3 H w K) ?_ ?_))
 rintro ρ w ⟨x3,H,hH,hs,hb,h⟩
 refine zQ hH (q (zN 6 (fun ρ w=>∃x4,∃H:NP,Has ρ [(1,(vp r1)),(12,(vi r12)),(119,(vb x4))]∧Hst w0 H w H w∧HB H w [(p1,(Ac aA aB aC aD aE),35)]∧m_J_j4 r1 r12 x4 H w K) ?_ ?_))
 rintro ρ w ⟨x4,H,hH,hs,hb,h⟩
 refine zQ hH (q ?_)
 rcases Bool.eq_false_or_eq_true x4 with hg13 | hg13
 have h:=h.1 hg13
 refine qk 120 hg13 (qk 120 hg13 (tH (O:=(.cells #[(vi r12)] 78)) (fun p=>(Sl.mk (some p) 1 1).v) (wy 120 hg13) (vR (vs:=#[(0,(vi r12))]) (by kernel_rfl) (by kernel_rfl)) ?_))
 intro p2 w24 hn3
 have h:=h p2 w24 hn3
 obtain ⟨hs,hb⟩:=hs.nw hb hn3
 refine vN (wy 120 hg13) (xc Tryz.call26) (h.mono ?_)
 rintro e w25 ⟨r15,rfl,hk,h⟩
 refine ⟨_,rfl,?_⟩
 obtain ⟨hs,hb⟩:=hk.hh hs hb
 refine qk 120 hg13 (qk 120 hg13 (q2 (vb (((r15.len:Int):Int) == 3)) (xT hg13) (q (ln (er (rs1 Tryz.results24 ⟨(((r15.len:Int):Int) == 3),rfl,h⟩))))))
 have h:=h.2 hg13
 refine sj 120 hg13 (sj5 120 hg13 (q2 (vb false) (xF hg13) (q (ln (er (rs1 Tryz.results24 ⟨false,rfl,h⟩))))))
 rcases Bool.eq_false_or_eq_true x3 with hg14 | hg14
 have h:=h.1 hg14
 refine qk 113 hg14 (qk 113 hg14 (vN (wy 113 hg14) (xc Tryz.call34) (h.mono ?_)))
 rintro e w26 ⟨r16,rfl,hk,h⟩
 refine ⟨_,rfl,?_⟩
 obtain ⟨hs,hb⟩:=hk.hh hs hb
 refine qk 113 hg14 (qk 113 hg14 (q2 (vb (((r16.len:Int):Int) == 3)) (xT hg14) (zC ⟨(((r16.len:Int):Int) == 3),H,hm,hs,hb,h⟩)))
 have h:=h.2 hg14
 refine sj5 113 hg14 (q2 (vb false) (xF hg14) (zC ⟨false,H,hm,hs,hb,h⟩))
 rcases Bool.eq_false_or_eq_true x2 with hg15 | hg15
 have h:=h.1 hg15
 refine qk 107 hg15 (qk 107 hg15 (vN (wy 107 hg15) (xc Tryz.call35) (h.mono ?_)))
 rintro e w27 ⟨r17,rfl,hk,h⟩
 refine ⟨_,rfl,?_⟩
 obtain ⟨hs,hb⟩:=hk.hh hs hb
 refine qk 107 hg15 (q2 (vb (r17 == 2)) (xT hg15) (zC ⟨(r17 == 2),H,hm,hs,hb,h⟩))
 have h:=h.2 hg15
 refine sj4 107 hg15 (q2 (vb false) (xF hg15) (zC ⟨false,H,hm,hs,hb,h⟩))
 rcases Bool.eq_false_or_eq_true x1 with hg16 | hg16
 have h:=h.1 hg16
 refine qk 101 hg16 (qk 101 hg16 (vN (wy 101 hg16) (xc Tryz.call45) (h.mono ?_)))
 rintro e w28 ⟨r18,rfl,hk,h⟩
 refine ⟨_,rfl,?_⟩
 obtain ⟨hs,hb⟩:=hk.hh hs hb
 refine qk 101 hg16 (q2 (vb (!r18)) (xT hg16) (zC ⟨(!r18),H,hm,hs,hb,h⟩))
 have h:=h.2 hg16
 refine sj4 101 hg16 (q2 (vb false) (xF hg16) (zC ⟨false,H,hm,hs,hb,h⟩))
 rcases Bool.eq_false_or_eq_true (((y1 && r14) && (aA == 4)) && (aB == 1)) with hg17 | hg17
 have h:=h.1 hg17
 refine qk 96 hg17 (qk 96 hg17 ?_)
 have ⟨h,hs⟩:=hs.hr (h H7 w23)
 refine vN (wy 96 hg17) (xc Tryz.call45) (h.mono ?_)
 rintro e w29 ⟨r19,rfl,hk,h⟩
 refine ⟨_,rfl,?_⟩
 obtain ⟨hs,hb⟩:=hk.hh hs hb
 refine q2 (vb r19) (xT hg17) (zC ⟨r19,H7,hm,hs,hb,h⟩)
 have h:=h.2 hg17
 refine sj3 96 hg17 (q2 (vb false) (xF hg17) (zC ?_))
 have ⟨h,hs⟩:=hs.hr (h H7 w23)
 exact ⟨false,H7,hm,hs,hb,h⟩
 rcases Bool.eq_false_or_eq_true ((y1 && r14) && (aA == 4)) with hg12 | hg12
 refine qk 91 hg12 (q4 91 hg12 (xl (Tryz.isAgg3 _) (hb.d 0 1 gZ)) (qk 91 hg12 (q2 (vb (aB == 1)) (xT hg12) (zC ⟨true,_,hg12,hs,hb,hm⟩))))
 refine sj3 91 hg12 (q2 (vb false) (xF hg12) (zC ⟨false,_,hg12,hs,hb,hm⟩))
 rcases Bool.eq_false_or_eq_true (y1 && r14) with hg10 | hg10
 refine qk 86 hg10 (q4 86 hg10 (xl (Tryz.isAgg3 _) (hb.d0 0 gZ)) (qk 86 hg10 (q2 (vb (aA == 4)) (xT hg10) (zC ⟨true,_,hg10,hs,hb,hm⟩))))
 refine sj3 86 hg10 (q2 (vb false) (xF hg10) (zC ⟨false,_,hg10,hs,hb,hm⟩))
 rcases Bool.eq_false_or_eq_true y1 with hg8 | hg8
 refine qk 83 hg8 (q2 (vb r14) (xT hg8) (zC ⟨true,_,hg8,hs,hb,hm⟩))
 refine sj 83 hg8 (q2 (vb false) (xF hg8) (zC ⟨false,_,hg8,hs,hb,hm⟩))
 rcases Bool.eq_false_or_eq_true (((r7 == 0) && (r9 == 122)) && (r11 == 120)) with hg6 | hg6
 refine qk 78 hg6 (vN (wy 78 hg6) (xc Tryz.call36) ((p_S1 r13 w16).mono ?_))
 rintro e w20 ⟨he,hE⟩
 refine ⟨_,he,?_⟩
 obtain ⟨hs,hb⟩:=hs.pp hb hE
 refine qk 78 hg6 (q2 (vb (r13 == 0)) (xT hg6) (zC ⟨true,_,_,hg6,rfl,hs,hb,hm⟩))
 refine sj3 78 hg6 (q2 (vb false) (xF hg6) (zC ⟨false,_,_,hg6,rfl,hs,hb,hm⟩))
 rcases Bool.eq_false_or_eq_true ((r7 == 0) && (r9 == 122)) with hg4 | hg4
 refine qk 73 hg4 (vN (wy 73 hg4) (xc Tryz.call36) ((p_S1 r11 w13).mono ?_))
 rintro e w17 ⟨he,hE⟩
 refine ⟨_,he,?_⟩
 obtain ⟨hs,hb⟩:=hs.pp hb hE
 refine qk 73 hg4 (q2 (vb (r11 == 120)) (xT hg4) (zC ⟨true,_,hg4,hs,hb,hm⟩))
 refine sj3 73 hg4 (q2 (vb false) (xF hg4) (zC ⟨false,_,hg4,hs,hb,hm⟩))
 rcases Bool.eq_false_or_eq_true (r7 == 0) with hg2 | hg2
 refine qk 68 hg2 (vN (wy 68 hg2) (xc Tryz.call36) ((p_S1 r9 w11).mono ?_))
 rintro e w14 ⟨he,hE⟩
 refine ⟨_,he,?_⟩
 obtain ⟨hs,hb⟩:=hs.pp hb hE
 refine qk 68 hg2 (q2 (vb (r9 == 122)) (xT hg2) (zC ⟨true,_,hg2,hs,hb,hm⟩))
 refine sj3 68 hg2 (q2 (vb false) (xF hg2) (zC ⟨false,_,hg2,hs,hb,hm⟩))
def m_H1_l1 (l1:Sl) (r1:Option Addr) (r2:Option Addr) (i1:Int) (w0:World) (Hl1:NP) (wl1:World) (Kc1:Int→NP→WP) (K:(Option Addr)→(Option Addr)→Bool→WP):Prop :=Br (decide (i1<(l1.len:Int))) (∃a1:Addr,At l1 i1 6 a1∧∃aH bN bO bP aK bQ,Row wl1 a1 (Ab aH bN bO bP aK bQ)∧Calls Tryz.prog 77 #[(vp r1),(.agg #[(vi aH),(vi bN),(vi bO),(vu bP),(vs aK),bQ.v])] wl1 (fun e w3=>∃r3 r4,e=.returned (.tuple #[(vi r3),(vi r4)])∧Kept Hl1 wl1 w3∧∃a2:Addr,At l1 i1 6 a2∧∃bB cV cW cX bC cY,Row w3 a2 (Ab bB cV cW cX bC cY)∧Calls Tryz.prog 78 #[(vp r2),(.agg #[(vi bB),(vi cV),(vi cW),(vu cX),(vs bC),cY.v])] w3 (fun e w4=>∃r5 r6,e=.returned (.tuple #[(vi r5),(vi r6)])∧Kept Hl1 w3 w4∧Br ((r4 != r6) || (r3 != r5)) (∀H1 w6,Hst w0 Hl1 w4 H1 w6→K none none false w6) (∀H1 w6,Hst w0 Hl1 w4 H1 w6→Kc1 (q6.wrap (i1+1)) H1 w6)))) (K r1 r2 true wl1)
def m_H1 (l1:Sl) (w0:World) (K:(Option Addr)→(Option Addr)→Bool→WP):Prop :=Calls Tryz.prog 61 #[] w0 (fun e w1=>∃r1,e=.returned (vp r1)∧Kept None w0 w1∧Calls Tryz.prog 63 #[] w1 (fun e w2=>∃r2,e=.returned (vp r2)∧Kept None w1 w2∧Br (Option.isNone r1) (K none none false w2) (∃(I1:Int→NP→WP) (mu1:Int→World→Nat),I1 0 None w2∧∀(i1:Int) (Hl1:NP) (wl1:World),Hst w0 Hl1 wl1 Hl1 wl1→I1 i1 Hl1 wl1→m_H1_l1 l1 r1 r2 i1 w0 Hl1 wl1 (fun y'0 H' w'=>I1 y'0 H' w'∧mu1 y'0 w'<mu1 i1 wl1) K)))
theorem w_H1 (l1 w0 K) (h:m_H1 l1 w0 K):
  Calls Tryz.prog 25 #[l1.v] w0 (fun e w'=>∃r7 r8 r9,e=.returned (.tuple #[(vp r7),(vp r8),(vb r9)])∧K r7 r8 r9 w'):=by
 refine cw (args:=[l1.v]) Tryz.func25 Tryz.ntmps25 ?_
 obtain ⟨hs,hb⟩:=st0 w0
 refine eg (qc (ln (eg (sc Tryz.call61 (h.mono fun e w1 ⟨r1,k,hk,h⟩=>have ⟨hs,hb⟩:=hk.hh hs hb;⟨_,k,?_⟩)))))
 refine q (ln (eg (sc Tryz.call63 (h.mono fun e w2 ⟨r2,k,hk,h⟩=>have ⟨hs,hb⟩:=hk.hh hs hb;⟨_,k,?_⟩))))
 refine q (ln (zA (eg (q (q2 (vb (Option.isNone r1)) (xV (by kernel_rfl) rfl Tryz.underlying68) (ln (cbr h ?_ ?_)))))))<;>intro h
 refine eg (qc (ln (er (zY (jNY (.inl rfl) Tryz.results25 (v:=(vp none)) (by kernel_rfl) (v':=(vp none)) (by kernel_rfl) (v'':=(vb false)) (by kernel_rfl) ⟨none,none,false,rfl,h⟩)))))
 refine zB (zO (zA (eg (q (ln (zJ ?_))))))
 obtain ⟨I1,mu1,h0,hr⟩:=h
 refine vH (σ:=Int×NP×World) (fun s ρ w=>w=s.2.2∧Has ρ [(0,l1.v),(5,(vp r1)),(6,(vp r2)),(7,(vi s.1))]∧Hst w0 s.2.1 w s.2.1 w∧HB s.2.1 w []∧I1 s.1 s.2.1 s.2.2) (fun s=>mu1 s.1 s.2.2) (0,None,w2) ⟨rfl,hm,hs,hb,h0⟩ ?_
 rintro ⟨i1,Hl1,wl1⟩ ρ w ⟨hw,hH,hs,hb,hI⟩
 dsimp only at hw hH hs hb;subst w
 have h:=hr i1 Hl1 wl1 hs hI
 refine zU hH (zA (eg (qd (ln (cbr h ?_ ?_)))))<;>intro h
 refine zB (zO (zA (zJ (eg (qc (qi (Tryz.runUnderlying66 _) (Tryz.sizeOf107 _) h fun a1 h=>?_))))))
 obtain ⟨aH,bN,bO,bP,aK,bQ,hv3,h⟩:=h
 refine qa (Tryz.isAgg107 _) (Tryz.sizeOf107 _) hv3 (sc Tryz.call77 (h.mono fun e w3 ⟨r3,r4,k,hk,h⟩=>have ⟨hs,hb⟩:=hk.hh hs hb;⟨_,k,?_⟩))
 refine q (qd (ln (eg (qc (qi (Tryz.runUnderlying66 _) (Tryz.sizeOf107 _) h fun a2 h=>?_)))))
 obtain ⟨bB,cV,cW,cX,bC,cY,hv1,h⟩:=h
 refine qa (Tryz.isAgg107 _) (Tryz.sizeOf107 _) hv1 (sc Tryz.call78 (h.mono fun e w4 ⟨r5,r6,k,hk,h⟩=>have ⟨hs,hb⟩:=hk.hh hs hb;⟨_,k,?_⟩))
 refine q (qd (ln (zA (vQ (fun ρ wJ=>∃b1'0:Bool,∃HJ:NP,((r4 != r6)=b1'0)∧Hst w0 Hl1 w4 HJ wJ∧HB HJ wJ []∧Has ρ [(0,l1.v),(5,(vp r1)),(6,(vp r2)),(7,(vi i1)),(48,(vb (b1'0 || (r3 != r5))))]) ?_ ?_))))
 refine rg (q (sc Tryz.call36 ((p_S1 r4 w4).mono ?_)))
 rintro e w7 ⟨he,hE⟩
 refine ⟨_,he,?_⟩
 obtain ⟨hs,hb⟩:=hs.pp hb hE
 refine qc ?_
 rcases Bool.eq_false_or_eq_true (r4 != r6) with hg2 | hg2
 refine sj3 44 hg2 (q2 (vb true) (xT hg2) (ln ⟨true,_,hg2,hs,hb,hm⟩))
 refine qk 44 hg2 (qk 44 hg2 (qk 44 hg2 (q2 (vb (r3 != r5)) (xF hg2) (ln ⟨false,_,hg2,hs,hb,hm⟩))))
 rintro ρ w6 ⟨b1'0,H1,he0,hs,hb,hH⟩
 subst he0
 refine vI hH (zO (cbr h ?_ ?_))<;>intro h
 refine eg (qc (ln (er (qN (zY (zY (qN (zY ?_))))))))
 have ⟨h,hs⟩:=hs.hr (h H1 w6)
 refine jNY (.inl rfl) Tryz.results25 (v:=(vp none)) (by kernel_rfl) (v':=(vp none)) (by kernel_rfl) (v'':=(vb false)) (by kernel_rfl) ⟨none,none,false,rfl,h⟩
 refine zB (yQ (zO (rg (qc (zC ?_)))))
 have ⟨h,hs⟩:=hs.hr (h H1 w6)
 refine zO ⟨((q6.wrap (i1+1)),H1,w6),⟨rfl,hm,hs,hb,h.1⟩,h.2⟩
 refine vF (yM (yM (yK (zO (eg (q0 (vp r1) (q0 (vp r2) (q0 (vp r1) (q0 (vp r2) (q0 (vb true) (ln (er (jNY (.inl rfl) Tryz.results25 (v:=(vp r1)) (by kernel_rfl) (v':=(vp r2)) (by kernel_rfl) (v'':=(vb true)) (by kernel_rfl) ⟨r1,r2,true,rfl,h⟩)))))))))))))
theorem jAB (a0 a1 a2:Int) (a3:ByteArray) (b0 b1 b2:Int) (b3:ByteArray) (w:World):(Go.binOp .eql 75 (.agg #[(.int .i64 a0),(.int .i64 a1),(.int .u64 a2),(.string a3)]) (.agg #[(.int .i64 b0),(.int .i64 b1),(.int .u64 b2),(.string b3)])).run Tryz.prog w=.ok (.bool ((a0 == b0) && ((a1 == b1) && ((a2 == b2) && (decide (a3=b3)))))) w:=by
 simp [Go.binOp,Op.equal,Op.maxDepth,go_sem,jER,bne]
 repeat' split
 all_goals simp_all
def m_I1_l1 (l1:Sl) (bD bE bF:Int) (bG:ByteArray) (i1:Int) (w0:World) (Hl1:NP) (wl1:World) (Kc1:Int→NP→WP) (K:Bool→WP):Prop :=Br (decide (i1<(l1.len:Int))) (∃a1:Addr,At l1 i1 4 a1∧∀w2,Hst w0 Hl1 wl1 Hl1 w2→∃aH aL aN aK,Row w2 a1 (Ai aH aL aN aK)∧Br ((aH == bD) && ((aL == bE) && ((aN == bF) && (decide (aK=bG))))) (K true w2) (Kc1 (q6.wrap (i1+1)) Hl1 w2)) (K false wl1)
def m_I1 (l1:Sl) (bD bE bF:Int) (bG:ByteArray) (w0:World) (K:Bool→WP):Prop :=∀H1 w1,Hst w0 None w0 H1 w1→∃(I1:Int→NP→WP) (mu1:Int→World→Nat),I1 0 H1 w1∧∀(i1:Int) (Hl1:NP) (wl1:World),Hst w0 Hl1 wl1 Hl1 wl1→I1 i1 Hl1 wl1→m_I1_l1 l1 bD bE bF bG i1 w0 Hl1 wl1 (fun y'0 H' w'=>I1 y'0 H' w'∧mu1 y'0 w'<mu1 i1 wl1) K
theorem w_I1 (l1 bD bE bF bG w0 K) (h:m_I1 l1 bD bE bF bG w0 K):
  Calls Tryz.prog 27 #[l1.v,(.agg #[(vi bD),(vi bE),(vu bF),(vs bG)])] w0 (fun e w'=>∃r1,e=.returned (vb r1)∧K r1 w'):=by
 refine cw (args:=[l1.v,(Ah bD bE bF bG)]) Tryz.func27 Tryz.ntmps27 ?_
 obtain ⟨hs,hb⟩:=st0 w0
 refine eg (nw3 (Ai bD bE bF bG) 75 hs hb xb fun p1 w1 H1 hs hb=>q (ln (zA (eg (q (ln (zJ ?_)))))))
 have ⟨h,hs⟩:=hs.hr (h H1 w1)
 obtain ⟨I1,mu1,h0,hr⟩:=h
 refine vH (σ:=Int×NP×World) (fun s ρ w=>w=s.2.2∧Has ρ [(0,l1.v),(3,(vp (some p1))),(5,(vi s.1))]∧Hst w0 s.2.1 w s.2.1 w∧HB s.2.1 w [(p1,(Ai bD bE bF bG),75)]∧I1 s.1 s.2.1 s.2.2) (fun s=>mu1 s.1 s.2.2) (0,H1,w1) ⟨rfl,hm,hs,hb,h0⟩ ?_
 rintro ⟨i1,Hl1,wl1⟩ ρ w ⟨hw,hH,hs,hb,hI⟩
 dsimp only at hw hH hs hb;subst w
 have h:=hr i1 Hl1 wl1 hs hI
 refine zU hH (zA (eg (qd (ln (cbr h ?_ ?_)))))<;>intro h
 refine zB (zO (zA (zJ (zA (uN (by kernel_rfl) (by kernel_rfl) (by kernel_rfl) (by kernel_rfl) ?_)))))
 intro w2 hw2
 have hs:Hst w0 Hl1 wl1 Hl1 w2:=by rw [hw2];exact hs.drew
 have hb:HB Hl1 w2 [(p1,(Ai bD bE bF bG),75)]:=by rw [hw2];exact hb.drew
 refine qq 0 l1.v Kp0 (qq 1 (vi i1) Kp1 (qg 2 ?_))
 obtain ⟨a1,hv2,h⟩:=h
 refine sxQ Kp2 (zD rfl) rfl (xi (Tryz.runUnderlying71 _) (Tryz.sizeOf75 _) hv2) (qg 3 ?_)
 have ⟨h,hs⟩:=hs.hr (h w2)
 obtain ⟨aH,aL,aN,aK,hv1,h⟩:=h
 refine sxQ (v:=(Ah aH aL aN aK)) Kp3 (zD rfl) rfl (xa a1 (Ai aH aL aN aK) (Tryz.isAgg75 _) (Tryz.sizeOf75 _) hv1) (qr 4 (Ah bD bE bF bG) Kp4 (xa p1 (Ai bD bE bF bG) (Tryz.isAgg75 _) (Tryz.sizeOf75 _) (hb.r0 0 4 gZ)) (qr 5 (vb ((aH == bD) && ((aL == bE) && ((aN == bF) && (decide (aK=bG)))))) Kp5 (jCH (by kernel_rfl) (by kernel_rfl) (by kernel_rfl) (jAB aH aL aN aK bD bE bF bG _)) (wn (zO (cbr h ?_ ?_)))))<;>intro h
 refine eg (q (ln (er (qN (zY (zY (qN (zY (rs1 Tryz.results27 ⟨true,rfl,h⟩)))))))))
 refine zB (yQ (zO (rg (qc (ln ⟨((q6.wrap (i1+1)),Hl1,w2),⟨rfl,hm,hs,hb,h.1⟩,h.2⟩)))))
 refine vF (yM (yM (yK (zO (eg (q0 (vb false) (ln (er (rs1 Tryz.results27 ⟨false,rfl,h⟩)))))))))
def m_L3 (aS aT aU:Int) (aZ:ByteArray) (aV aW aX:Int) (bA:ByteArray) (w0:World) (K:Int→WP):Prop :=∀H2 w2,Hst w0 None w0 H2 w2→∃C1:WP,C1 w2.drew∧∀w3,w3=w2.drew→Calls Tryz.prog 84 #[(vu aU),(vu aX)] w3 (fun e w4=>∃r1,e=.returned (vi r1)∧C1 w4∧Kept H2 w3 w4∧Calls Tryz.prog 85 #[(vi aS),(vi aV)] w4 (fun e w5=>∃r2,e=.returned (vi r2)∧C1 w5∧Kept H2 w4 w5∧Calls Tryz.prog 85 #[(vi aT),(vi aW)] w5 (fun e w6=>∃r3,e=.returned (vi r3)∧C1 w6∧Kept H2 w5 w6∧Calls Tryz.prog 86 #[(vs aZ),(vs bA)] w6 (fun e w7=>∃r4,e=.returned (vi r4)∧C1 w7∧Kept H2 w6 w7∧∀p3 w8,New w7 (.cells #[(vi r1),(vi r2),(vi r3),(vi r4)] 3) p3 w8→C1 w8∧Calls Tryz.prog 83 #[(Sl.mk (some p3) 4 4).v] w8 (fun e w9=>∃r5,e=.returned (vi r5)∧C1 w9∧Kept H2 w8 w9∧K r5 w9)))))
theorem w_L3 (aS aT aU aZ aV aW aX bA w0 K) (h:m_L3 aS aT aU aZ aV aW aX bA w0 K):
  Calls Tryz.prog 28 #[(.agg #[(vi aS),(vi aT),(vu aU),(vs aZ)]),(.agg #[(vi aV),(vi aW),(vu aX),(vs bA)])] w0 (fun e w'=>∃r6,e=.returned (vi r6)∧K r6 w'):=by
 refine cw (args:=[(Ah aS aT aU aZ),(Ah aV aW aX bA)]) Tryz.func28 Tryz.ntmps28 ?_
 obtain ⟨hs,hb⟩:=st0 w0
 refine eg (nw3 (Ai aS aT aU aZ) 75 hs hb xb fun p1 w1 H1 hs hb=>nw3 (Ai aV aW aX bA) 75 hs hb xb fun p2 w2 H2 hs hb=>q (ln (zA ?_)))
 have ⟨h,hs⟩:=hs.hr (h H2 w2)
 obtain ⟨C1,hC,h⟩:=h
 refine dr2 (fun x=>C1 x∧HB H2 x _) [4,9,14,19,20,21] [] ⟨hC,hb.drew⟩ h hs hb fun w3 hs hb h=>?_
 have hs:=hs.here
 refine qx 0 (vp (some (p1.add 2))) Kp0 (qz 1 (vu aU) Kp1 (fun w' hw'=>(xl (Tryz.isAgg23 _) (hw'.2.cell 1 2 (gS gZ) (by kernel_rfl)))) (qx 2 (vp (some (p2.add 2))) Kp2 (qz 3 (vu aX) Kp3 (fun w' hw'=>(xl (Tryz.isAgg23 _) (hw'.2.cell 0 2 gZ (by kernel_rfl)))) (qx 5 (vp (some p1)) Kp5 (qz 6 (vi aS) Kp6 (fun w' hw'=>(xl (Tryz.isAgg3 _) (hw'.2.cell0 1 (gS gZ) (by kernel_rfl)))) (qx 7 (vp (some p2)) Kp7 (qz 8 (vi aV) Kp8 (fun w' hw'=>(xl (Tryz.isAgg3 _) (hw'.2.cell0 0 gZ (by kernel_rfl)))) (qx 10 (vp (some (p1.add 1))) (zS (S8 (zI (zI zR)))) (qz 11 (vi aT) (zS (S8 (zI (zI (zI zR))))) (fun w' hw'=>(xl (Tryz.isAgg3 _) (hw'.2.cell 1 1 (gS gZ) (by kernel_rfl)))) (qx 12 (vp (some (p2.add 1))) (zS (S8 (S4 zR))) (qz 13 (vi aW) (zS (S8 (S4 (zI zR)))) (fun w' hw'=>(xl (Tryz.isAgg3 _) (hw'.2.cell 0 1 gZ (by kernel_rfl)))) (qx 15 (vp (some (p1.add 3))) (zS (S8 (S4 (zI (zI (zI zR)))))) (qz 16 (vs aZ) (zS (S8 (S8 zR))) (fun w' hw'=>(xl (Tryz.isAgg9 _) (hw'.2.cell 1 3 (gS gZ) (by kernel_rfl)))) (qx 17 (vp (some (p2.add 3))) (zS (S8 (S8 (zI zR)))) (qz 18 (vs bA) (zS (S8 (S8 (zI (zI zR))))) (fun w' hw'=>(xl (Tryz.isAgg9 _) (hw'.2.cell 0 3 gZ (by kernel_rfl)))) (lg 4 ?_))))))))))))))))
 refine zL Kp4 (zD rfl) (by kernel_rfl) (xc Tryz.call84) (h.mono ?_)
 rintro e w4 ⟨r1,rfl,hC,hk,h⟩
 refine ⟨_,rfl,.inr ⟨hC,hb.kept hk⟩,?_⟩
 obtain ⟨hs,hb⟩:=hk.hh hs hb
 refine lg 9 (zL Kp9 (zD rfl) (by kernel_rfl) (xc Tryz.call85) (h.mono ?_))
 rintro e w5 ⟨r2,rfl,hC,hk,h⟩
 refine ⟨_,rfl,.inr ⟨hC,hb.kept hk⟩,?_⟩
 obtain ⟨hs,hb⟩:=hk.hh hs hb
 refine lg 14 (zL (zS (S8 (S4 (zI (zI zR))))) (zD rfl) (by kernel_rfl) (xc Tryz.call85) (h.mono ?_))
 rintro e w6 ⟨r3,rfl,hC,hk,h⟩
 refine ⟨_,rfl,.inr ⟨hC,hb.kept hk⟩,?_⟩
 obtain ⟨hs,hb⟩:=hk.hh hs hb
 refine lg 19 (zL (zS (S8 (S8 (zI (zI (zI zR)))))) (zD rfl) (by kernel_rfl) (xc Tryz.call86) (h.mono ?_))
 rintro e w7 ⟨r4,rfl,hC,hk,h⟩
 refine ⟨_,rfl,.inr ⟨hC,hb.kept hk⟩,?_⟩
 obtain ⟨hs,hb⟩:=hk.hh hs hb
 refine lg 20 (qI (O:=(.cells #[(vi r1),(vi r2),(vi r3),(vi r4)] 3)) (fun p=>(Sl.mk (some p) 4 4).v) (zS (S8 (S8 (S4 zR)))) (zD rfl) (by kernel_rfl) (vR (vs:=#[(0,(vi r1)),(1,(vi r2)),(2,(vi r3)),(3,(vi r4))]) (by kernel_rfl) (by kernel_rfl)) ?_)
 intro p3 w8 hn3
 have h:=h p3 w8 hn3
 refine ⟨.inr ⟨h.1,hb.kept (Ext.new (F:=None) hn3).keptP⟩,?_⟩
 have h:=h.2
 obtain ⟨hs,hb⟩:=hs.nw hb hn3
 refine lg 21 (zL (zS (S8 (S8 (S4 (zI zR))))) (zD rfl) (by kernel_rfl) (xc Tryz.call83) (h.mono ?_))
 rintro e w9 ⟨r5,rfl,hC,hk,h⟩
 refine ⟨_,rfl,.inr ⟨hC,hb.kept hk⟩,?_⟩
 obtain ⟨hs,hb⟩:=hk.hh hs hb
 refine qx 22 (vi r5) (zS (S8 (S8 (S4 (zI (zI zR)))))) (wn (zO (er (rs1 Tryz.results28 ⟨r5,rfl,h⟩))))
def m_J1_l1 (l1:Sl) (who1:Int) (out1:Sl) (x1:Int) (w0:World) (Hl1:NP) (wl1:World) (Kc1:Sl→Int→NP→WP) (K:Sl→WP):Prop :=Br (decide (x1<(l1.len:Int))) (∃a1:Addr,At l1 x1 4 a1∧∃aH aL aN aK,Row wl1 a1 (Ai aH aL aN aK)∧Br ((aH == 2) && (aL == who1)) (∀H2 w3,Hst w0 Hl1 wl1 H2 w3→∀p2 w4,New w3 (.cells #[(vi aH),(vi aL),(vu aN),(vs aK)] 75) p2 w4→∃s1:Sl,∃w5:World,(Builtin.append_ #[71,71] 71 #[out1.v,(Sl.mk (some p2) 1 1).v]).run Tryz.prog w4=.ok s1.v w5∧Kept H2 w4 w5∧Kc1 s1 (q6.wrap (x1+1)) H2 w5) (∀H2 w3,Hst w0 Hl1 wl1 H2 w3→Kc1 out1 (q6.wrap (x1+1)) H2 w3)) (K out1 wl1)
def m_J1 (l1:Sl) (who1:Int) (w0:World) (K:Sl→WP):Prop :=∃(I1:Sl→Int→NP→WP) (mu1:Sl→Int→World→Nat),I1 Sl.nil 0 None w0∧∀(out1:Sl) (x1:Int) (Hl1:NP) (wl1:World),Hst w0 Hl1 wl1 Hl1 wl1→I1 out1 x1 Hl1 wl1→m_J1_l1 l1 who1 out1 x1 w0 Hl1 wl1 (fun y'0 y'1 H' w'=>I1 y'0 y'1 H' w'∧mu1 y'0 y'1 w'<mu1 out1 x1 wl1) K
theorem w_J1 (l1 who1 w0 K) (h:m_J1 l1 who1 w0 K):
  Calls Tryz.prog 40 #[l1.v,(vi who1)] w0 (fun e w'=>∃r1:Sl,e=.returned r1.v∧K r1 w'):=by
 refine cw (args:=[l1.v,(vi who1)]) Tryz.func40 Tryz.ntmps40 ?_
 obtain ⟨hs,hb⟩:=st0 w0
 refine eg (q (ln (eg (q (ln (zA (zA (rg (qc (ln (zJ ?_)))))))))))
 obtain ⟨I1,mu1,h0,hr⟩:=h
 refine vH (σ:=Sl×Int×NP×World) (fun s ρ w=>w=s.2.2.2∧Has ρ [(1,(vi who1)),(5,s.1.v),(8,l1.v),(9,(vi (l1.len:Int))),(10,(vi s.2.1))]∧Hst w0 s.2.2.1 w s.2.2.1 w∧HB s.2.2.1 w []∧I1 s.1 s.2.1 s.2.2.1 s.2.2.2) (fun s=>mu1 s.1 s.2.1 s.2.2.2) (Sl.nil,0,None,w0) ⟨rfl,hm,hs,hb,h0⟩ ?_
 rintro ⟨out1,x1,Hl1,wl1⟩ ρ w ⟨hw,hH,hs,hb,hI⟩
 dsimp only at hw hH hs hb;subst w
 have h:=hr out1 x1 Hl1 wl1 hs hI
 refine zU hH (eg (q (ln (zA (cbr h ?_ ?_)))))<;>intro h
 refine zB (zO (zA (zJ (eg (qi (Tryz.runUnderlying71 _) (Tryz.sizeOf75 _) h fun a1 h=>?_)))))
 obtain ⟨aH,aL,aN,aK,hv2,h⟩:=h
 refine qa (Tryz.isAgg75 _) (Tryz.sizeOf75 _) hv2 (nw3 (Ai 0 0 0 (⟨#[]⟩)) 75 hs hb (zM (Tryz.zeroValue75 _) rfl) fun p1 w1 H1 hs hb=>zK (zD rfl) (xo p1 (Ai aH aL aN aK) (Tryz.sizeOf75 _) (hb.k0 0 4 gZ)) ?_)
 intro w2 hn2
 obtain ⟨hs,hb⟩:=hb.st1 0 hs hn2 gZ
 refine ln (zA (vQ (fun ρ wJ=>∃b1'0:Bool,∃HJ:NP,((aH == 2)=b1'0)∧Hst w0 Hl1 wl1 HJ wJ∧HB HJ wJ [(p1,(Ai aH aL aN aK),75)]∧Has ρ [(1,(vi who1)),(5,out1.v),(7,(vp (some p1))),(8,l1.v),(9,(vi (l1.len:Int))),(10,(vi x1)),(22,(vb (b1'0 && (aL == who1))))]) ?_ ?_))
 refine rg (q (q3 (xl (Tryz.isAgg3 _) (hb.d0 0 gZ)) (qb ?_)))
 rcases Bool.eq_false_or_eq_true (aH == 2) with hg2 | hg2
 refine qk 17 hg2 (q4 17 hg2 (xl (Tryz.isAgg3 _) (hb.d 0 1 gZ)) (qk 17 hg2 (qk 17 hg2 (q2 (vb (aL == who1)) (xT hg2) (ln ⟨true,_,hg2,hs,hb,hm⟩)))))
 refine sj4 17 hg2 (q2 (vb false) (xF hg2) (ln ⟨false,_,hg2,hs,hb,hm⟩))
 rintro ρ w3 ⟨b1'0,H2,he0,hs,hb,hH⟩
 subst he0
 refine vI hH (zO (cbr h ?_ ?_))<;>intro h
 refine rg (q (q2 (Ah aH aL aN aK) (xa p1 (Ai aH aL aN aK) (Tryz.isAgg75 _) (Tryz.sizeOf75 _) (hb.r0 0 4 gZ)) ?_))
 have ⟨h,hs⟩:=hs.hr (h H2 w3)
 refine nw5 (fun p=>(Sl.mk (some p) 1 1).v) hs hb h fun p2 w4 hs hb h=>?_
 obtain ⟨s1,w5,hv1,hk,h⟩:=h
 refine st (v:=s1.v) (zD rfl) (vP (args:=#[out1.v,(Sl.mk (some p2) 1 1).v]) (by kernel_rfl) (fun _=>rfl) hv1) ?_
 obtain ⟨hs,hb⟩:=hk.hh hs hb
 refine q (zC (yQ (zO (rg (qb (ln ⟨(s1,(q6.wrap (x1+1)),H2,w5),⟨rfl,hm,hs,hb.drop 1,h.1⟩,h.2⟩))))))
 refine zB (yQ (zO (rg (qb (zC ?_)))))
 have ⟨h,hs⟩:=hs.hr (h H2 w3)
 refine zO ⟨(out1,(q6.wrap (x1+1)),H2,w3),⟨rfl,hm,hs,hb.drop 1,h.1⟩,h.2⟩
 refine vF (yM (yM (yK (zO (eg (q0 out1.v (q0 out1.v (ln (er (rs1 Tryz.results40 ⟨out1,rfl,h⟩))))))))))
theorem uJ (a0 b0:Bool) (w:World):(Go.binOp .neq 4 (.bool a0) (.bool b0)).run Tryz.prog w=.ok (.bool (!(a0 == b0))) w:=by
 simp [Go.binOp,Op.equal,Op.maxDepth,go_sem,jER,bne]
def m_K_j5 (i2 n2:Int) (H:NP) (w:World) (Kc4:Int→Int→NP→WP) (_K:Bool→WP):Prop :=Kc4 n2 (q6.wrap (i2+1)) H w
def m_K_l4 (r3:Option Addr) (r6:Sl) (who1:Int) (r8:Sl) (n1 i2:Int) (w0:World) (Hl3:NP) (wl3:World) (Kc3:Int→NP→WP) (Kc4:Int→Int→NP→WP) (K:Bool→WP):Prop :=Br (decide (i2<(r6.len:Int))) (∃a2:Addr,At r6 i2 1 a2∧∃v2,wl3.cell? a2=some (vi v2)∧Calls Tryz.prog 42 #[(vp r3),(vi v2)] wl3 (fun e w10=>∃aA aB aC aD aE r9,e=.returned (.tuple #[(Af aA aB aC aD aE),(vb r9)])∧Kept Hl3 wl3 w10∧Br (r9 && (((aA == 2) && (aB == who1)) || (aA == 6))) (∀H4 w15,Hst w0 Hl3 w10 H4 w15→Calls Tryz.prog 27 #[r8.v,(.agg #[(vi 2),(vi who1),(vu aC),(vs aD)])] w15 (fun e w18=>∃r10,e=.returned (vb r10)∧Kept H4 w15 w18∧Br (!r10) (K false w18) (m_K_j5 i2 (q6.wrap (n1+1)) H4 w18 Kc4 K))) (∀H4 w15,Hst w0 Hl3 w10 H4 w15→m_K_j5 i2 n1 H4 w15 Kc4 K))) (∀y1:Bool,y1=((!((n1 == 0) == (((r8.len:Int):Int) == 0))) || (decide ((r8.len:Int)>n1)))→Br y1 (∀H7 w19,Hst w0 Hl3 wl3 H7 w19→K false w19) (∀H7 w19,Hst w0 Hl3 wl3 H7 w19→Kc3 (q6.wrap (who1+1)) H7 w19))
def m_K_l3 (r3:Option Addr) (r6 r7:Sl) (who1:Int) (w0:World) (Hl2:NP) (wl2:World) (Kc3:Int→NP→WP) (K:Bool→WP):Prop :=Br (decide (who1<2)) (Calls Tryz.prog 40 #[r7.v,(vi who1)] wl2 (fun e w9=>∃r8:Sl,e=.returned r8.v∧Kept Hl2 wl2 w9∧∃(I3:Int→Int→NP→WP) (mu3:Int→Int→World→Nat),I3 0 0 Hl2 w9∧∀(n1 i2:Int) (Hl3:NP) (wl3:World),Hst w0 Hl3 wl3 Hl3 wl3→I3 n1 i2 Hl3 wl3→m_K_l4 r3 r6 who1 r8 n1 i2 w0 Hl3 wl3 Kc3 (fun y'0 y'1 H' w'=>I3 y'0 y'1 H' w'∧mu3 y'0 y'1 w'<mu3 n1 i2 wl3) K)) (Calls Tryz.prog 24 #[] wl2 (fun e w20=>∃r11,e=.returned (vb r11)∧Kept Hl2 wl2 w20∧K r11 w20))
def m_K_l2 (ts1:Sl) (r2:Option Addr) (r3:Option Addr) (p1:Addr) (i1:Int) (w0:World) (Hl1:NP) (wl1:World) (Kc2:Int→NP→WP) (K:Bool→WP):Prop :=Br (decide (i1<(ts1.len:Int))) (∃a1:Addr,At ts1 i1 1 a1∧∃v1,wl1.cell? a1=some (vi v1)∧Calls Tryz.prog 29 #[(vp (some p1)),(vi v1)] wl1 (fun e w4=>∃r5,e=.returned (vi r5)∧Kept Hl1 wl1 w4∧Kc2 (q6.wrap (i1+1)) Hl1 w4)) (Calls Tryz.prog 31 #[(vp (some p1))] wl1 (fun e w5=>∃r6:Sl,e=.returned r6.v∧Kept Hl1 wl1 w5∧∀p2 w6,New w5 (.cells #[] 78) p2 w6→∃s1:Sl,∃w7:World,(Builtin.append_ #[46,46] 46 #[(Sl.mk (some p2) 0 0).v,ts1.v]).run Tryz.prog w6=.ok s1.v w7∧Kept Hl1 w6 w7∧Calls Tryz.prog 26 #[(vp r2),s1.v] w7 (fun e w8=>∃r7:Sl,e=.returned r7.v∧Kept Hl1 w7 w8∧∃(I2:Int→NP→WP) (mu2:Int→World→Nat),I2 0 Hl1 w8∧∀(who1:Int) (Hl2:NP) (wl2:World),Hst w0 Hl2 wl2 Hl2 wl2→I2 who1 Hl2 wl2→m_K_l3 r3 r6 r7 who1 w0 Hl2 wl2 (fun y'0 H' w'=>I2 y'0 H' w'∧mu2 y'0 w'<mu2 who1 wl2) K)))
def m_K_j1 (l1 ts1:Sl) (x1:Bool) (w0:World) (H:NP) (w:World) (K:Bool→WP):Prop :=Br x1 (Calls Tryz.prog 24 #[] w (fun e w1=>∃r1,e=.returned (vb r1)∧Kept H w w1∧K r1 w1)) (Calls Tryz.prog 25 #[l1.v] w (fun e w2=>∃r2 r3 r4,e=.returned (.tuple #[(vp r2),(vp r3),(vb r4)])∧Kept H w w2∧Br (!r4) (K false w2) (∀p1 w3,New w2 (.cells #[(vp r3),Sl.nil.v] 48) p1 w3→∃(I1:Int→NP→WP) (mu1:Int→World→Nat),I1 0 H w3∧∀(i1:Int) (Hl1:NP) (wl1:World),Hst w0 Hl1 wl1 Hl1 wl1→I1 i1 Hl1 wl1→m_K_l2 ts1 r2 r3 p1 i1 w0 Hl1 wl1 (fun y'0 H' w'=>I1 y'0 H' w'∧mu1 y'0 w'<mu1 i1 wl1) K)))
def m_K (l1 ts1:Sl) (w0:World) (K:Bool→WP):Prop :=Calls Tryz.prog 23 #[l1.v] w0 (fun e w21=>∃r12,e=.returned (vb r12)∧Kept None w0 w21∧∀H8 w22,Hst w0 None w21 H8 w22→m_K_j1 l1 ts1 (r12 || (decide ((ts1.len:Int)>20))) w0 H8 w22 K)
theorem w_K (l1 ts1 w0 K) (h:m_K l1 ts1 w0 K):
  Calls Tryz.prog 8 #[l1.v,ts1.v] w0 (fun e w'=>∃r13,e=.returned (vb r13)∧K r13 w'):=by
 refine cw (args:=[l1.v,ts1.v]) Tryz.func8 Tryz.ntmps8 ?_
 obtain ⟨hs,hb⟩:=st0 w0
 refine eg (q (ln (zA (zA (qQ (fun ρ w=>∃x1,∃H:NP,Has ρ [(0,l1.v),(1,ts1.v),(24,(vb x1))]∧Hst w0 H w H w∧HB H w []∧m_K_j1 l1 ts1 x1 w0 H w K) ?_ ?_)))))
 rintro ρ w ⟨x1,H,hH,hs,hb,h⟩
 refine zU hH (cbr h ?_ ?_)<;>intro h
 refine eg (sc Tryz.call24 (h.mono fun e w1 ⟨r1,k,hk,h⟩=>have ⟨hs,hb⟩:=hk.hh hs hb;⟨_,k,?_⟩))
 refine q (ln (er (zY (rs1 Tryz.results8 ⟨r1,rfl,h⟩))))
 refine zB (zO (eg (q (sc Tryz.call25 (h.mono fun e w2 ⟨r2,r3,r4,k,hk,h⟩=>have ⟨hs,hb⟩:=hk.hh hs hb;⟨_,k,?_⟩)))))
 refine qc (qd (ln (zA (eg (qb (ln (cbr h ?_ ?_)))))))<;>intro h
 refine eg (q (ln (er (zY (rs1 Tryz.results8 ⟨false,rfl,h⟩)))))
 refine zB (zO (eg (qb (nw2 hs hb h xb fun p1 w3 hs hb h=>q (ln (zA (eg (q (ln (zJ ?_))))))))))
 obtain ⟨I1,mu1,h0,hr⟩:=h
 refine vH (σ:=Int×NP×World) (fun s ρ w=>w=s.2.2∧Has ρ [(1,ts1.v),(5,(vp r2)),(6,(vp r3)),(8,(vp (some p1))),(9,(vi s.1))]∧Hst w0 s.2.1 w s.2.1 w∧HB s.2.1 w []∧I1 s.1 s.2.1 s.2.2) (fun s=>mu1 s.1 s.2.2) (0,H,w3) ⟨rfl,hm,hs,hb,h0⟩ ?_
 rintro ⟨i1,Hl1,wl1⟩ ρ w ⟨hw,hH,hs,hb,hI⟩
 dsimp only at hw hH hs hb;subst w
 have h:=hr i1 Hl1 wl1 hs hI
 refine zU hH (zA (eg (qd (ln (cbr h ?_ ?_)))))<;>intro h
 refine zB (zO (zA (zJ (rg (qc (qi (Tryz.runUnderlying46 _) (Tryz.sizeOf78 _) h fun a1 h=>ql (Tryz.isAgg78 _) h fun v1 h=>sc Tryz.call29 (h.mono fun e w4 ⟨r5,k,hk,h⟩=>have ⟨hs,hb⟩:=hk.hh hs hb;⟨_,k,?_⟩)))))))
 refine zC (yQ (zO (rg (qc (ln ⟨((q6.wrap (i1+1)),Hl1,w4),⟨rfl,hm,hs,hb,h.1⟩,h.2⟩)))))
 refine vF (yM (yM (yK (zO (eg (q0 (vp (some p1)) (sc Tryz.call31 (h.mono fun e w5 ⟨r6,k,hk,h⟩=>have ⟨hs,hb⟩:=hk.hh hs hb;⟨_,k,?_⟩))))))))
 refine q (ln (eg (q (nw5 (fun p=>(Sl.mk (some p) 0 0).v) hs hb h fun p2 w6 hs hb h=>q ?_))))
 obtain ⟨s1,w7,hv5,hk,h⟩:=h
 refine st (v:=s1.v) (zD rfl) (vP (args:=#[(Sl.mk (some p2) 0 0).v,ts1.v]) (by kernel_rfl) (fun _=>rfl) hv5) ?_
 obtain ⟨hs,hb⟩:=hk.hh hs hb
 refine sc Tryz.call26 (h.mono fun e w8 ⟨r7,k,hk,h⟩=>have ⟨hs,hb⟩:=hk.hh hs hb;⟨_,k,?_⟩)
 refine q (ln (zA (eg (q (ln (zJ ?_))))))
 obtain ⟨I2,mu2,h0,hr⟩:=h
 refine vH (σ:=Int×NP×World) (fun s ρ w=>w=s.2.2∧Has ρ [(6,(vp r3)),(10,r6.v),(11,r7.v),(12,(vi s.1))]∧Hst w0 s.2.1 w s.2.1 w∧HB s.2.1 w []∧I2 s.1 s.2.1 s.2.2) (fun s=>mu2 s.1 s.2.2) (0,Hl1,w8) ⟨rfl,hm,hs,hb,h0⟩ ?_
 rintro ⟨who1,Hl2,wl2⟩ ρ w ⟨hw,hH,hs,hb,hI⟩
 dsimp only at hw hH hs hb;subst w
 have h:=hr who1 Hl2 wl2 hs hI
 refine zU hH (zA (eg (qb (ln (cbr h ?_ ?_)))))<;>intro h
 refine zB (zO (zA (zJ (eg (qb (sc Tryz.call40 (h.mono fun e w9 ⟨r8,k,hk,h⟩=>have ⟨hs,hb⟩:=hk.hh hs hb;⟨_,k,?_⟩)))))))
 refine q (ln (eg (q (ln (zA (eg (q (ln (zJ ?_)))))))))
 obtain ⟨I3,mu3,h0,hr⟩:=h
 refine vH (σ:=Int×Int×NP×World) (fun s ρ w=>w=s.2.2.2∧Has ρ [(6,(vp r3)),(10,r6.v),(11,r7.v),(12,(vi who1)),(13,r8.v),(14,(vi s.1)),(15,(vi s.2.1))]∧Hst w0 s.2.2.1 w s.2.2.1 w∧HB s.2.2.1 w []∧I3 s.1 s.2.1 s.2.2.1 s.2.2.2) (fun s=>mu3 s.1 s.2.1 s.2.2.2) (0,0,Hl2,w9) ⟨rfl,hm,hs,hb,h0⟩ ?_
 rintro ⟨n1,i2,Hl3,wl3⟩ ρ w ⟨hw,hH,hs,hb,hI⟩
 dsimp only at hw hH hs hb;subst w
 have h:=hr n1 i2 Hl3 wl3 hs hI
 refine zU hH (zA (eg (qd (ln (cbr h ?_ ?_)))))<;>intro h
 refine zB (zO (zA (qQ (fun ρ w=>∃n2,∃H:NP,Has ρ [(6,(vp r3)),(10,r6.v),(11,r7.v),(12,(vi who1)),(13,r8.v),(14,(vi n2)),(15,(vi i2))]∧Hst w0 H w H w∧HB H w []∧m_K_j5 i2 n2 H w (fun y'0 y'1 H' w'=>I3 y'0 y'1 H' w'∧mu3 y'0 y'1 w'<mu3 n1 i2 wl3) K) ?_ ?_)))
 rintro ρ w ⟨n2,H,hH,hs,hb,h⟩
 refine zU hH (rg (qc (ln ⟨(n2,(q6.wrap (i2+1)),H,w),⟨rfl,hm,hs,hb,h.1⟩,h.2⟩)))
 refine zJ (eg (qc (qi (Tryz.runUnderlying46 _) (Tryz.sizeOf78 _) h fun a2 h=>ql (Tryz.isAgg78 _) h fun v2 h=>sc Tryz.call42 (h.mono fun e w10 ⟨aA,aB,aC,aD,aE,r9,k,hk,h⟩=>have ⟨hs,hb⟩:=hk.hh hs hb;⟨_,k,?_⟩))))
 refine qc (nw3 (Ac 0 0 0 (⟨#[]⟩) false) 35 hs hb (zM (Tryz.zeroValue35 _) rfl) fun p3 w11 H1 hs hb=>zK (zD rfl) (xo p3 (Ac aA aB aC aD aE) (Tryz.sizeOf35 _) (hb.k0 0 5 gZ)) ?_)
 intro w12 hn2
 obtain ⟨hs,hb⟩:=hb.st1 0 hs hn2 gZ
 refine q (ln (zA (vQ (fun ρ wJ=>∃b3'0:Bool,∃HJ:NP,(r9=b3'0)∧Hst w0 Hl3 w10 HJ wJ∧HB HJ wJ [(p3,(Ac aA aB aC aD aE),35)]∧Has ρ [(6,(vp r3)),(10,r6.v),(11,r7.v),(12,(vi who1)),(13,r8.v),(14,(vi n1)),(15,(vi i2)),(16,(vp (some p3))),(94,(vb (b3'0 && (((aA == 2) && (aB == who1)) || (aA == 6)))))]) ?_ ?_)))
 refine rg (qb ?_)
 rcases Bool.eq_false_or_eq_true r9 with hg6 | hg6
 refine qk 79 hg6 (q4 79 hg6 (xl (Tryz.isAgg3 _) (hb.d0 0 gZ)) (qk 79 hg6 (qk 79 hg6 (zN 5 (fun ρ wJ=>∃b4'0:Bool,∃HJ:NP,((aA == 2)=b4'0)∧Hst w0 Hl3 w10 HJ wJ∧HB HJ wJ [(p3,(Ac aA aB aC aD aE),35)]∧Has ρ [(6,(vp r3)),(10,r6.v),(11,r7.v),(12,(vi who1)),(13,r8.v),(14,(vi n1)),(15,(vi i2)),(16,(vp (some p3))),(79,(vb r9)),(88,(vb (b4'0 && (aB == who1))))]) ?_ ?_))))
 rintro ρ w16 ⟨b4'0,H5,he0,hs,hb,hH⟩
 subst he0
 refine zQ hH (qk 79 hg6 (zN 4 (fun ρ wJ=>∃b5'0:Bool,∃HJ:NP,(((aA == 2) && (aB == who1))=b5'0)∧Hst w0 Hl3 w10 HJ wJ∧HB HJ wJ [(p3,(Ac aA aB aC aD aE),35)]∧Has ρ [(6,(vp r3)),(10,r6.v),(11,r7.v),(12,(vi who1)),(13,r8.v),(14,(vi n1)),(15,(vi i2)),(16,(vp (some p3))),(79,(vb r9)),(93,(vb (b5'0 || (aA == 6))))]) ?_ ?_))
 rintro ρ w17 ⟨b5'0,H6,he0,hs,hb,hH⟩
 subst he0
 refine zQ hH (q2 (vb (((aA == 2) && (aB == who1)) || (aA == 6))) (xT hg6) (ln ⟨true,_,hg6,hs,hb,hm⟩))
 rcases Bool.eq_false_or_eq_true ((aA == 2) && (aB == who1)) with hg10 | hg10
 refine sj3 89 hg10 (stq (v:=(vb true)) (wy 79 hg6) (xT hg10) (zC ⟨true,_,hg10,hs,hb,hm⟩))
 refine qk 89 hg10 (q4 89 hg10 (xl (Tryz.isAgg3 _) (hb.d0 0 gZ)) (qk 89 hg10 (stq (v:=(vb (aA == 6))) (wy 79 hg6) (xF hg10) (zC ⟨false,_,hg10,hs,hb,hm⟩))))
 rcases Bool.eq_false_or_eq_true (aA == 2) with hg8 | hg8
 refine qk 83 hg8 (q4 83 hg8 (xl (Tryz.isAgg3 _) (hb.d 0 1 gZ)) (qk 83 hg8 (qk 83 hg8 (stq (v:=(vb (aB == who1))) (wy 79 hg6) (xT hg8) (zC ⟨true,_,hg8,hs,hb,hm⟩)))))
 refine sj4 83 hg8 (stq (v:=(vb false)) (wy 79 hg6) (xF hg8) (zC ⟨false,_,hg8,hs,hb,hm⟩))
 refine sj4 79 hg6 (sm (sm (sm (sm (sj2 79 hg6 (sm (sm (sm (sj 79 hg6 (q2 (vb false) (xF hg6) (ln ⟨false,_,hg6,hs,hb,hm⟩)))))))))))
 rintro ρ w15 ⟨b3'0,H4,he0,hs,hb,hH⟩
 subst he0
 refine vI hH (zO (cbr h ?_ ?_))<;>intro h
 refine eg (qc (ln (eg (qc (q3 (xl (Tryz.isAgg23 _) (hb.d 0 2 gZ)) (q (q3 (xl (Tryz.isAgg9 _) (hb.d 0 3 gZ)) (q ?_))))))))
 have ⟨h,hs⟩:=hs.hr (h H4 w15)
 refine sc Tryz.call27 (h.mono fun e w18 ⟨r10,k,hk,h⟩=>have ⟨hs,hb⟩:=hk.hh hs hb;⟨_,k,?_⟩)
 refine q (ln (cbr h ?_ ?_))<;>intro h
 refine eg (q (ln (er (qN (zY (zY (qN (zY (qN (zY (zY (qN (zY (rs1 Tryz.results8 ⟨false,rfl,h⟩))))))))))))))
 refine zB (yQ (zO ⟨(q6.wrap (n1+1)),H4,hm,hs,hb.drop 1,h⟩))
 refine zB (yQ ?_)
 have ⟨h,hs⟩:=hs.hr (h H4 w15)
 refine zO ⟨n1,H4,hm,hs,hb.drop 1,h⟩
 refine vF (yM (yM (yK (zO (zA (vQ (fun ρ wJ=>∃b6'0 y1:Bool,∃HJ:NP,((!((n1 == 0) == (((r8.len:Int):Int) == 0)))=b6'0)∧(y1=(b6'0 || (decide ((r8.len:Int)>n1))))∧Hst w0 Hl3 wl3 HJ wJ∧HB HJ wJ []∧Has ρ [(6,(vp r3)),(10,r6.v),(11,r7.v),(12,(vi who1)),(117,(vb y1))]) ?_ ?_))))))
 refine rg (q (qd (q2 (vb (!((n1 == 0) == (((r8.len:Int):Int) == 0)))) (jHE (by kernel_rfl) (by kernel_rfl) (by kernel_rfl) (uJ (n1 == 0) (((r8.len:Int):Int) == 0) _)) (q ?_))))
 rcases Bool.eq_false_or_eq_true (!((n1 == 0) == (((r8.len:Int):Int) == 0))) with hg12 | hg12
 refine sj4 112 hg12 (q2 (vb true) (xT hg12) (ln ⟨true,_,_,hg12,rfl,hs,hb,hm⟩))
 refine qk 112 hg12 (qk 112 hg12 (qk 112 hg12 (qk 112 hg12 (q2 (vb (decide ((r8.len:Int)>n1))) (xF hg12) (ln ⟨false,_,_,hg12,rfl,hs,hb,hm⟩)))))
 rintro ρ w19 ⟨b6'0,y1,H7,he0,hy1,hs,hb,hH⟩
 subst he0
 have h:=h y1 hy1
 refine vI hH (zO (cbr h ?_ ?_))<;>intro h
 refine eg (q (ln (er (qN (zY (zY (qN (zY ?_))))))))
 have ⟨h,hs⟩:=hs.hr (h H7 w19)
 refine rs1 Tryz.results8 ⟨false,rfl,h⟩
 refine zB (yQ (zO (rg (qc (zC ?_)))))
 have ⟨h,hs⟩:=hs.hr (h H7 w19)
 refine zO ⟨((q6.wrap (who1+1)),H7,w19),⟨rfl,hm,hs,hb,h.1⟩,h.2⟩
 refine vF (yM (yM (yK (zO (eg (sc Tryz.call24 (h.mono fun e w20 ⟨r11,k,hk,h⟩=>have ⟨hs,hb⟩:=hk.hh hs hb;⟨_,k,?_⟩)))))))
 refine q (ln (er (rs1 Tryz.results8 ⟨r11,rfl,h⟩)))
 refine rg (q (sc Tryz.call23 (h.mono fun e w21 ⟨r12,k,hk,h⟩=>have ⟨hs,hb⟩:=hk.hh hs hb;⟨_,k,?_⟩)))
 refine q (zN 4 (fun ρ wJ=>∃b7'0:Bool,∃HJ:NP,(r12=b7'0)∧Hst w0 None w21 HJ wJ∧HB HJ wJ []∧Has ρ [(0,l1.v),(1,ts1.v),(24,(vb (b7'0 || (decide ((ts1.len:Int)>20)))))]) ?_ ?_)
 rintro ρ w22 ⟨b7'0,H8,he0,hs,hb,hH⟩
 subst he0
 refine zQ hH (zC ?_)
 have ⟨h,hs⟩:=hs.hr (h H8 w22)
 refine zO ⟨(r12 || (decide ((ts1.len:Int)>20))),H8,hm,hs,hb,h⟩
 rcases Bool.eq_false_or_eq_true r12 with hg14 | hg14
 refine sj3 20 hg14 (q2 (vb true) (xT hg14) (zC ⟨true,_,hg14,hs,hb,hm⟩))
 refine qk 20 hg14 (qk 20 hg14 (qk 20 hg14 (q2 (vb (decide ((ts1.len:Int)>20))) (xF hg14) (zC ⟨false,_,hg14,hs,hb,hm⟩))))
def m_M3 (kind1 who1:Int) (cap1:Addr) (w0:World) (K:Int→Int→Int→ByteArray→WP):Prop :=∀H1 w1,Hst w0 None w0 H1 w1→∃v1,w1.cell? (cap1.add 2)=some (vu v1)∧∃v2,w1.cell? (cap1.add 3)=some (vs v2)∧∀w2,Hst w0 H1 w1 H1 w2→K kind1 who1 v1 v2 w2
theorem w_M3 (kind1 who1 cap1 w0 K) (h:m_M3 kind1 who1 cap1 w0 K):
  Calls Tryz.prog 162 #[(vi kind1),(vi who1),(vp (some cap1))] w0 (fun e w'=>∃aA bK aC aD,e=.returned (Ah aA bK aC aD)∧K aA bK aC aD w'):=by
 refine cw (args:=[(vi kind1),(vi who1),(vp (some cap1))]) Tryz.func162 Tryz.ntmps162 ?_
 obtain ⟨hs,hb⟩:=st0 w0
 refine eg (nw3 (Ai 0 0 0 (⟨#[]⟩)) 75 hs hb (zM (Tryz.zeroValue75 _) rfl) fun p1 w1 H1 hs hb=>ln (eg (qc ?_)))
 have ⟨h,hs⟩:=hs.hr (h H1 w1)
 refine ql (Tryz.isAgg23 _) h fun v1 h=>q (ql (Tryz.isAgg9 _) h fun v2 h=>q (zK (zD rfl) (xo p1 (Ai kind1 who1 v1 v2) (Tryz.sizeOf75 _) (hb.k0 0 4 gZ)) ?_))
 intro w2 hn2
 obtain ⟨hs,hb⟩:=hb.st1 0 hs hn2 gZ
 refine ln (er ?_)
 have ⟨h,hs⟩:=hs.hr (h w2)
 refine tI (.inl rfl) (vs:=[(Ah kind1 who1 v1 v2)]) (v:=(Ah kind1 who1 v1 v2)) Tryz.results162 ⟨(rva (Tryz.isAgg75 _) (Tryz.sizeOf75 _) (hb.r0 0 4 gZ)),trivial⟩ (by kernel_rfl) ⟨kind1,who1,v1,v2,rfl,h⟩
end Go.Proofs
end
section
open Go
namespace Go.Sp
structure Fact where
 kind:Int
 who:Int
 c:Int
 text:ByteArray
deriving DecidableEq
def jBG (a b:Int):Int:=if a<b then -1 else if b<a then 1 else 0
def jHA (a b:ByteArray):Int:=if Op.bytesLess a.toList b.toList=true then -1 else if a=b then 0 else 1
def jGZ (a b:Fact):Int:=if jBG a.c b.c≠0 then jBG a.c b.c else if jBG a.kind b.kind≠0 then jBG a.kind b.kind else if jBG a.who b.who≠0 then jBG a.who b.who else jHA a.text b.text
theorem toList_inj {a b:ByteArray} (h:a.toList=b.toList):a=b:=by
 rw [Lib.toList_data,Lib.toList_data] at h;obtain ⟨a⟩:=a;obtain ⟨b⟩:=b;simp only at h;congr 1;exact Array.toList_inj.1 h
def LtF (a b:Fact):Prop:=a.c<b.c∨(a.c=b.c∧(a.kind<b.kind∨(a.kind=b.kind∧(a.who<b.who∨(a.who=b.who∧a.text.toList<b.text.toList)))))
theorem xR {a b:Int}:jBG a b=0↔a=b:=by unfold jBG;split <;> (try split) <;> omega
theorem jFB (a b:Int):jBG b a=- jBG a b:=by unfold jBG;split <;> split <;> (try split) <;> omega
theorem xZ {a b:ByteArray}:Op.bytesLess a.toList b.toList=true↔a.toList<b.toList:=by rw [Go.Proofs.bytesLess_eq];simp
theorem jLT {a b:ByteArray}:jHA a b=0↔a=b:=by
 unfold jHA;split
 ·rename_i h;refine ⟨fun h'=>by omega,fun e=>?_⟩;subst e;exact absurd (xZ.1 h) (List.lt_irrefl _)
 ·split <;> simp_all
theorem jNL (a b:ByteArray):jHA b a=- jHA a b:=by
 unfold jHA;by_cases h1:a.toList<b.toList
 ·rw [if_pos (xZ.2 h1),if_neg (fun h=>List.lt_asymm h1 (xZ.1 h)),if_neg (fun e=>by subst e;exact List.lt_irrefl _ h1)];rfl
 ·rw [if_neg (fun h=>h1 (xZ.1 h))];by_cases h2:b.toList<a.toList
  ·rw [if_pos (xZ.2 h2),if_neg (fun e=>by subst e;exact List.lt_irrefl _ h2)]
  ·have e:a=b:=toList_inj (List.le_antisymm (List.not_lt.1 h2) (List.not_lt.1 h1));subst e;rw [if_neg (fun h=>h1 (xZ.1 h))];simp
theorem jDO {a b:Fact}:jGZ a b=0↔a=b:=by
 obtain ⟨k,w,c,x⟩:=a;obtain ⟨k',w',c',x'⟩:=b;unfold jGZ;simp only [Fact.mk.injEq,← xR (a:=k),← xR (a:=w),← xR (a:=c),← jLT (a:=x)];split
 ·omega
 ·split
  ·omega
  ·split <;> omega
theorem jNK (a b:Fact):jGZ b a=- jGZ a b:=by
 unfold jGZ;rw [jFB a.c,jFB a.kind,jFB a.who,jNL a.text]
 repeat' split
 all_goals omega
theorem jBN {a b:Fact}:jGZ a b<0↔LtF a b:=by
 have hI:∀{x y:Int},jBG x y<0↔x<y:=fun {x y}=>by unfold jBG;split <;> (try split) <;> omega
 have hB:∀{x y:ByteArray},jHA x y<0↔x.toList<y.toList:=fun {x y}=>by
  rw [← xZ];unfold jHA;split
  ·simp_all
  ·split <;> simp_all
 unfold jGZ LtF;rw [← hI (x:=a.c),← hI (x:=a.kind),← hI (x:=a.who),← hB,← xR (a:=a.c),← xR (a:=a.kind),← xR (a:=a.who)];split
 ·omega
 ·split
  ·omega
  ·split <;> omega
theorem LtF.trans {a b c:Fact} (h1:LtF a b) (h2:LtF b c):LtF a c:=by
 unfold LtF at *;rcases h1 with h1 | ⟨e1,h1⟩
 ·left;omega
 rcases h2 with h2 | ⟨e2,h2⟩
 ·left;omega
 refine .inr ⟨by omega,?_⟩;rcases h1 with h1 | ⟨e1,h1⟩
 ·left;omega
 rcases h2 with h2 | ⟨e2,h2⟩
 ·left;omega
 refine .inr ⟨by omega,?_⟩;rcases h1 with h1 | ⟨e1,h1⟩
 ·left;omega
 rcases h2 with h2 | ⟨e2,h2⟩
 ·left;omega
 exact .inr ⟨by omega,List.lt_trans h1 h2⟩
theorem LtF.irrefl (a:Fact):¬ LtF a a:=fun h=>by
 have:=jBN.2 h;rw [jDO.2 rfl] at this;omega
theorem LtF.tri (a b:Fact):LtF a b∨a=b∨LtF b a:=by
 rw [← jBN,← jBN,← jDO,jNK a b];omega
theorem swoF:Go.Sort.SWO (Go.Proofs.ltOf jGZ):={
 irrefl x:=by unfold Go.Proofs.ltOf;simp [jDO.2]
 trans x y z h1 h2:=by
  unfold Go.Proofs.ltOf at *;simp only [decide_eq_true_eq,jBN] at *;exact h1.trans h2
 ntrans x y z h1 h2:=by
  unfold Go.Proofs.ltOf at *;simp only [decide_eq_false_iff_not,jBN] at *;intro h;rcases LtF.tri x y with h3 | rfl | h3
  ·exact h1 h3
  ·exact h2 h
  ·exact h2 (h3.trans h) }
def xQ (a:Fact):List Fact→List Fact
 | []=>[]
 | b :: l=>if a=b then xQ b l else b :: xQ b l
def jAK:List Fact→List Fact
 | []=>[]
 | a :: l=>a :: xQ a l
theorem jFV {x:Fact}:∀{l:List Fact} {a:Fact},(x=a∨x∈xQ a l)↔(x=a∨x∈l)
 | [],_=>by simp [xQ]
 | b :: l,a=>by
  have h:=jFV (x:=x) (l:=l) (a:=b);unfold xQ;split
  ·rename_i e;subst e;rw [h];simp
  ·simp only [List.mem_cons,h]
theorem jLD {l:List Fact} {x:Fact}:x∈jAK l↔x∈l:=by
 cases l with
 | nil=>simp [jAK]
 | cons a l=>simp only [jAK,List.mem_cons];exact jFV
theorem jLR (a:Fact) (l:List Fact):(xQ a l).length≤l.length:=by
 induction l generalizing a with
 | nil=>simp [xQ]
 | cons b l ih =>
  have:=ih b
  unfold xQ
  split <;> simp only [List.length_cons] <;> omega
theorem jLS (l:List Fact):(jAK l).length≤l.length:=by
 cases l with
 | nil=>simp [jAK]
 | cons a l=>have:=jLR a l;simp only [jAK,List.length_cons];omega
theorem jBX:∀{l:List Fact} {a:Fact},(a :: l).Pairwise (fun a b=>¬ jGZ b a<0)→(a :: xQ a l).Pairwise LtF
 | [],_,_=>by simp [xQ]
 | b :: l,a,h=>by
  have h':=(List.pairwise_cons.1 h);unfold xQ;have hs:=jBX h'.2;split
  ·rename_i e;subst e;exact hs
  ·rename_i hne;have hab:LtF a b:=by
    have:=h'.1 b (by simp);rw [jBN] at this;rcases LtF.tri a b with h | h | h
    ·exact h
    ·exact absurd h hne
    ·exact absurd h this
   refine List.pairwise_cons.2 ⟨fun x hx=>?_,hs⟩;rcases List.mem_cons.1 hx with rfl | hx
   ·exact hab
   ·exact hab.trans ((List.pairwise_cons.1 hs).1 x hx)
theorem jGE {l:List Fact} (h:l.Pairwise (fun a b=>¬ jGZ b a<0)):(jAK l).Pairwise LtF:=by
 cases l with
 | nil=>simp [jAK]
 | cons a l=>exact jBX h
theorem jCR:∀{l m:List Fact},l.Pairwise LtF→m.Pairwise LtF→(∀x,x∈l↔x∈m)→l=m
 | [],[],_,_,_=>rfl
 | [],b :: m,_,_,h=>by have:=(h b).2 (by simp);simp at this
 | a :: l,[],_,_,h=>by have:=(h a).1 (by simp);simp at this
 | a :: l,b :: m,h1,h2,h=>by
  have p1:=List.pairwise_cons.1 h1;have p2:=List.pairwise_cons.1 h2;have hab:a=b:=by
   rcases List.mem_cons.1 ((h a).1 (by simp)) with e | ha
   ·exact e
   ·rcases List.mem_cons.1 ((h b).2 (by simp)) with e | hb
    ·exact e.symm
    ·exact absurd ((p1.1 b hb).trans (p2.1 a ha)) (LtF.irrefl a)
  subst hab;congr 1;refine jCR p1.2 p2.2 fun x=>⟨fun hx=>?_,fun hx=>?_⟩
  ·rcases List.mem_cons.1 ((h x).1 (by simp [hx])) with rfl | h'
   ·exact absurd (p1.1 x hx) (LtF.irrefl x)
   ·exact h'
  ·rcases List.mem_cons.1 ((h x).2 (by simp [hx])) with rfl | h'
   ·exact absurd (p2.1 x hx) (LtF.irrefl x)
   ·exact h'
end Go.Sp
end
section
open Go Go.SE
namespace Go.SE
theorem Rws.lit {w w':World} {p:Addr} {cs:Array Value} {e:TypeId} {sz:Nat} {rs:List (List Value)} (hn:New w (.cells cs e) p w') (hc:cs.toList=rs.flatten) (hl:∀r∈rs,r.length=sz) (hm:rs.length≤maxLen):Rws w' e sz ⟨some p,rs.length,rs.length⟩ rs:=by
 obtain ⟨hp,hw⟩:=hn;have hsz:cs.size=rs.length*sz:=by rw [← vY hl,← hc,Array.length_toList]
 refine ⟨hl,rfl,.inr ⟨w.heap.size,cs,by rw [hp],?_,Nat.le_refl _,hm,hsz,?_⟩⟩
 ·rw [hw];exact heap_alloc_new w _
 ·rw [hc,List.take_of_length_le (by rw [vY hl];exact Nat.le_refl _)]
end Go.SE
namespace Go.Proofs
end Go.Proofs
end
section
open Go Go.SE
namespace Go.Sp
def Letter.fact (l:Letter) (k who:Int):Fact:=⟨k,who,l.c,l.text⟩
def qZ (l:Letter):List Fact :=
 if l.kind=1 then (if l.fake=true then [] else [l.fact 1 l.frm])
 else if l.kind=2 then [l.fact 2 l.frm]
 else if l.kind=3 then [l.fact 3 0]
 else if l.kind=4 then l.fact 4 l.frm :: (if l.fake=true then [] else [l.fact 1 0,l.fact 1 1])
 else if l.kind=5 then [l.fact 5 2]
 else if l.kind=6 then [l.fact 6 2,l.fact 2 0,l.fact 2 1]
 else []
def ofR (r:Letter×Bool):List Fact:=if r.2=true then qZ r.1 else []
def ofS (L:Pool) (t:Int):List Fact:=ofR (tJ L t)
def jII (who c:Int) (x:ByteArray):Int→List Fact→Int
 | d,[]=>d
 | d,f :: fs=>if f.kind≠2 then jII who c x d fs else if f.who=who∧f.c=c∧f.text=x then 0
  else if f.who≠who then jII who c x (if 3>d then 3 else d) fs
  else if f.c≠c then jII who c x (if 4>d then 4 else d) fs
  else jII who c x (if 5>d then 5 else d) fs
def jNT (L:Pool) (t who c:Int) (x:ByteArray):Int:=if (tJ L t).2=true then jII who c x 2 (qZ (tJ L t).1) else 1
def qE (who:Int) (fs:List Fact):List Fact:=fs.filter fun f=>f.kind == 2 && f.who == who
def jCC (L:Pool) (a b:Int):Letter×Bool×Int :=
 if sizeOf L a=0∨sizeOf L b=0 then (yN,false,51)
 else if (tJ L a).1.kind≠1∨(tJ L b).1.kind≠1 then (yN,false,120)
 else ((tJ L a).1,(tJ L a).1.fake || (tJ L b).1.fake,if (tJ L a).1.frm≠0∨(tJ L b).1.frm≠1∨(tJ L a).1.c≠(tJ L b).1.c∨(tJ L a).1.text≠(tJ L b).1.text then 122 else 0)
end Go.Sp
namespace Go.Proofs
attribute [local irreducible] Calls
def tB (f:Sp.Fact):List Value:=[.int .i64 f.kind,.int .i64 f.who,.int .u64 f.c,.string f.text]
theorem jDM (fs:List Sp.Fact):∀q∈fs.map tB,q.length=4:=by intro q hq;obtain ⟨t,_,rfl⟩:=List.mem_map.1 hq;rfl
theorem jIV (fs:List Sp.Fact):∀q∈fs.map tB,q.all qG=true:=by intro q hq;obtain ⟨t,_,rfl⟩:=List.mem_map.1 hq;rfl
theorem tU:SlType Tryz.prog 71 75 4 40:=by
 refine ⟨Tryz.underlying71,⟨Tryz.t75,_,by kernel_rfl,(by kernel_rfl:Tryz.t75.zero=some (.agg #[.int .i64 0,.int .i64 0,.int .u64 0,.string ⟨#[]⟩])),by kernel_rfl,by kernel_rfl,rfl⟩,by omega⟩
theorem uV (l:Sp.Letter) (k who:Int) (p:Addr) (w0:World) (hB:Box w0 p [.int .i64 l.kind,.int .i64 l.frm,.int .u64 l.c,.string l.text,.bool l.fake] 35) :
  Calls Tryz.prog 162 #[.int .i64 k,.int .i64 who,.pointer (some p)] w0 (fun e w'=>e=.returned (.agg #[.int .i64 k,.int .i64 who,.int .u64 l.c,.string l.text])∧Pure w0 w'):=by
 refine (w_M3 k who p w0 (fun a b c x w'=>a=k∧b=who∧c=l.c∧x=l.text∧Pure w0 w') ?_).mono ?_
 ·unfold m_M3
  intro H1 w1 hs1
  have b1:=hB.pure hs1.first
  exact ⟨_,b1.cell (i:=2) rfl,_,b1.cell (i:=3) rfl,fun w2 hs2=>⟨rfl,rfl,rfl,rfl,hs1.first.hst hs2⟩⟩
 ·rintro _ w' ⟨_,_,_,_,rfl,rfl,rfl,rfl,rfl,E⟩
  exact ⟨rfl,E⟩
theorem jEF (l:Sp.Letter) (w0:World) :
  Calls Tryz.prog 94 #[.agg #[.int .i64 l.kind,.int .i64 l.frm,.int .u64 l.c,.string l.text,.bool l.fake]] w0 (fun e w'=>∃s:Sl,e=.returned s.v∧RetO w0 75 4 ((Sp.qZ l).map tB) s w'):=by
 suffices key:∀K:Sl→WP,(∀s w',RetO w0 75 4 ((Sp.qZ l).map tB) s w'→K s w')→m_G2 l.kind l.frm l.c l.text l.fake w0 K from
  w_G2 _ _ _ _ _ w0 _ (key _ (fun _ _ h=>h))
 intro K hK
 unfold m_G2
 intro p w1 h1
 have E1:Pure w0 w1:=Ext.new h1
 have b1:=Box.of_new h1
 clear h1
 have hnil:∀w',Pure w0 w'→Sp.qZ l=[]→K Sl.nil w':=fun w' E h=>hK _ _ (by
  rw [h];exact ⟨Rws.nil _ _ _,fun b h=>(by obtain ⟨a,h,_⟩:=h;cases h),E⟩)
 have lit:∀{w2 w3:World} {p2:Addr} {cs:Array Value} (fs:List Sp.Fact) (n:Nat),Pure w0 w2→New w2 (.cells cs 75) p2 w3→cs.toList=(fs.map tB).flatten→fs.length=n→n≤3→Sp.qZ l=fs→K ⟨some p2,n,n⟩ w3:=by
  intro w2 w3 p2 cs fs n E hn hc hl hm he;have R:=Rws.lit (sz:=4) hn hc (jDM fs) (by simp [maxLen];omega);rw [List.length_map,hl] at R;refine hK _ _ ⟨by rw [he];exact R,fun b hb=>?_,E.trans (Ext.new hn)⟩;obtain ⟨a,ha,rfl⟩:=hb;cases ha;exact New.own E hn
 have one : ∀ k who : Int, Sp.qZ l = [l.fact k who] → Calls Tryz.prog 162 #[.int .i64 k, .int .i64 who, .pointer (some p)] w1 (fun e w2 => ∃ rKind1 : Int, ∃ rWho1 : Int, ∃ rC1 : Int, ∃ rText1 : ByteArray, e = .returned (.agg #[.int .i64 rKind1, .int .i64 rWho1, .int .u64 rC1, .string rText1]) ∧
   ∀(p2:Addr) (w3:World),New w2 (.cells #[.int .i64 rKind1,.int .i64 rWho1,.int .u64 rC1,.string rText1] 75) p2 w3→K (Sl.mk (some p2) 1 1) w3):=by
  intro k who he
  refine (uV l k who p w1 b1).mono ?_
  rintro _ w2 ⟨rfl,E2⟩
  exact ⟨_,_,_,_,rfl,fun p2 w3 h3=>lit [l.fact k who] 1 (E1.trans E2) h3 rfl rfl (by omega) he⟩
 refine ⟨_,b1.cell0,fun hk=>?_,fun hk=>⟨fun hk2=>?_,fun hk2=>⟨fun hk3=>?_,fun hk3=>⟨fun hk4=>?_,fun hk4=>⟨fun hk5=>?_,fun hk5=>⟨fun hk6=>?_,fun hk6=>?_⟩⟩⟩⟩⟩⟩
 ·have hk:l.kind=1:=by simpa using hk
  refine ⟨_,b1.cell (i:=4) rfl,fun hf=>hnil w1 E1 (by simp [Sp.qZ,hk,hf]),fun hf=>⟨_,b1.cell (i:=1) rfl,one 1 l.frm (by simp [Sp.qZ,hk,hf])⟩⟩
 ·have hk2:l.kind=2:=by simpa using hk2
  exact ⟨_,b1.cell (i:=1) rfl,one 2 l.frm (by simp [Sp.qZ,hk2])⟩
 ·have hk3:l.kind=3:=by simpa using hk3
  exact one 3 0 (by simp [Sp.qZ,hk3])
 ·have hk4:l.kind=4:=by simpa using hk4
  refine ⟨_,b1.cell (i:=1) rfl,(uV l 4 l.frm p w1 b1).mono ?_⟩
  rintro _ w2 ⟨rfl,E2⟩
  refine ⟨_,_,_,_,rfl,fun p2 w3 h3=>?_⟩
  have E3:Pure w2 w3:=Ext.new h3
  have b3:=b1.pure (E2.trans E3)
  refine ⟨_,b3.cell (i:=4) rfl,fun hf=>?_,fun hf=>lit [l.fact 4 l.frm] 1 (E1.trans E2) h3 rfl rfl (by omega) (by simp at hf;simp [Sp.qZ,hk4,hf])⟩
  refine (uV l 1 0 p w3 b3).mono ?_
  rintro _ w4 ⟨rfl,E4⟩
  refine ⟨_,_,_,_,rfl,(uV l 1 1 p w4 (b3.pure E4)).mono ?_⟩
  rintro _ w5 ⟨rfl,E5⟩
  refine ⟨_,_,_,_,rfl,fun p6 w6 h6=>?_⟩
  have E6:Pure w5 w6:=Ext.new h6
  have R1:Rws w3 75 4 ⟨some p2,1,1⟩ [tB (l.fact 4 l.frm)]:=Rws.lit h3 rfl (jDM [l.fact 4 l.frm]) (by simp [maxLen])
  have R2:Rws w6 75 4 ⟨some p6,2,2⟩ [tB (l.fact 1 0),tB (l.fact 1 1)]:=Rws.lit h6 rfl (jDM [l.fact 1 0,l.fact 1 1]) (by simp [maxLen])
  obtain ⟨s,w7,hr,hR,hE,hb⟩:=(R1.pure ((E4.trans E5).trans E6)).appendL (P:=Tryz.prog) tU (ty:=71) R2.lst (jDM [l.fact 1 0,l.fact 1 1]) (jIV [l.fact 1 0,l.fact 1 1]) (by simp) (by simp [maxLen])
  have E06:Pure w0 w6:=((((E1.trans E2).trans E3).trans E4).trans E5).trans E6
  have hp2:w0.heap.size≤p2.block:=New.own (E1.trans E2) h3
  have hs1:∀b,(Sl.mk (some p2) 1 1).blk b→w0.heap.size≤b:=by
   rintro b ⟨a,ha,rfl⟩;cases ha;exact hp2
  refine ⟨s,w7,hr,hK _ _ ⟨?_,fun b h=>(hb b h).elim (hs1 b) (fun h=>by have:=E06.size;omega),E06.trans' hE (fun i hi h=>by have:=hs1 i h;omega)⟩⟩
  have hf:l.fake=false:=by simpa using hf
  have e:Sp.qZ l=[l.fact 4 l.frm]++[l.fact 1 0,l.fact 1 1]:=by simp [Sp.qZ,hk4,hf]
  rw [e];exact hR
 ·have hk5:l.kind=5:=by simpa using hk5
  exact one 5 2 (by simp [Sp.qZ,hk5])
 ·have hk6:l.kind=6:=by simpa using hk6
  refine (uV l 6 2 p w1 b1).mono ?_
  rintro _ w2 ⟨rfl,E2⟩
  refine ⟨_,_,_,_,rfl,(uV l 2 0 p w2 (b1.pure E2)).mono ?_⟩
  rintro _ w3 ⟨rfl,E3⟩
  refine ⟨_,_,_,_,rfl,(uV l 2 1 p w3 (b1.pure (E2.trans E3))).mono ?_⟩
  rintro _ w4 ⟨rfl,E4⟩
  exact ⟨_,_,_,_,rfl,fun p5 w5 h5=>lit [l.fact 6 2,l.fact 2 0,l.fact 2 1] 3 (((E1.trans E2).trans E3).trans E4) h5 rfl rfl (by omega) (by simp [Sp.qZ,hk6])⟩
 ·refine hnil w1 E1 ?_
  simp at hk hk2 hk3 hk4 hk5 hk6
  simp [Sp.qZ,hk,hk2,hk3,hk4,hk5,hk6]
theorem jMB (p:Option Addr) (t:Int) (w0:World) {L:Sp.Pool} {F:NP} (hP:jBP w0 p L F) (hok:Sp.Ok L) :
  Calls Tryz.prog 34 #[.pointer p,.int .i64 t] w0 (fun e w'=>∃s:Sl,e=.returned s.v∧RetO w0 75 4 ((Sp.ofS L t).map tB) s w'):=by
 refine w_K3 _ _ w0 (fun s w'=>RetO w0 75 4 ((Sp.ofS L t).map tB) s w') ?_
 unfold m_K3
 refine (xI p t w0 hP hok).mono ?_
 rintro _ w1 ⟨k,f,c,x,fk,ok,rfl,hrd,E1⟩
 have e:Sp.ofS L t=Sp.ofR (⟨k,f,c,x,fk⟩,ok):=by unfold Sp.ofS;rw [← hrd]
 refine ⟨k,f,c,x,fk,ok,rfl,E1.keptP,fun h H w3 hs=>?_,fun h H w3 hs=>?_⟩
 ·have h:ok=false:=by simpa using h
  rw [e,h]
  exact ⟨Rws.nil _ _ _,fun b h=>(by obtain ⟨a,h,_⟩:=h;cases h),E1.hst hs⟩
 ·have h:ok=true:=by simpa using h
  refine (jEF ⟨k,f,c,x,fk⟩ w3).mono ?_
  rintro _ w4 ⟨s,rfl,hr⟩
  refine ⟨s,rfl,hr.kept,?_⟩
  rw [e,h]
  exact ⟨hr.rows,fun b hb=>by have:=hr.own b hb;have:=(E1.hst hs).size;omega,(E1.hst hs).trans hr.pure⟩
theorem jJC (p:Option Addr) (t who c:Int) (x:ByteArray) (w0:World) {L:Sp.Pool} {F:NP} (hP:jBP w0 p L F) (hok:Sp.Ok L) :
  Calls Tryz.prog 35 #[.pointer p,.int .i64 t,.int .i64 who,.int .u64 c,.string x] w0 (fun e w'=>∃r:Int,e=.returned (.int .i64 r)∧(r=Sp.jNT L t who c x∧Pure w0 w')):=by
 suffices key:∀K:Int→WP,(∀w',Pure w0 w'→K (Sp.jNT L t who c x) w')→m_G1 p t who c x w0 K from
  w_G1 _ _ _ _ _ w0 _ (key _ (fun _ h=>⟨rfl,h⟩))
 intro K hK
 unfold m_G1
 refine (xI p t w0 hP hok).mono ?_
 rintro _ w1 ⟨k,f,c1,x1,fk,ok,rfl,hrd,E1⟩
 have e:Sp.jNT L t who c x=if ok=true then Sp.jII who c x 2 (Sp.qZ ⟨k,f,c1,x1,fk⟩) else 1:=by unfold Sp.jNT;rw [← hrd]
 rw [e] at hK
 refine ⟨k,f,c1,x1,fk,ok,rfl,E1.keptP,fun h H w3 hs=>?_,fun h H w3 hs=>?_⟩
 ·have h:ok=false:=by simpa using h
  rw [h] at hK
  exact hK w3 (E1.hst hs)
 have h:ok=true:=by simpa using h
 rw [h,if_pos rfl] at hK
 refine (jEF ⟨k,f,c1,x1,fk⟩ w3).mono ?_
 rintro _ w4 ⟨s,rfl,hr⟩
 have hfl:(Sp.qZ ⟨k,f,c1,x1,fk⟩).length≤3:=by
  unfold Sp.qZ;repeat' split
  all_goals simp
 generalize Sp.qZ ⟨k,f,c1,x1,fk⟩=fs at *
 have O4:Own H w4 75 4 s (fs.map tB):=⟨hr.rows,fun b hb hH=>by have:=hr.own b hb;have:=hs.lt b hH;omega⟩
 have E4:=(E1.hst hs).trans hr.pure
 have hl:s.len=fs.length:=by rw [O4.len];simp
 refine ⟨s,rfl,hr.kept,fun d i H' w'=>∃j:Nat,i=j∧j≤fs.length∧Pure w0 w'∧Own H' w' 75 4 s (fs.map tB)∧Sp.jII who c x 2 fs=Sp.jII who c x d (fs.drop j),fun _ i _=>((fs.length:Int) - i).toNat,⟨0,rfl,Nat.zero_le _,E4,O4,rfl⟩,?_⟩
 rintro d _ Hl wl hl' ⟨j,rfl,hj,El,Ol,hw⟩
 unfold m_G1_l1
 refine ⟨fun h=>?_,fun h=>?_⟩
 ·have hlt:=vS hl h
  obtain ⟨a,hat,hrow⟩:=Ol.nth hlt
  rw [List.drop_eq_getElem_cons hlt,Sp.jII] at hw
  generalize fs[j]=g at *
  refine ⟨a,hat,_,_,_,_,hrow,?_⟩
  have go:∀(d':Int) (H3:NP) (w8:World),Hst w0 Hl wl H3 w8→Sp.jII who c x 2 fs=Sp.jII who c x d' (fs.drop (j+1))→(∃j':Nat,IntKind.i64.wrap ((j:Int)+1)=j'∧j'≤fs.length∧Pure w0 w8∧Own H3 w8 75 4 s (fs.map tB)∧Sp.jII who c x 2 fs=Sp.jII who c x d' (fs.drop j'))∧((fs.length:Int) - IntKind.i64.wrap ((j:Int)+1)).toNat<((fs.length:Int) - (j:Int)).toNat:=by
   intro d' H3 w8 hs8 h';rw [zZ hlt (by omega)];exact ⟨⟨j+1,rfl,hlt,El.hst hs8,Ol.hst hs8,h'⟩,qX hlt⟩
  refine ⟨fun h2 H3 w8 hs8=>go d H3 w8 hs8 ?_,fun h2=>⟨fun h3 H3 w8 hs8=>?_,fun h3=>⟨fun h4 H3 w8 hs8=>⟨_,run_max_int2 _ _ _ _ _ _ _,go _ H3 w8 hs8 ?_⟩,fun h4=>⟨fun h5 H3 w8 hs8=>⟨_,run_max_int2 _ _ _ _ _ _ _,go _ H3 w8 hs8 ?_⟩,fun h5 H3 w8 hs8=>⟨_,run_max_int2 _ _ _ _ _ _ _,go _ H3 w8 hs8 ?_⟩⟩⟩⟩⟩
  ·rw [hw,if_pos (bne_iff_ne.1 h2)]
  ·have h2:g.kind=2:=by simpa using h2
   simp at h3
   rw [hw,if_neg (by simp [h2]),if_pos h3.2] at hK
   exact hK w8 (El.hst hs8)
  all_goals
   have h2:g.kind=2:=by simpa using h2
   have h3:¬ (g.who=who∧g.c=c∧g.text=x):=by simpa [h2] using h3
   rw [hw,if_neg (by simp [h2]),if_neg h3]
  ·rw [if_pos (bne_iff_ne.1 h4)]
  ·have h4:g.who=who:=by simpa using h4
   rw [if_neg (by simp [h4]),if_pos (bne_iff_ne.1 h5)]
  ·have h4:g.who=who:=by simpa using h4
   have h5:g.c=c:=by simpa using h5
   rw [if_neg (by simp [h4]),if_neg (by simp [h5])]
 ·have hge:=vT hl hj h
  subst hge
  rw [List.drop_length,Sp.jII] at hw
  rw [hw] at hK
  exact hK wl El
theorem jGU (p:Addr) (a b:Int) (w0:World) {L:Sp.Pool} {F:NP} (hP:vE w0 p L F) (hok:Sp.Ok L) :
  Calls Tryz.prog 90 #[.pointer (some p),.int .i64 a,.int .i64 b] w0 (fun e w'=>∃k f c:Int,∃x:ByteArray,∃g r:Bool,∃r2:Int,e=.returned (.tuple #[.agg #[.int .i64 k,.int .i64 f,.int .u64 c,.string x,.bool g],.bool r,.int .i64 r2])∧(((⟨k,f,c,x,g⟩:Sp.Letter),r,r2)=Sp.jCC L a b∧Pure w0 w')):=by
 suffices key:∀K:Int→Int→Int→ByteArray→Bool→Bool→Int→WP,(∀k f c x g r r2 w',((⟨k,f,c,x,g⟩:Sp.Letter),r,r2)=Sp.jCC L a b→Pure w0 w'→K k f c x g r r2 w')→m_X (some p) a b w0 K from
  w_X _ _ _ w0 _ (key _ (fun _ _ _ _ _ _ _ _ h E=>⟨h,E⟩))
 intro K hK
 unfold m_X
 refine Br.f rfl ?_
 intro H1 w1 hs1
 have E1:Pure w0 w1:=hs1.first
 have J:∀z:Bool,(z=true↔Sp.sizeOf L a=0∨Sp.sizeOf L b=0)→m_X_j1 (some p) a b z w0 H1 w1 K:=by
  intro z hz;unfold m_X_j1;refine ⟨fun h w3 hs3=>hK _ _ _ _ _ _ _ _ ?_ (E1.hst hs3),fun h=>?_⟩
  ·unfold Sp.jCC;rw [if_pos (hz.1 h)];rfl
  have hn:¬ (Sp.sizeOf L a=0∨Sp.sizeOf L b=0):=fun h'=>by rw [hz.2 h'] at h;cases h
  refine (tD p a w1 (hP.pure E1) hok).mono ?_;rintro _ w4 ⟨k,f,c,x,g,ok,rfl,hrd,E4⟩;refine ⟨k,f,c,x,g,ok,rfl,E4.keptP,fun H2 w6 hs6=>?_⟩;have E6:=(E1.trans E4).hst hs6;refine (tD p b w6 (hP.pure E6) hok).mono ?_;rintro _ w7 ⟨k2,f2,c2,x2,g2,ok2,rfl,hrd2,E7⟩;have e1:(Sp.tJ L a).1=⟨k,f,c,x,g⟩:=(congrArg Prod.fst hrd).symm;have e2:(Sp.tJ L b).1=⟨k2,f2,c2,x2,g2⟩:=(congrArg Prod.fst hrd2).symm;have E67:=E6.trans E7;refine ⟨k2,f2,c2,x2,g2,ok2,rfl,E7.keptP,fun h2 H4 w11 hs11=>hK _ _ _ _ _ _ _ _ ?_ (E67.hst hs11),fun h2 y hy=>?_⟩
  ·rw [Bool.or_eq_true] at h2;unfold Sp.jCC;rw [if_neg hn,e1,e2,if_pos (h2.imp bne_iff_ne.1 bne_iff_ne.1)];rfl
  rw [Bool.or_eq_false_iff] at h2;have hb:¬ (k≠1∨k2≠1):=by simpa using h2
  refine ⟨fun h3 H10 w20 hs20=>hK _ _ _ _ _ _ _ _ ?_ (E67.hst hs20),fun h3 H10 w21 hs21=>hK _ _ _ _ _ _ _ _ ?_ (E67.hst hs21)⟩
  all_goals
   unfold Sp.jCC
   rw [if_neg hn,e1,e2,if_neg hb]
  ·rw [if_pos];rw [h3] at hy;simp at hy;rcases hy with (((h | h) | h) | h)
   ·exact .inl h
   ·exact .inr (.inl h)
   ·exact .inr (.inr (.inl h))
   ·exact .inr (.inr (.inr h))
  ·rw [if_neg];rw [h3] at hy;simp at hy;rintro (h | h | h | h)
   ·exact h hy.1.1.1
   ·exact h hy.1.1.2
   ·exact h hy.1.2
   ·exact h hy.2
 refine (jMF p a w1 (hP.pure E1) hok).mono ?_
 rintro _ w2 ⟨_,rfl,rfl,rfl⟩
 refine ⟨_,rfl,Kept.refl _,fun h=>?_,fun h=>?_⟩
 ·exact J true ⟨fun _=>.inl (by simpa using h),fun _=>rfl⟩
 refine (jMF p b w1 (hP.pure E1) hok).mono ?_
 rintro _ w3 ⟨_,rfl,rfl,rfl⟩
 refine ⟨_,rfl,Kept.refl _,J _ ?_⟩
 have h:¬ Sp.sizeOf L a=0:=by simpa using h
 simp [h]
theorem jJX {S:NP} (s:Sl) (who:Int) (fs:List Sp.Fact) (w0:World) (hs:Lst S w0 4 s (fs.map tB)) (hS:∀b,S b→b<w0.heap.size) (hn:fs.length≤1000000) :
  Calls Tryz.prog 40 #[s.v,.int .i64 who] w0 (fun e w'=>∃r:Sl,e=.returned r.v∧RetO w0 75 4 ((Sp.qE who fs).map tB) r w'):=by
 suffices key:∀K:Sl→WP,(∀r w',RetO w0 75 4 ((Sp.qE who fs).map tB) r w'→K r w')→m_J1 s who w0 K from
  w_J1 _ _ w0 _ (key _ (fun _ _ h=>h))
 intro K hK
 unfold m_J1
 have hl:s.len=fs.length:=by rw [hs.len];simp
 refine ⟨fun o i H w'=>∃j:Nat,i=j∧j≤fs.length∧Pure w0 w'∧(∀b,o.blk b→w0.heap.size≤b)∧Own H w' 75 4 o ((Sp.qE who (fs.take j)).map tB),fun _ i _=>((fs.length:Int) - i).toNat,⟨0,rfl,Nat.zero_le _,Ext.refl _,fun b h=>(by obtain ⟨a,h,_⟩:=h;cases h),Own.nil _ _⟩,?_⟩
 rintro o _ Hl wl hl' ⟨j,rfl,hj,El,hown,Ol⟩
 unfold m_J1_l1
 refine ⟨fun h=>?_,fun h=>?_⟩
 ·have hlt:=vS hl h
  obtain ⟨a,hat,_,hrow⟩:=(hs.pure El).nth hlt
  have htk:Sp.qE who (fs.take (j+1))=Sp.qE who (fs.take j)++(if (fs[j].kind == 2 && fs[j].who == who)=true then [fs[j]] else []):=by
   rw [List.take_succ_eq_append_getElem hlt,Sp.qE,Sp.qE,List.filter_append];simp only [List.filter_cons,List.filter_nil]
  have hbl:(Sp.qE who (fs.take j)).length≤j:=by
   have:=List.length_filter_le (fun f:Sp.Fact=>f.kind == 2 && f.who == who) (fs.take j);unfold Sp.qE;rw [List.length_take] at this;omega
  generalize fs[j]=g at *
  refine ⟨a,hat,_,_,_,_,hrow,fun h2 H2 w3 hs3 p2 w4 h4=>?_,fun h2 H2 w3 hs3=>?_⟩
  ·rw [if_pos h2] at htk
   have E4:Pure w3 w4:=Ext.new h4
   have O4:=(Ol.hst hs3).pure E4
   have hE4:=(El.hst hs3).trans E4
   have hrow4:Row w4 p2 (tB g):=(Box.of_new h4).row
   obtain ⟨s',w5,hr,hO,hE,hk,hb⟩:=O4.append (P:=Tryz.prog) (ty:=71) (c:=1) tU (hl'.trans hs3 |>.again E4.keptP) hrow4 rfl rfl (by simp;omega) (by simp [maxLen];omega)
   refine ⟨s',w5,hr,hk,?_⟩
   rw [zZ hlt (by omega)]
   refine ⟨⟨j+1,rfl,hlt,jKC O4 hE4 hE hown,fun b h=>(hb b h).elim (hown b) (fun h=>by have:=hE4.size;omega),?_⟩,qX hlt⟩
   rw [htk,List.map_append];exact hO
  ·rw [if_neg (by simp [h2]),List.append_nil] at htk
   rw [zZ hlt (by omega)]
   exact ⟨⟨j+1,rfl,hlt,El.hst hs3,hown,by rw [htk];exact Ol.hst hs3⟩,qX hlt⟩
 ·have hge:=vT hl hj h
  subst hge
  rw [List.take_length] at Ol
  exact hK _ _ ⟨Ol.rows,hown,El⟩
end Go.Proofs
end
section
open Go Go.SE
open Go.IntKind renaming i64 → q6
namespace Go.Proofs
set_option maxRecDepth 100000
set_option maxHeartbeats 4000000
attribute [local irreducible] wpL wpX opE wpE Calls
theorem qV (a0 a1 a2:Int) (a3:ByteArray) (b0 b1 b2:Int) (b3:ByteArray) (w:World):(Go.binOp .eql 75 (.agg #[(.int .i64 a0),(.int .i64 a1),(.int .u64 a2),(.string a3)]) (.agg #[(.int .i64 b0),(.int .i64 b1),(.int .u64 b2),(.string b3)])).run Tryz.prog w=.ok (.bool ((a0 == b0) && ((a1 == b1) && ((a2 == b2) && (decide (a3=b3)))))) w:=by
 simp [Go.binOp,Op.equal,Op.maxDepth,go_sem,jER,bne]
 repeat' split
 all_goals simp_all
theorem qU (a0 a1 a2:Int) (a3:ByteArray) (b0 b1 b2:Int) (b3:ByteArray) (w:World):(Go.binOp .neq 75 (.agg #[(.int .i64 a0),(.int .i64 a1),(.int .u64 a2),(.string a3)]) (.agg #[(.int .i64 b0),(.int .i64 b1),(.int .u64 b2),(.string b3)])).run Tryz.prog w=.ok (.bool (!((a0 == b0) && ((a1 == b1) && ((a2 == b2) && (decide (a3=b3))))))) w:=by
 simp [Go.binOp,Op.equal,Op.maxDepth,go_sem,jER,bne]
 repeat' split
 all_goals simp_all
def m_V_l2 (s1 s2:Sl) (k2 k21:Int) (w0:World) (Hl2:NP) (wl2:World) (Kc2:Int→Int→NP→WP) (K:Sl→WP):Prop :=Br (decide (k21<(s2.len:Int))) (∃a3:Addr,At s2 k21 4 a3∧∀w2,Hst w0 Hl2 wl2 Hl2 w2→∃aA aB aC aD,Row w2 a3 (Ai aA aB aC aD)∧∃a4:Addr,At s2 (q6.wrap (k21 - 1)) 4 a4∧∃aE aF aG aH,Row w2 a4 (Ai aE aF aG aH)∧Br (!((aA == aE) && ((aB == aF) && ((aC == aG) && (decide (aD=aH)))))) (∃a5:Addr,At s2 k21 4 a5∧∃aQ aR aS aT,Row w2 a5 (Ai aQ aR aS aT)∧∃a6:Addr,At s1 k2 4 a6∧(∀j,j<4→vG w2 (a6.add j))∧¬ Hl2 a6.block∧∀w3,w3=storeRow w2 a6 (Ai aQ aR aS aT)→Kc2 (q6.wrap (k2+1)) (q6.wrap (k21+1)) Hl2 w3) (Kc2 k2 (q6.wrap (k21+1)) Hl2 w2)) (∃s3:Sl,(Instr.sliceAt 71 s1.v (some (vi k2)) none none).run Tryz.prog wl2=.ok s3.v wl2∧∃w4:World,(Builtin.clear_ #[71] 0 #[s3.v]).run Tryz.prog wl2=.ok (.tuple #[]) w4∧Kept Hl2 wl2 w4∧∃s4:Sl,(Instr.sliceAt 71 s1.v none (some (vi k2)) none).run Tryz.prog w4=.ok s4.v w4∧K s4 w4)
def m_V_l1 (s1:Sl) (k1:Int) (w0:World) (Hl1:NP) (wl1:World) (Kc1:Int→NP→WP) (K:Sl→WP):Prop :=Br (decide (k1<(s1.len:Int))) (∃a1:Addr,At s1 k1 4 a1∧∀w1,Hst w0 Hl1 wl1 Hl1 w1→∃aI aJ aK aL,Row w1 a1 (Ai aI aJ aK aL)∧∃a2:Addr,At s1 (q6.wrap (k1 - 1)) 4 a2∧∃aM aN aO aP,Row w1 a2 (Ai aM aN aO aP)∧Br ((aI == aM) && ((aJ == aN) && ((aK == aO) && (decide (aL=aP))))) (∃s2:Sl,(Instr.sliceAt 71 s1.v (some (vi k1)) none none).run Tryz.prog w1=.ok s2.v w1∧∃(I2:Int→Int→NP→WP) (mu2:Int→Int→World→Nat),I2 k1 1 Hl1 w1∧∀(k2 k21:Int) (Hl2:NP) (wl2:World),Hst w0 Hl2 wl2 Hl2 wl2→I2 k2 k21 Hl2 wl2→m_V_l2 s1 s2 k2 k21 w0 Hl2 wl2 (fun y'0 y'1 H' w'=>I2 y'0 y'1 H' w'∧mu2 y'0 y'1 w'<mu2 k2 k21 wl2) K) (Kc1 (q6.wrap (k1+1)) Hl1 w1)) (K s1 wl1)
def m_V (s1:Sl) (w0:World) (K:Sl→WP):Prop :=Br (decide ((s1.len:Int)<2)) (K s1 w0) (∃(I1:Int→NP→WP) (mu1:Int→World→Nat),I1 1 None w0∧∀(k1:Int) (Hl1:NP) (wl1:World),Hst w0 Hl1 wl1 Hl1 wl1→I1 k1 Hl1 wl1→m_V_l1 s1 k1 w0 Hl1 wl1 (fun y'0 H' w'=>I1 y'0 H' w'∧mu1 y'0 w'<mu1 k1 wl1) K)
theorem w_V (s1 w0 K) (h:m_V s1 w0 K):
  Calls Tryz.prog 82 #[s1.v] w0 (fun e w'=>∃r1:Sl,e=.returned r1.v∧K r1 w'):=by
 refine cw (args:=[s1.v]) Tryz.func82 Tryz.ntmps82 ?_
 obtain ⟨hs,hb⟩:=st0 w0
 refine eg (q (ln (zA (eg (qc (zC (zO (cbr h ?_ ?_))))))))<;>intro h
 refine eg (qb (ln (er (zY (rs1 Tryz.results82 ⟨s1,rfl,h⟩)))))
 refine zB (zO (zA (eg (q (ln (zJ ?_))))))
 obtain ⟨I1,mu1,h0,hr⟩:=h
 refine vH (σ:=Int×NP×World) (fun s ρ w=>w=s.2.2∧Has ρ [(0,s1.v),(3,(vi s.1))]∧Hst w0 s.2.1 w s.2.1 w∧HB s.2.1 w []∧I1 s.1 s.2.1 s.2.2) (fun s=>mu1 s.1 s.2.2) (1,None,w0) ⟨rfl,hm,hs,hb,h0⟩ ?_
 rintro ⟨k1,Hl1,wl1⟩ ρ w ⟨hw,hH,hs,hb,hI⟩
 dsimp only at hw hH hs hb;subst w
 have h:=hr k1 Hl1 wl1 hs hI
 refine zU hH (zA (eg (qd (ln (cbr h ?_ ?_)))))<;>intro h
 refine zB (zO (zA (zJ (zA (uN (by kernel_rfl) (by kernel_rfl) (by kernel_rfl) (by kernel_rfl) ?_)))))
 intro w1 hw1
 have hs:Hst w0 Hl1 wl1 Hl1 w1:=by rw [hw1];exact hs.drew
 have hb:HB Hl1 w1 []:=by rw [hw1];exact hb.drew
 refine qq 0 s1.v Kp0 (qq 1 (vi k1) Kp1 (qg 2 ?_))
 obtain ⟨a1,hv15,h⟩:=h
 refine sxQ Kp2 (zD rfl) rfl (xi (Tryz.runUnderlying71 _) (Tryz.sizeOf75 _) hv15) (qg 3 ?_)
 have ⟨h,hs⟩:=hs.hr (h w1)
 obtain ⟨aI,aJ,aK,aL,hv14,h⟩:=h
 refine sxQ (v:=(Ah aI aJ aK aL)) Kp3 (zD rfl) rfl (xa a1 (Ai aI aJ aK aL) (Tryz.isAgg75 _) (Tryz.sizeOf75 _) hv14) (qq 4 s1.v Kp4 (qq 5 (vi k1) Kp5 (qq 6 (vi (q6.wrap (k1 - 1))) Kp6 (qg 7 ?_))))
 obtain ⟨a2,hv13,h⟩:=h
 refine sxQ Kp7 (zD rfl) rfl (xi (Tryz.runUnderlying71 _) (Tryz.sizeOf75 _) hv13) (qg 8 ?_)
 obtain ⟨aM,aN,aO,aP,hv12,h⟩:=h
 refine sxQ (v:=(Ah aM aN aO aP)) Kp8 (zD rfl) rfl (xa a2 (Ai aM aN aO aP) (Tryz.isAgg75 _) (Tryz.sizeOf75 _) hv12) (qr 9 (vb ((aI == aM) && ((aJ == aN) && ((aK == aO) && (decide (aL=aP)))))) Kp9 (jCH (by kernel_rfl) (by kernel_rfl) (by kernel_rfl) (qV aI aJ aK aL aM aN aO aP _)) (wn (zO (cbr h ?_ ?_))))<;>intro h
 refine eg (qb ?_)
 obtain ⟨s2,hv11,h⟩:=h
 refine q2 s2.v (xU (by kernel_rfl) (by kernel_rfl) (by kernel_rfl) (by kernel_rfl) hv11) (q (ln (zA (eg (q (ln (zJ ?_)))))))
 obtain ⟨I2,mu2,h0,hr⟩:=h
 refine vH (σ:=Int×Int×NP×World) (fun s ρ w=>w=s.2.2.2∧Has ρ [(0,s1.v),(3,(vi s.1)),(4,s2.v),(5,(vi s.2.1))]∧Hst w0 s.2.2.1 w s.2.2.1 w∧HB s.2.2.1 w []∧I2 s.1 s.2.1 s.2.2.1 s.2.2.2) (fun s=>mu2 s.1 s.2.1 s.2.2.2) (k1,1,Hl1,w1) ⟨rfl,hm,hs,hb,h0⟩ ?_
 rintro ⟨k2,k21,Hl2,wl2⟩ ρ w ⟨hw,hH,hs,hb,hI⟩
 dsimp only at hw hH hs hb;subst w
 have h:=hr k2 k21 Hl2 wl2 hs hI
 refine zU hH (zA (eg (qd (ln (cbr h ?_ ?_)))))<;>intro h
 refine zB (zO (zA (zJ (zA (uN (by kernel_rfl) (by kernel_rfl) (by kernel_rfl) (by kernel_rfl) ?_)))))
 intro w2 hw2
 have hs:Hst w0 Hl2 wl2 Hl2 w2:=by rw [hw2];exact hs.drew
 have hb:HB Hl2 w2 []:=by rw [hw2];exact hb.drew
 refine qq 0 s2.v Kp0 (qq 1 (vi k21) Kp1 (qg 2 ?_))
 obtain ⟨a3,hv7,h⟩:=h
 refine sxQ Kp2 (zD rfl) rfl (xi (Tryz.runUnderlying71 _) (Tryz.sizeOf75 _) hv7) (qg 3 ?_)
 have ⟨h,hs⟩:=hs.hr (h w2)
 obtain ⟨aA,aB,aC,aD,hv6,h⟩:=h
 refine sxQ (v:=(Ah aA aB aC aD)) Kp3 (zD rfl) rfl (xa a3 (Ai aA aB aC aD) (Tryz.isAgg75 _) (Tryz.sizeOf75 _) hv6) (qq 4 s2.v Kp4 (qq 5 (vi k21) Kp5 (qq 6 (vi (q6.wrap (k21 - 1))) Kp6 (qg 7 ?_))))
 obtain ⟨a4,hv5,h⟩:=h
 refine sxQ Kp7 (zD rfl) rfl (xi (Tryz.runUnderlying71 _) (Tryz.sizeOf75 _) hv5) (qg 8 ?_)
 obtain ⟨aE,aF,aG,aH,hv4,h⟩:=h
 refine sxQ (v:=(Ah aE aF aG aH)) Kp8 (zD rfl) rfl (xa a4 (Ai aE aF aG aH) (Tryz.isAgg75 _) (Tryz.sizeOf75 _) hv4) (qr 9 (vb (!((aA == aE) && ((aB == aF) && ((aC == aG) && (decide (aD=aH))))))) Kp9 (jCH (by kernel_rfl) (by kernel_rfl) (by kernel_rfl) (qU aA aB aC aD aE aF aG aH _)) (wn (zO (cbr h ?_ ?_))))<;>intro h
 refine eg (qd (qi (Tryz.runUnderlying71 _) (Tryz.sizeOf75 _) h fun a5 h=>?_))
 obtain ⟨aQ,aR,aS,aT,hv2,h⟩:=h
 refine qa (Tryz.isAgg75 _) (Tryz.sizeOf75 _) hv2 (qi (Tryz.runUnderlying71 _) (Tryz.sizeOf75 _) h fun a6 h=>?_)
 obtain ⟨hp1,hnh,h⟩:=h
 refine zK (zD rfl) (xo a6 (Ai aQ aR aS aT) (Tryz.sizeOf75 _) hp1) ?_
 intro w3 hn1
 have h:=h w3 hn1
 have hk:Kept Hl2 w2 w3:=by rw [hn1];exact Kept.storeRow hnh
 obtain ⟨hs,hb⟩:=hk.hh hs hb
 refine ln (rg (qc (zC (yQ (zO (rg (qb (q (ln ⟨((q6.wrap (k2+1)),(q6.wrap (k21+1)),Hl2,w3),⟨rfl,hm,hs,hb,h.1⟩,h.2⟩)))))))))
 refine zB (yQ (zO (rg (qc (ln ⟨(k2,(q6.wrap (k21+1)),Hl2,w2),⟨rfl,hm,hs,hb,h.1⟩,h.2⟩)))))
 refine vF (yM (yM (yK (zO (eg (q0 s1.v (q0 (vi k2) ?_)))))))
 obtain ⟨s3,hv10,h⟩:=h
 refine q2 s3.v (xU (by kernel_rfl) (by kernel_rfl) (by kernel_rfl) (by kernel_rfl) hv10) ?_
 obtain ⟨w4,hv9,hk,h⟩:=h
 refine st (v:=(.tuple #[])) (zD rfl) (vP (args:=#[s3.v]) (by kernel_rfl) (fun _=>rfl) hv9) ?_
 obtain ⟨hs,hb⟩:=hk.hh hs hb
 refine ln (eg (qb ?_))
 obtain ⟨s4,hv8,h⟩:=h
 refine q2 s4.v (xU (by kernel_rfl) (by kernel_rfl) (by kernel_rfl) (by kernel_rfl) hv8) (q (ln (er (qN (zY (zY (qN (zY (rs1 Tryz.results82 ⟨s4,rfl,h⟩)))))))))
 refine zB (yQ (zO (rg (qc (ln ⟨((q6.wrap (k1+1)),Hl1,w1),⟨rfl,hm,hs,hb,h.1⟩,h.2⟩)))))
 refine vF (yM (yM (yK (zO (eg (q0 s1.v (q0 s1.v (ln (er (rs1 Tryz.results82 ⟨s1,rfl,h⟩))))))))))
def m_K1_l1 (vals1:Sl) (x1:Int) (wl1:World) (Kc1:Int→WP) (K:Int→WP):Prop :=Br (decide (x1<(vals1.len:Int))) (∃a1:Addr,At vals1 x1 1 a1∧∃v1,wl1.cell? a1=some (vi v1)∧Br (v1 != 0) (K v1 wl1) (Kc1 (q6.wrap (x1+1)) wl1)) (K 0 wl1)
def m_K1 (vals1:Sl) (w0:World) (K:Int→WP):Prop :=∃(I1:Int→WP) (mu1:Int→World→Nat),I1 0 w0∧∀(x1:Int) (wl1:World),I1 x1 wl1→m_K1_l1 vals1 x1 wl1 (fun y'0 w'=>I1 y'0 w'∧mu1 y'0 w'<mu1 x1 wl1) K
theorem w_K1 (vals1 w0 K) (h:m_K1 vals1 w0 K):
  Calls Tryz.prog 83 #[vals1.v] w0 (fun e w'=>∃r1,e=.returned (vi r1)∧K r1 w'):=by
 refine cw (args:=[vals1.v]) Tryz.func83 Tryz.ntmps83 (eg (q0 (vi 0) (ln (eg (q0 (vi 0) (ln (zA ?_)))))))
 refine eg (qc (ln (zJ ?_)))
 obtain ⟨I1,mu1,h0,hr⟩:=h
 refine vH (σ:=Int×World) (fun s ρ w=>w=s.2∧Has ρ [(3,(vi 0)),(6,vals1.v),(7,(vi (vals1.len:Int))),(8,(vi s.1))]∧I1 s.1 s.2) (fun s=>mu1 s.1 s.2) (0,w0) ⟨rfl,hm,h0⟩ ?_
 rintro ⟨x1,wl1⟩ ρ w ⟨hw,hH,hI⟩
 dsimp only at hw hH;subst w
 have h:=hr x1 wl1 hI
 refine zU hH (eg (q (ln (zA (cbr h ?_ ?_)))))<;>intro h
 refine zB (zO (zA (zJ (eg (qi (Tryz.runUnderlying42 _) (Tryz.sizeOf3 _) h fun a1 h=>ql (Tryz.isAgg3 _) h fun v1 h=>q (ln (eg (qc (ln (cbr h ?_ ?_))))))))))<;>intro h
 refine eg (qb (ln (er (qN (zY (zY (qN (zY (rs1 Tryz.results83 ⟨v1,rfl,h⟩)))))))))
 refine zB (yQ (zO (rg (qb (ln ⟨((q6.wrap (x1+1)),wl1),⟨rfl,hm,h.1⟩,h.2⟩)))))
 refine vF (yM (yM (yK (zO (eg (q0 (vi 0) (q0 (vi 0) (ln (er (rs1 Tryz.results83 ⟨0,rfl,h⟩))))))))))
def s_H2 (x1:Int):Bool :=(x1 != x1)
theorem pw_H2 (x1:Int) (w0:World) :
  Calls Tryz.prog 156 #[(vu x1)] w0 (fun e w'=>(e=.returned (vb (x1 != x1)))∧Pure w0 w'):=by
 refine cw (args:=[(vu x1)]) Tryz.func156 Tryz.ntmps156 (eg (q0 (vb false) (ln (eg (q0 (vu x1) (q0 (vu x1) (q0 (vb (x1 != x1)) (q0 (vb (x1 != x1)) ?_))))))))
 refine ln (er (rs1 Tryz.results156 (v:=(vb (x1 != x1))) ⟨by kernel_rfl,Ext.refl _⟩))
theorem p_H2 (x1:Int) (w0:World):Calls Tryz.prog 156 #[(.int .u64 x1)] w0 (fun e w'=>e=.returned (.bool (s_H2 x1))∧Pure w0 w'):=pw_H2 x1 w0
def s_X1 (x1 y1:Int):Int :=(cond (x1 != x1) (cond (y1 != y1) 0 (-1)) (cond (y1 != y1) 1 (cond (decide (x1<y1)) (-1) (cond (decide (x1>y1)) 1 0))))
theorem pw_X1 (x1 y1:Int) (w0:World) :
  Calls Tryz.prog 84 #[(vu x1),(vu y1)] w0 (fun e w'=>∃b'0 b'1 b'2 b'3:Bool,((x1 != x1)=b'0∧(y1 != y1)=b'1∧(decide (x1<y1))=b'2∧(decide (x1>y1))=b'3)∧(e=.returned (vi (cond b'0 (cond b'1 0 (-1)) (cond b'1 1 (cond b'2 (-1) (cond b'3 1 0))))))∧Pure w0 w'):=by
 refine cw (args:=[(vu x1),(vu y1)]) Tryz.func84 Tryz.ntmps84 ?_
 obtain ⟨hs,hb⟩:=st0 w0
 refine eg (q (ln (eg (q (sc Tryz.call156 ((p_H2 x1 w0).mono ?_))))))
 rintro e w1 ⟨he,hE⟩
 refine ⟨_,he,?_⟩
 obtain ⟨hs,hb⟩:=hs.pp hb hE
 refine q (ln (eg (q (sc Tryz.call156 ((p_H2 y1 w1).mono ?_)))))
 rintro e w2 ⟨he,hE⟩
 refine ⟨_,he,?_⟩
 obtain ⟨hs,hb⟩:=hs.pp hb hE
 refine q (ln (zA (eg (q (ln (vO (t:=(x1 != x1)) (by kernel_rfl) (fun hc1=>?_) (fun hc1=>?_)))))))
 refine zA (eg (q (ln (vO (t:=(y1 != y1)) (by kernel_rfl) (fun hc2=>?_) (fun hc2=>?_)))))
 refine eg (q (ln (er (zY (zY (rs1 Tryz.results84 (v:=(vi 0)) ⟨true,true,_,_,⟨hc1,hc2,rfl,rfl⟩,by kernel_rfl,(Ext.refl (F:=None) _).hst hs⟩))))))
 refine zB (zO (eg (q (ln (er (zY (rs1 Tryz.results84 (v:=(vi (-1))) ⟨true,false,_,_,⟨hc1,hc2,rfl,rfl⟩,by kernel_rfl,(Ext.refl (F:=None) _).hst hs⟩)))))))
 refine zB (zO (zA (eg (q (ln (vO (t:=(y1 != y1)) (by kernel_rfl) (fun hc3=>?_) (fun hc3=>?_)))))))
 refine eg (q (ln (er (zY (rs1 Tryz.results84 (v:=(vi 1)) ⟨false,true,_,_,⟨hc1,hc3,rfl,rfl⟩,by kernel_rfl,(Ext.refl (F:=None) _).hst hs⟩)))))
 refine zB (zO (zA (eg (qc (ln (vO (t:=(decide (x1<y1))) (by kernel_rfl) (fun hc4=>?_) (fun hc4=>?_)))))))
 refine eg (q (ln (er (zY (rs1 Tryz.results84 (v:=(vi (-1))) ⟨false,false,true,_,⟨hc1,hc3,hc4,rfl⟩,by kernel_rfl,(Ext.refl (F:=None) _).hst hs⟩)))))
 refine zB (zO (zA (eg (qc (ln (vO (t:=(decide (x1>y1))) (by kernel_rfl) (fun hc5=>?_) (fun hc5=>?_)))))))
 refine eg (q (ln (er (zY (rs1 Tryz.results84 (v:=(vi 1)) ⟨false,false,false,true,⟨hc1,hc3,hc4,hc5⟩,by kernel_rfl,(Ext.refl (F:=None) _).hst hs⟩)))))
 refine zB (zO (eg (q (ln (er (rs1 Tryz.results84 (v:=(vi 0)) ⟨false,false,false,false,⟨hc1,hc3,hc4,hc5⟩,by kernel_rfl,(Ext.refl (F:=None) _).hst hs⟩))))))
theorem p_X1 (x1 y1:Int) (w0:World):Calls Tryz.prog 84 #[(.int .u64 x1),(.int .u64 y1)] w0 (fun e w'=>e=.returned (.int .i64 (s_X1 x1 y1))∧Pure w0 w'):=by
 refine (pw_X1 x1 y1 w0).mono ?_;rintro e w' ⟨b'0,b'1,b'2,b'3,⟨e0,e1,e2,e3⟩,h,E⟩;subst e0;subst e1;subst e2;subst e3;exact ⟨h,E⟩
def s_I2 (x1:Int):Bool :=(x1 != x1)
theorem pw_I2 (x1:Int) (w0:World) :
  Calls Tryz.prog 157 #[(vi x1)] w0 (fun e w'=>(e=.returned (vb (x1 != x1)))∧Pure w0 w'):=by
 refine cw (args:=[(vi x1)]) Tryz.func157 Tryz.ntmps157 (eg (q0 (vb false) (ln (eg (q0 (vi x1) (q0 (vi x1) (q0 (vb (x1 != x1)) (q0 (vb (x1 != x1)) ?_))))))))
 refine ln (er (rs1 Tryz.results157 (v:=(vb (x1 != x1))) ⟨by kernel_rfl,Ext.refl _⟩))
theorem p_I2 (x1:Int) (w0:World):Calls Tryz.prog 157 #[(.int .i64 x1)] w0 (fun e w'=>e=.returned (.bool (s_I2 x1))∧Pure w0 w'):=pw_I2 x1 w0
def s_Y1 (x1 y1:Int):Int :=(cond (x1 != x1) (cond (y1 != y1) 0 (-1)) (cond (y1 != y1) 1 (cond (decide (x1<y1)) (-1) (cond (decide (x1>y1)) 1 0))))
theorem pw_Y1 (x1 y1:Int) (w0:World) :
  Calls Tryz.prog 85 #[(vi x1),(vi y1)] w0 (fun e w'=>∃b'0 b'1 b'2 b'3:Bool,((x1 != x1)=b'0∧(y1 != y1)=b'1∧(decide (x1<y1))=b'2∧(decide (x1>y1))=b'3)∧(e=.returned (vi (cond b'0 (cond b'1 0 (-1)) (cond b'1 1 (cond b'2 (-1) (cond b'3 1 0))))))∧Pure w0 w'):=by
 refine cw (args:=[(vi x1),(vi y1)]) Tryz.func85 Tryz.ntmps85 ?_
 obtain ⟨hs,hb⟩:=st0 w0
 refine eg (q (ln (eg (q (sc Tryz.call157 ((p_I2 x1 w0).mono ?_))))))
 rintro e w1 ⟨he,hE⟩
 refine ⟨_,he,?_⟩
 obtain ⟨hs,hb⟩:=hs.pp hb hE
 refine q (ln (eg (q (sc Tryz.call157 ((p_I2 y1 w1).mono ?_)))))
 rintro e w2 ⟨he,hE⟩
 refine ⟨_,he,?_⟩
 obtain ⟨hs,hb⟩:=hs.pp hb hE
 refine q (ln (zA (eg (q (ln (vO (t:=(x1 != x1)) (by kernel_rfl) (fun hc1=>?_) (fun hc1=>?_)))))))
 refine zA (eg (q (ln (vO (t:=(y1 != y1)) (by kernel_rfl) (fun hc2=>?_) (fun hc2=>?_)))))
 refine eg (q (ln (er (zY (zY (rs1 Tryz.results85 (v:=(vi 0)) ⟨true,true,_,_,⟨hc1,hc2,rfl,rfl⟩,by kernel_rfl,(Ext.refl (F:=None) _).hst hs⟩))))))
 refine zB (zO (eg (q (ln (er (zY (rs1 Tryz.results85 (v:=(vi (-1))) ⟨true,false,_,_,⟨hc1,hc2,rfl,rfl⟩,by kernel_rfl,(Ext.refl (F:=None) _).hst hs⟩)))))))
 refine zB (zO (zA (eg (q (ln (vO (t:=(y1 != y1)) (by kernel_rfl) (fun hc3=>?_) (fun hc3=>?_)))))))
 refine eg (q (ln (er (zY (rs1 Tryz.results85 (v:=(vi 1)) ⟨false,true,_,_,⟨hc1,hc3,rfl,rfl⟩,by kernel_rfl,(Ext.refl (F:=None) _).hst hs⟩)))))
 refine zB (zO (zA (eg (qc (ln (vO (t:=(decide (x1<y1))) (by kernel_rfl) (fun hc4=>?_) (fun hc4=>?_)))))))
 refine eg (q (ln (er (zY (rs1 Tryz.results85 (v:=(vi (-1))) ⟨false,false,true,_,⟨hc1,hc3,hc4,rfl⟩,by kernel_rfl,(Ext.refl (F:=None) _).hst hs⟩)))))
 refine zB (zO (zA (eg (qc (ln (vO (t:=(decide (x1>y1))) (by kernel_rfl) (fun hc5=>?_) (fun hc5=>?_)))))))
 refine eg (q (ln (er (zY (rs1 Tryz.results85 (v:=(vi 1)) ⟨false,false,false,true,⟨hc1,hc3,hc4,hc5⟩,by kernel_rfl,(Ext.refl (F:=None) _).hst hs⟩)))))
 refine zB (zO (eg (q (ln (er (rs1 Tryz.results85 (v:=(vi 0)) ⟨false,false,false,false,⟨hc1,hc3,hc4,hc5⟩,by kernel_rfl,(Ext.refl (F:=None) _).hst hs⟩))))))
theorem p_Y1 (x1 y1:Int) (w0:World):Calls Tryz.prog 85 #[(.int .i64 x1),(.int .i64 y1)] w0 (fun e w'=>e=.returned (.int .i64 (s_Y1 x1 y1))∧Pure w0 w'):=by
 refine (pw_Y1 x1 y1 w0).mono ?_;rintro e w' ⟨b'0,b'1,b'2,b'3,⟨e0,e1,e2,e3⟩,h,E⟩;subst e0;subst e1;subst e2;subst e3;exact ⟨h,E⟩
def s_J2 (x1:ByteArray):Bool :=(!(decide (x1=x1)))
theorem pw_J2 (x1:ByteArray) (w0:World) :
  Calls Tryz.prog 158 #[(vs x1)] w0 (fun e w'=>(e=.returned (vb (!(decide (x1=x1)))))∧Pure w0 w'):=by
 refine cw (args:=[(vs x1)]) Tryz.func158 Tryz.ntmps158 (eg (q0 (vb false) (ln (eg (q0 (vs x1) (q0 (vs x1) (q2 (vb (!(decide (x1=x1)))) (uM (by kernel_rfl) (by kernel_rfl)) (q0 (vb (!(decide (x1=x1)))) ?_))))))))
 refine ln (er (rs1 Tryz.results158 (v:=(vb (!(decide (x1=x1))))) ⟨by kernel_rfl,Ext.refl _⟩))
theorem p_J2 (x1:ByteArray) (w0:World):Calls Tryz.prog 158 #[(.string x1)] w0 (fun e w'=>e=.returned (.bool (s_J2 x1))∧Pure w0 w'):=pw_J2 x1 w0
def m_N3 (x1 y1:ByteArray) (w0:World) (K:Int→WP):Prop :=Br (!(decide (x1=x1))) (Br (!(decide (y1=y1))) (∀w2,Hst w0 None w0 None w2→K 0 w2) (∀w2,Hst w0 None w0 None w2→K (-1) w2)) (Br (!(decide (y1=y1))) (∀w2,Hst w0 None w0 None w2→K 1 w2) (∀w2,Hst w0 None w0 None w2→∃b1,(Go.binOp .lss 9 (vs x1) (vs y1)).run Tryz.prog w2=.ok (vb b1) w2∧Br b1 (K (-1) w2) (∃b2,(Go.binOp .gtr 9 (vs x1) (vs y1)).run Tryz.prog w2=.ok (vb b2) w2∧Br b2 (K 1 w2) (K 0 w2))))
theorem w_N3 (x1 y1 w0 K) (h:m_N3 x1 y1 w0 K):
  Calls Tryz.prog 86 #[(vs x1),(vs y1)] w0 (fun e w'=>∃r1,e=.returned (vi r1)∧K r1 w'):=by
 refine cw (args:=[(vs x1),(vs y1)]) Tryz.func86 Tryz.ntmps86 ?_
 obtain ⟨hs,hb⟩:=st0 w0
 refine eg (q (ln (eg (q (sc Tryz.call158 ((p_J2 x1 w0).mono ?_))))))
 rintro e w1 ⟨he,hE⟩
 refine ⟨_,he,?_⟩
 obtain ⟨hs,hb⟩:=hs.pp hb hE
 refine q (ln (eg (q (sc Tryz.call158 ((p_J2 y1 w1).mono ?_)))))
 rintro e w2 ⟨he,hE⟩
 refine ⟨_,he,?_⟩
 obtain ⟨hs,hb⟩:=hs.pp hb hE
 refine q (ln (zA (eg (q (ln (cbr h ?_ ?_))))))<;>intro h
 refine zA (eg (q (ln (cbr h ?_ ?_))))<;>intro h
 refine eg (q (ln (er (zY (zY ?_)))))
 have ⟨h,hs⟩:=hs.hr (h w2)
 refine rs1 Tryz.results86 ⟨0,rfl,h⟩
 refine zB (zO (eg (q (ln (er (zY ?_))))))
 have ⟨h,hs⟩:=hs.hr (h w2)
 refine rs1 Tryz.results86 ⟨(-1),rfl,h⟩
 refine zB (zO (zA (eg (q (ln (cbr h ?_ ?_))))))<;>intro h
 refine eg (q (ln (er (zY ?_))))
 have ⟨h,hs⟩:=hs.hr (h w2)
 refine rs1 Tryz.results86 ⟨1,rfl,h⟩
 refine zB (zO (zA (eg (qb ?_))))
 have ⟨h,hs⟩:=hs.hr (h w2)
 obtain ⟨b1,hv2,h⟩:=h
 refine q2 (vb b1) (jHE (by kernel_rfl) (by kernel_rfl) (by kernel_rfl) hv2) (ln (cbr h ?_ ?_))<;>intro h
 refine eg (q (ln (er (zY (rs1 Tryz.results86 ⟨(-1),rfl,h⟩)))))
 refine zB (zO (zA (eg (qb ?_))))
 obtain ⟨b2,hv1,h⟩:=h
 refine q2 (vb b2) (jHE (by kernel_rfl) (by kernel_rfl) (by kernel_rfl) hv1) (ln (cbr h ?_ ?_))<;>intro h
 refine eg (q (ln (er (zY (rs1 Tryz.results86 ⟨1,rfl,h⟩)))))
 refine zB (zO (eg (q (ln (er (rs1 Tryz.results86 ⟨0,rfl,h⟩))))))
def m_O3 (seq1:Value) (w0:World) (K:Sl→WP):Prop :=Calls Tryz.prog 283 #[Sl.nil.v,seq1] w0 (fun e w1=>∃r1:Sl,e=.returned r1.v∧K r1 w1)
theorem w_O3 (seq1 w0 K) (h:m_O3 seq1 w0 K):
  Calls Tryz.prog 206 #[seq1] w0 (fun e w'=>∃r2:Sl,e=.returned r2.v∧K r2 w'):=by
 refine cw (args:=[seq1]) Tryz.func206 Tryz.ntmps206 (eg (q0 Sl.nil.v (ln (eg (q0 seq1 ?_)))))
 refine sc Tryz.call283 (h.mono fun e w1 ⟨r1,k,h⟩=>⟨_,k,?_⟩)
 refine q (ln (er (rs1 Tryz.results206 ⟨r1,rfl,h⟩)))
def m_P3 (seq1:Value) (w0:World) (K:Sl→WP):Prop :=Calls Tryz.prog 206 #[seq1] w0 (fun e w1=>∃r1:Sl,e=.returned r1.v∧Calls Tryz.prog 207 #[r1.v] w1 (fun e w2=>e=.returned (.tuple #[])∧K r1 w2))
theorem w_P3 (seq1 w0 K) (h:m_P3 seq1 w0 K):
  Calls Tryz.prog 152 #[seq1] w0 (fun e w'=>∃r2:Sl,e=.returned r2.v∧K r2 w'):=by
 refine cw (args:=[seq1]) Tryz.func152 Tryz.ntmps152 (eg (q0 Sl.nil.v (ln (eg (q0 seq1 ?_)))))
 refine sc Tryz.call206 (h.mono fun e w1 ⟨r1,k,h⟩=>⟨_,k,?_⟩)
 refine q (ln (eg (q (sc Tryz.call207 (h.mono fun e w2 ⟨k,h⟩=>⟨_,k,?_⟩)))))
 refine ln (eg (qb (ln (er (rs1 Tryz.results152 ⟨r1,rfl,h⟩)))))
def m_Q3 (s1:Sl) (w0:World) (K:Value→WP):Prop :=∀p1 w1,New w0 (.cells #[s1.v] 46) p1 w1→K (.func (.func 208) #[] #[(vp (some p1))]) w1
theorem w_Q3 (s1 w0 K) (h:m_Q3 s1 w0 K):
  Calls Tryz.prog 153 #[s1.v] w0 (fun e w'=>∃r1:Value,e=.returned r1∧K r1 w'):=by
 refine cw (args:=[s1.v]) Tryz.func153 Tryz.ntmps153 (eg (sn (O:=(.cells #[s1.v] 46)) xb ?_))
 intro p1 w1 hn1
 have h:=h p1 w1 hn1
 refine q (ln (eg (qb (ln (er (rs1 Tryz.results153 ⟨(.func (.func 208) #[] #[(vp (some p1))]),rfl,h⟩))))))
end Go.Proofs
end
section
namespace Go.SE
open Go.Sort Go.Shelf Go.Proofs
theorem jNI (w:World) (q:Nat):w.drewN q={ w with drawn:=w.drawn+q }:=rfl
theorem jFZ {w w':World} (h:Pure w w'):∃q os,w'=Sort.grow (w.drewN q) os:=by
 refine ⟨w'.drawn - w.drawn,w'.heap.extract w.heap.size w'.heap.size,?_⟩;have hh:w'.heap=w.heap++w'.heap.extract w.heap.size w'.heap.size:=by
  apply Array.ext_getElem?;intro i;by_cases hi:i<w.heap.size
  ·rw [h.keep i hi id,Array.getElem?_append_left hi]
  ·rw [Array.getElem?_append_right (by omega),Array.getElem?_extract];by_cases h2:i<w'.heap.size
   ·rw [if_pos (by omega)];congr 1;omega
   ·rw [if_neg (by omega),Array.getElem?_eq_none (by omega)]
 have h1:=h.os;have h2:=h.tape;have h3:=h.output;have h4:=h.drawn;clear h;obtain ⟨a,b,c,d,e⟩:=w;obtain ⟨a',b',c',d',e'⟩:=w';simp only at h1 h2 h3 h4 hh;subst h1;subst h2;subst h3;rw [jNI];unfold Sort.grow;simp only [World.mk.injEq,and_true,true_and];exact ⟨hh,by omega⟩
theorem jEE {α:Type} [Inhabited α] (enc:α→List Value) (k:Nat) (hk:∀x,(enc x).length=k) (d:Array α):(flatK enc k d).toList=(d.toList.map enc).flatten:=by
 have hl:∀q∈d.toList.map enc,q.length=k:=by
  intro q hq;obtain ⟨x,_,rfl⟩:=List.mem_map.1 hq;exact hk x
 have hlen:(d.toList.map enc).flatten.length=d.size*k:=by rw [vY hl];simp
 apply List.ext_getElem?;intro t;by_cases ht:t<d.size*k
 ·have k0:0<k:=by rcases Nat.eq_zero_or_pos k with h | h;subst h;simp at ht;exact h
  have hd:t / k<d.size:=by rw [Nat.div_lt_iff_lt_mul k0];exact ht
  have hm:t % k<k:=Nat.mod_lt _ k0;have e:t=(t / k)*k+t % k:=(Nat.div_add_mod' t k).symm;have h1:=get_flatK enc k d t ht;rw [Array.getElem?_toList,Array.getElem?_eq_getElem (by simpa using ht)];rw [getElem!_pos _ t (by simpa using ht),getElem!_pos d _ hd,getElem!_pos _ (t % k) (by rw [hk];exact hm)] at h1;rw [h1];have h2:=jAI hl (i:=t / k) (by simpa using hd) hm;rw [← e] at h2;rw [h2,List.getElem_map,List.getElem?_eq_getElem (by rw [hk];exact hm)];simp
 ·rw [List.getElem?_eq_none (by simp;omega),List.getElem?_eq_none (by omega)]
variable {α:Type} [Inhabited α] {P:Program} {ρ:Ren} {k:Nat} {enc:α→List Value} {e:TypeId}
theorem Rws.holdsK {w:World} {s:Sl} {g:Nat} {cur:Array Value} {ds:List α} (hk:∀x,(enc x).length=k) (hg:w.heap[g]?=some (.cells cur e (0,0))) (ht:cur.toList.take (ds.length*k)=(ds.map enc).flatten):HoldsK enc k w g 0 ds.toArray:=by
 intro j hj;rw [size_flatK] at hj;have hf:=jEE enc k hk ds.toArray;simp only at hf;have hj':j<ds.length*k:=by simpa using hj
 have hsz:(flatK enc k ds.toArray).size=ds.length*k:=by simp
 have h1:cur.toList[j]?=(flatK enc k ds.toArray).toList[j]?:=by
  rw [hf,← ht,List.getElem?_take_of_lt hj']
 rw [Array.getElem?_toList,Array.getElem?_toList,Array.getElem?_eq_getElem (show j<(flatK enc k ds.toArray).size by omega)] at h1;refine ⟨?_,?_⟩
 ·unfold World.cell?;rw [hg];simp only [Option.isSome_none,Bool.false_eq_true,if_false,Nat.zero_add,id];rw [h1,getElem!_pos _ j (by omega)]
 ·unfold World.frozen?;rw [hg];simp
theorem jFK (L:SlLaysF0.n6 P ρ) (aE:∀w,(isAgg (ρ.t 24)).run P w=.ok true w) (zE:∀w,(Go.sizeOf (ρ.t 24)).run P w=.ok k w) (hk:∀x,(enc x).length=k) (h1:∀x,∀v∈enc x,v.oneCell'=true)
  (cf:α→α→Int) (hO:SWO (ltOf cf)) (g:Nat) (eg:∀args w,(callFunc g args).run P w=.ok (.enter g args) w)
  (hc:∀x y W,Calls P g #[.agg (enc x).toArray,.agg (enc y).toArray] W (fun o w'=>o=.returned (.int .i64 (cf x y))∧Pure W w'))
  {w:World} {s:Sl} {ds:List α} (hr:Rws w e k s (ds.map enc)) (hn:ds.length<4611686018427387904) :
  Calls P (ρ.f 6) #[s.v,.func (.func g) #[] #[]] w (fun o w'=>o=.returned (.tuple #[])∧∃ds':List α,ds'.Perm ds∧ds'.Pairwise (fun a b=>¬ cf b a<0)∧Rws w' e k s (ds'.map enc)∧Ext s.blk w w'):=by
 have hl:s.len=ds.length:=by rw [hr.len];simp
 rcases hr.own with ⟨rfl,hnil⟩ | ⟨b,cur,ha,hg,hcap,hm,hsz,ht⟩
 ·have hd:ds=[]:=by simpa using hnil
  subst hd
  refine (AnyF.slices_SortFunc_none L none 0 _ w).mono ?_
  rintro _ w' ⟨rfl,rfl⟩
  exact ⟨rfl,[],.refl _,.nil,hr,Ext.refl _⟩
 ·rw [List.length_map] at hcap ht
  have hH:HoldsK enc k w b 0 ds.toArray:=Rws.holdsK (s:=s) hk hg ht
  have hb:b<w.heap.size:=uI hg
  have hv:s.v=.slice (some ⟨b,0,none⟩) ds.toArray.size s.cap:=by unfold Sl.v;rw [ha,hl];simp
  rw [hv]
  refine (AnyQ.slices_SortFunc L k aE zE enc hk h1 cf hO g #[] b 0 s.cap ds.toArray w eg (fun m os dk _ x y=>?_) hH hb (by simpa using hn)).mono ?_
  ·refine (hc x y _).mono ?_
   rintro o w' ⟨rfl,hp⟩
   exact ⟨rfl,jFZ hp⟩
  rintro _ w' ⟨rfl,d',n,os,hp,hs,rfl⟩
  obtain ⟨hps,_,hpp⟩:=hp
  have hps':d'.size=ds.length:=by simpa using hps
  have hperm:d'.toList.Perm ds:=by
   rw [← hps] at hpp;rw [Array.extract_size] at hpp;simpa [hps'] using hpp
  refine ⟨rfl,d'.toList,hperm,?_,?_,?_⟩
  ·rw [List.pairwise_iff_getElem]
   intro i j hi hj hij
   have hj':j<d'.size:=by simpa using hj
   have hi':i<d'.size:=by simpa using hi
   have:=hs i j (Nat.zero_le _) hij (by simp;omega)
   unfold ltOf at this
   rw [getElem!_pos d' i hi',getElem!_pos d' j hj'] at this
   simpa using this
  ·have hl2 : ∀ q ∈ d'.toList.map enc, q.length = k := by
    intro q hq;obtain ⟨x,_,rfl⟩:=List.mem_map.1 hq;exact hk x
   refine ⟨hl2,by rw [hl];simp [hps'],.inr ⟨b,putCells id 0 (flatK enc k d') cur,ha,?_,by simpa [hps'] using hcap,hm,by simp [putCells,hsz],?_⟩⟩
   ·unfold sortWorldK putRowK
    rw [heap_grow_old _ _ (by simpa using hb)]
    simp [putRow,mapBlock,Sort.ahead,Array.getElem?_modify,hg,onCells]
   ·rw [← jEE enc k hk d',List.length_map,Array.length_toList]
    apply List.ext_getElem?
    intro j
    have hle:ds.length*k≤s.cap*k:=Nat.mul_le_mul_right _ hcap
    by_cases hj:j<d'.size*k
    ·rw [List.getElem?_take_of_lt hj,Array.getElem?_toList,Array.getElem?_toList]
     unfold putCells
     rw [Array.getElem?_mapIdx,Array.getElem?_eq_getElem (show j<cur.size by rw [hsz];rw [hps'] at hj;omega),Option.map_some,if_pos ⟨Nat.zero_le _,by rw [size_flatK];omega⟩,Array.getElem?_eq_getElem (by rw [size_flatK];exact hj),Nat.sub_zero,getElem!_pos _ j (by rw [size_flatK];exact hj)]
     rfl
    ·rw [List.getElem?_eq_none (by simp;omega),List.getElem?_eq_none (by simp;omega)]
  ·refine ⟨rfl,rfl,rfl,Nat.le_add_right _ _,by unfold sortWorldK putRowK;simp [size_grow],fun i hi hf=>?_⟩
   have hne:b≠i:=fun e'=>hf ⟨_,ha,e'⟩
   unfold sortWorldK putRowK
   rw [heap_grow_old _ _ (by simpa using hi)]
   simp [putRow,mapBlock,Sort.ahead,Array.getElem?_modify,hne]
theorem jOC {α:Type} {sz:Nat}:∀(m:Nat) (l:List α),l.length=m*sz→∃qs:List (List α),qs.length=m∧(∀q∈qs,q.length=sz)∧qs.flatten=l
 | 0,l,h=>⟨[],rfl,by simp,by rw [Nat.zero_mul] at h;simp [List.length_eq_zero_iff.1 h]⟩
 | m+1,l,h=>by
  rw [Nat.succ_mul] at h;obtain ⟨qs,h1,h2,h3⟩:=jOC m (l.drop sz) (show (l.drop sz).length=m*sz by rw [List.length_drop];omega);refine ⟨l.take sz :: qs,by simp [h1],fun q hq=>?_,by simp [h3]⟩;rcases List.mem_cons.1 hq with rfl | hq
  ·rw [List.length_take];omega
  ·exact h2 q hq
theorem Rws.clearLo {P:Program} {t ty:TypeId} {sz bytes:Nat} {z:Value} (T:SlType P t e sz bytes) (hz:∀w,(zeroValue e).run P w=.ok z w) (hzs:z.cells.size=sz) (hz1:∀v∈z.cells.toList,qG v=true)
  {w:World} {s:Sl} {rs:List (List Value)} (h:Rws w e sz s rs) {k:IntKind} {n:Int} (h0:0≤n) (hn:n<rs.length) :
  ∃s':Sl,∃w':World,(∀w:World,(Instr.sliceAt t s.v (some (.int k n)) none none).run P w=.ok s'.v w)∧(Builtin.clear_ #[t] ty #[s'.v]).run P w=.ok (.tuple #[]) w'∧Ext s.blk w w'∧∃rs',Rws w' e sz s rs'∧rs'.length=rs.length∧rs'.take n.toNat=rs.take n.toNat:=by
 rcases h.own with ⟨rfl,rfl⟩ | ⟨g,cur,ha,hg,hc,hm,hs,ht⟩
 ·simp at hn;omega
 have B:Box w ⟨g,0,none⟩ cur.toList e:=⟨rfl,by simpa using hg⟩
 have hsl:s.len=rs.length:=h.len
 obtain ⟨m,hmm⟩:∃m,s.len - n.toNat=m+1:=⟨s.len - n.toNat - 1,by omega⟩
 have hzl:(Builtin.zeroCells z.cells (m+1)).toList.length=(m+1)*sz:=by simp [Builtin.zeroCells,hzs]
 have hzo:∀v∈(Builtin.zeroCells z.cells (m+1)).toList,qG v=true:=by
  intro v hv;simp only [Builtin.zeroCells,Array.toList_map,List.mem_map] at hv;obtain ⟨i,_,rfl⟩:=hv;have hp:0<z.cells.size:=by rw [hzs];exact T.pos
  rw [getElem!_pos z.cells _ (Nat.mod_lt _ hp)];exact hz1 _ (by simp)
 have hle:n.toNat*sz+(m+1)*sz=rs.length*sz:=by rw [← Nat.add_mul];congr 1;omega
 have hle2:rs.length*sz≤s.cap*sz:=Nat.mul_le_mul_right _ hc
 have hcl:cur.toList.length=s.cap*sz:=by simpa using hs
 generalize hzz:(Builtin.zeroCells z.cells (m+1)).toList=zs at *
 have hst:=xC (P:=P) ((⟨g,0,none⟩:Addr).add (n.toNat*sz)) zs 0 w hzo (fun j hj=>by rw [uW];exact B.canW (by rw [hcl];omega))
 have B2:=Box.storeAt zs 0 (n.toNat*sz) w _ B (by rw [hcl];omega)
 have hE:Ext (·=g) w (storeRowFrom w ((⟨g,0,none⟩:Addr).add (n.toNat*sz)) 0 zs):=by
  have:=Ext.storeRow w ((⟨g,0,none⟩:Addr).add (n.toNat*sz)) zs;rw [zX] at this;exact this
 obtain ⟨qs,q1,q2,q3⟩:=jOC (m+1) zs hzl
 have hcap:s.cap≠n.toNat:=by omega
 have hnl:n≤(s.len:Int):=by omega
 refine ⟨⟨some ((⟨g,0,none⟩:Addr).add (n.toNat*sz)),s.len - n.toNat,s.cap - n.toNat⟩,_,fun w=>?_,?_,hE.mono (fun b _ hb=>⟨_,ha,hb.symm⟩),rs.take n.toNat++qs,⟨?_,?_,.inr ⟨g,_,ha,B2.blk,?_,hm,?_,?_⟩⟩,?_,?_⟩
 ·simp [Instr.sliceAt,Instr.slice,Sl.v,run_underlying T.ht,Instr.sliceBounds,Instr.sliceBound,asIntOf,T.sizeOf,h0,hnl,hcap,ha]
 ·rw [hmm]
  simp [Builtin.clear_,Sl.v,run_underlying T.ht,hz,hzz,hst]
 ·intro q hq
  rcases List.mem_append.1 hq with hq | hq
  ·exact h.each q (List.mem_of_mem_take hq)
  ·exact q2 q hq
 ·rw [List.length_append,List.length_take,q1];omega
 ·rw [List.length_append,List.length_take,q1];omega
 ·simp only [List.size_toArray,List.length_append,List.length_take,List.length_drop,hcl,hzl];omega
 ·rw [List.length_append,List.length_take,q1,show min n.toNat rs.length+(m+1)=rs.length by omega,List.flatten_append,q3]
  have e1:rs=rs.take n.toNat++rs.drop n.toNat:=(List.take_append_drop _ _).symm
  have e2:((rs.take n.toNat).flatten).length=n.toNat*sz:=by rw [vY (fun r hr=>h.each r (List.mem_of_mem_take hr)),List.length_take,Nat.min_eq_left (by omega)]
  have e3:cur.toList.take (n.toNat*sz)=(rs.take n.toNat).flatten:=by
   calc cur.toList.take (n.toNat*sz)=(cur.toList.take (rs.length*sz)).take (n.toNat*sz):=by rw [List.take_take,Nat.min_eq_left (by omega)]
    _=((rs.take n.toNat).flatten++(rs.drop n.toNat).flatten).take (n.toNat*sz):=by rw [ht,← List.flatten_append,← e1]
    _=(rs.take n.toNat).flatten:=by rw [← e2,List.take_left]
  simp only [Nat.add_zero,e3]
  rw [List.take_append_of_le_length (by rw [List.length_append,e2,hzl];omega),List.take_of_length_le (by rw [List.length_append,e2,hzl];omega)]
 ·rw [List.length_append,List.length_take,q1];omega
 ·rw [List.take_append_of_le_length (by rw [List.length_take];omega),List.take_take,Nat.min_self]
theorem Rws.atLo {P:Program} {t:TypeId} {sz bytes:Nat} (T:SlType P t e sz bytes) {w:World} {s:Sl} {rs:List (List Value)} (h:Rws w e sz s rs) {k:IntKind} {n:Int} (h0:0≤n) (hn:n<rs.length) :
  ∃s':Sl,(∀w:World,(Instr.sliceAt t s.v (some (.int k n)) none none).run P w=.ok s'.v w)∧s'.len=rs.length - n.toNat∧∀(i:Nat) (a:Addr),n.toNat+i<rs.length→At s ((n.toNat+i:Nat):Int) sz a→At s' (i:Int) sz a:=by
 rcases h.own with ⟨rfl,rfl⟩ | ⟨g,cur,ha,hg,hc,hm,hs,ht⟩
 ·simp at hn;omega
 have hsl:s.len=rs.length:=h.len
 have hcap:s.cap≠n.toNat:=by omega
 have hnl:n≤(s.len:Int):=by omega
 refine ⟨⟨some ((⟨g,0,none⟩:Addr).add (n.toNat*sz)),s.len - n.toNat,s.cap - n.toNat⟩,fun w=>?_,by simp [hsl],fun i a hi hat=>?_⟩
 ·simp [Instr.sliceAt,Instr.slice,Sl.v,run_underlying T.ht,Instr.sliceBounds,Instr.sliceBound,asIntOf,T.sizeOf,h0,hnl,hcap,ha]
 ·obtain ⟨_,_,b,hb,rfl⟩:=hat
  rw [ha] at hb;cases hb
  refine ⟨by omega,by simp only [hsl];omega,_,rfl,?_⟩
  rw [uW,Int.toNat_natCast,Int.toNat_natCast,Nat.add_mul]
end Go.SE
end
section
open Go Go.SE
namespace Go.Sp
instance:Inhabited Fact:=⟨⟨0,0,0,⟨#[]⟩⟩⟩
def orF:List Int→Int
 | []=>0
 | a :: l=>if a≠0 then a else orF l
theorem jPD (a b:Fact):jGZ a b=orF [jBG a.c b.c,jBG a.kind b.kind,jBG a.who b.who,jHA a.text b.text]:=by
 unfold jGZ;simp only [orF];by_cases h1:jBG a.c b.c≠0
 ·rw [if_pos h1,if_pos h1]
 rw [if_neg h1,if_neg h1];by_cases h2:jBG a.kind b.kind≠0
 ·rw [if_pos h2,if_pos h2]
 rw [if_neg h2,if_neg h2];by_cases h3:jBG a.who b.who≠0
 ·rw [if_pos h3,if_pos h3]
 rw [if_neg h3,if_neg h3];by_cases h4:jHA a.text b.text=0 <;> simp [h4]
end Go.Sp
namespace Go.Proofs
attribute [local irreducible] Calls
theorem jNV (x y:Int):s_X1 x y=Sp.jBG x y:=by
 unfold s_X1 Sp.jBG;by_cases h:x<y
 ·simp [h]
 ·by_cases h2:y<x <;> simp [h,h2]
theorem s_cmpN (x y:Int):s_Y1 x y=Sp.jBG x y:=jNV x y
theorem jNQ (x y:ByteArray) (w0:World):Calls Tryz.prog 86 #[.string x,.string y] w0 (fun e w'=>∃r:Int,e=.returned (.int .i64 r)∧(r=Sp.jHA x y∧Pure w0 w')):=by
 refine w_N3 x y w0 (fun r w'=>r=Sp.jHA x y∧Pure w0 w') ?_;unfold m_N3;refine Br.f (by simp) (Br.f (by simp) fun w2 hs2=>?_);have E:=hs2.first;refine ⟨Op.bytesLess x.toList y.toList,by rw [binOp_string_lss];rfl,fun h=>⟨by unfold Sp.jHA;rw [if_pos h],E⟩,fun h=>?_⟩;refine ⟨!(Op.bytesLess x.toList y.toList || x.toList == y.toList),by simp [binOp,Op.stringOp],fun h2=>⟨?_,E⟩,fun h2=>⟨?_,E⟩⟩
 all_goals
  unfold Sp.jHA
  rw [if_neg (by rw [h];simp)]
  rw [h] at h2
 ·rw [if_neg];intro e;subst e;simp at h2
 ·rw [if_pos (Sp.toList_inj (by simpa using h2))]
theorem jPF {S:NP} (p:Addr) (ts:List Int) (hn:ts.length≤1000) (w0:World) (hL:Lst S w0 1 ⟨some p,ts.length,ts.length⟩ (tmr ts)):Calls Tryz.prog 83 #[(Sl.mk (some p) ts.length ts.length).v] w0 (fun e w'=>∃r:Int,e=.returned (.int .i64 r)∧(r=Sp.orF ts∧Pure w0 w')):=by
 suffices key:∀K:Int→WP,(∀w',Pure w0 w'→K (Sp.orF ts) w')→m_K1 ⟨some p,ts.length,ts.length⟩ w0 K from
  w_K1 _ w0 _ (key _ (fun _ h=>⟨rfl,h⟩))
 intro K hK;unfold m_K1;refine ⟨fun i w'=>∃j:Nat,i=j∧j≤ts.length∧w'=w0∧Sp.orF ts=Sp.orF (ts.drop j),fun i _=>((ts.length:Int) - i).toNat,⟨0,rfl,Nat.zero_le _,rfl,rfl⟩,?_⟩;rintro _ wl ⟨j,rfl,hj,rfl,ho⟩;unfold m_K1_l1;refine ⟨fun h=>?_,fun h=>?_⟩
 ·have hlt:=vS (n:=ts.length) rfl h;obtain ⟨a,hat,_,hc⟩:=jAC hL hlt;rw [List.drop_eq_getElem_cons hlt,Sp.orF] at ho;refine ⟨a,hat,_,hc,fun h2=>?_,fun h2=>?_⟩
  ·rw [if_pos (by simpa using h2)] at ho;rw [ho] at hK;exact hK _ (Ext.refl _)
  ·rw [if_neg (by simpa using h2)] at ho;rw [zZ hlt (by omega)];exact ⟨⟨j+1,rfl,hlt,rfl,ho⟩,qX hlt⟩
 ·have hge:=vT (n:=ts.length) rfl hj h;rw [hge,List.drop_length,Sp.orF] at ho;rw [ho] at hK;exact hK _ (Ext.refl _)
theorem jGW (a b:Sp.Fact) (w0:World):Calls Tryz.prog 28 #[.agg (tB a).toArray,.agg (tB b).toArray] w0 (fun e w'=>∃r:Int,e=.returned (.int .i64 r)∧(r=Sp.jGZ a b∧Pure w0 w')):=by
 refine w_L3 a.kind a.who a.c a.text b.kind b.who b.c b.text w0 (fun r w'=>r=Sp.jGZ a b∧Pure w0 w') ?_;unfold m_L3;intro H2 w2 hs2;have E2:=hs2.first;refine ⟨Pure w0,E2.trans (Ext.drew _),?_⟩;rintro _ rfl;have E3:=E2.trans (Ext.drew (F:=None) w2);refine (p_X1 a.c b.c _).mono ?_;rintro _ w4 ⟨rfl,E4⟩;refine ⟨_,rfl,E3.trans E4,E4.keptP,(p_Y1 a.kind b.kind _).mono ?_⟩;rintro _ w5 ⟨rfl,E5⟩;refine ⟨_,rfl,(E3.trans E4).trans E5,E5.keptP,(p_Y1 a.who b.who _).mono ?_⟩;rintro _ w6 ⟨rfl,E6⟩;refine ⟨_,rfl,((E3.trans E4).trans E5).trans E6,E6.keptP,(jNQ a.text b.text _).mono ?_⟩;rintro _ w7 ⟨_,rfl,rfl,E7⟩;have E07:=(((E3.trans E4).trans E5).trans E6).trans E7;refine ⟨_,rfl,E07,E7.keptP,fun p3 w8 h8=>⟨E07.trans (Ext.new h8),?_⟩⟩;have E08:=E07.trans (Ext.new (F:=None) h8);have R:=Rws.lit (sz:=1) (rs:=tmr [Sp.jBG a.c b.c,Sp.jBG a.kind b.kind,Sp.jBG a.who b.who,Sp.jHA a.text b.text]) h8 (by simp [tmr,jNV,s_cmpN]) (by simp [tmr]) (by simp [tmr,maxLen]);refine (jPF p3 [Sp.jBG a.c b.c,Sp.jBG a.kind b.kind,Sp.jBG a.who b.who,Sp.jHA a.text b.text] (by simp) w8 R.lst).mono ?_;rintro _ w9 ⟨_,rfl,rfl,E9⟩;exact ⟨_,rfl,E08.trans E9,E9.keptP,(Sp.jPD a b).symm,E08.trans E9⟩
theorem jKA (s:Sl) (fs:List Sp.Fact) (w0:World) (hr:Rws w0 75 4 s (fs.map tB)) (hn:fs.length≤1000000) :
  Calls Tryz.prog 81 #[s.v,.func (.func 28) #[] #[]] w0 (fun e w'=>e=.returned (.tuple #[])∧∃fs':List Sp.Fact,fs'.Perm fs∧fs'.Pairwise (fun a b=>¬ Sp.jGZ b a<0)∧Rws w' 75 4 s (fs'.map tB)∧Ext s.blk w0 w'):=by
 have h:=jFK Tryz.sortF Tryz.isAgg75 Tryz.sizeOf75 (enc:=tB) (fun _=>rfl) (fun x v hv=>by simp [tB] at hv;rcases hv with rfl | rfl | rfl | rfl <;> rfl) Sp.jGZ Sp.swoF 28
  (enters_of Tryz.func28 (by kernel_rfl) rfl) (fun x y W=>(jGW x y W).mono (by rintro _ w' ⟨_,rfl,rfl,E⟩;exact ⟨rfl,E⟩)) hr (by omega)
 exact h
end Go.Proofs
end
section
open Go Go.SE
namespace Go.Proofs
attribute [local irreducible] Calls
theorem tX (g h:Sp.Fact):((g.kind == h.kind) && ((g.who == h.who) && ((g.c == h.c) && decide (g.text=h.text))))=decide (g=h):=by
 obtain ⟨a,b,c,d⟩:=g;obtain ⟨a',b',c',d'⟩:=h;rw [Bool.eq_iff_iff];simp [Sp.Fact.mk.injEq]
theorem jMG (s:Sl) (fs:List Sp.Fact) (w0:World) (hr:Rws w0 75 4 s (fs.map tB)) (hn:fs.length≤1000000) :
  Calls Tryz.prog 82 #[s.v] w0 (fun e w'=>∃r:Sl,e=.returned r.v∧(Rws w' 75 4 r ((Sp.jAK fs).map tB)∧Ext s.blk w0 w'∧∀b,r.blk b→s.blk b)):=by
 suffices key:∀K:Sl→WP,(∀r w',Rws w' 75 4 r ((Sp.jAK fs).map tB)→Ext s.blk w0 w'→(∀b,r.blk b→s.blk b)→K r w')→m_V s w0 K from
  w_V _ w0 _ (key _ (fun _ _ h1 h2 h3=>⟨h1,h2,h3⟩))
 intro K hK
 unfold m_V
 have hl:s.len=fs.length:=by rw [hr.len];simp
 have hsb:∀b,s.blk b→b<w0.heap.size:=fun b hb=>hr.lt hb
 refine ⟨fun h=>?_,fun h=>?_⟩
 ·have h:=of_decide_eq_true h
  refine hK s w0 ?_ (Ext.refl _) (fun _ h=>h)
  have:Sp.jAK fs=fs:=by
   match fs,hl,h with
   | [],_,_=>rfl
   | [a],_,_=>rfl
   | a :: b :: l,hl,h=>simp [hl] at h;omega
  rw [this];exact hr
 have h2:2≤fs.length:=by have h:=of_decide_eq_false h;omega
 obtain ⟨f0,fr,rfl⟩:∃f0 fr,fs=f0 :: fr:=by
  cases fs with
  | nil=>simp at h2
  | cons a l=>exact ⟨a,l,rfl⟩
 generalize hfs:f0 :: fr=fs at *
 have hc0:Sp.jAK fs=fs.take 1++Sp.xQ fs[0] (fs.drop 1):=by subst hfs;rfl
 refine ⟨fun k H w'=>∃j:Nat,k=j∧1≤j∧∃hj:j≤fs.length,Pure w0 w'∧Own H w' 75 4 s (fs.map tB)∧Sp.jAK fs=fs.take j++Sp.xQ (fs[j-1]'(by omega)) (fs.drop j),fun k _=>((fs.length:Int) - k).toNat,⟨1,rfl,Nat.le_refl _,by omega,Ext.refl _,⟨hr,fun _ _ h=>h⟩,hc0⟩,?_⟩
 rintro _ Hl wl hl1 ⟨j,rfl,hj1,hj,El,Ol,hc⟩
 unfold m_V_l1
 refine ⟨fun hb=>?_,fun hb=>?_⟩
 ·have hlt:=vS hl hb
  obtain ⟨a1,hat1,_⟩:=Ol.nth hlt
  refine ⟨a1,hat1,fun w1 hs1=>?_⟩
  have O1:=Ol.hst hs1
  have E1:=El.hst hs1
  obtain ⟨a1',hat1',hrow1⟩:=O1.nth hlt
  obtain ⟨a2,hat2,hrow2⟩:=O1.nth (show j - 1<fs.length by omega)
  have hw:IntKind.i64.wrap ((j:Int) - 1)=((j - 1:Nat):Int):=by rw [i64 (by omega) (by omega)];omega
  have ha:a1=a1':=by
   obtain ⟨_,_,b,hb,rfl⟩:=hat1;obtain ⟨_,_,b',hb',rfl⟩:=hat1';rw [hb] at hb';cases hb';rfl
  rw [← ha] at hrow1
  rw [hw]
  refine ⟨_,_,_,_,hrow1,a2,hat2,_,_,_,_,hrow2,fun hd=>?_,fun hd=>?_⟩
  ·rw [tX] at hd
   have hd:=of_decide_eq_true hd
   obtain ⟨s2,hrun2,hlen2,hat⟩:=O1.rows.atLo tU (k:=.i64) (n:=(j:Int)) (by omega) (by simp;omega)
   have hlen2:s2.len=fs.length - j:=by simpa using hlen2
   refine ⟨s2,hrun2 w1,fun k2 k21 H w'=>∃a i:Nat,k2=a∧k21=i∧1≤i∧1≤a∧a<j+i∧∃hi:j+i≤fs.length,∃ls:List Sp.Fact,ls.length=fs.length∧ls.drop (j+i - 1)=fs.drop (j+i - 1)∧Ext s.blk w0 w'∧Own H w' 75 4 s (ls.map tB)∧Sp.jAK fs=ls.take a++Sp.xQ (fs[j+i - 1]'(by omega)) (fs.drop (j+i)),fun _ k21 _=>((fs.length:Int) - k21).toNat,?_,?_⟩
   ·refine ⟨j,1,rfl,rfl,Nat.le_refl _,hj1,by omega,hlt,fs,rfl,rfl,Ext.pure E1,O1,?_⟩
    rw [hc,List.drop_eq_getElem_cons hlt,Sp.xQ,if_pos hd.symm]
    rfl
   rintro _ _ H2 w2 hs2 ⟨a,i,rfl,rfl,hi1,ha1,hai,hi,ls,hll,hdr,E2,O2,hcc⟩
   unfold m_V_l2
   have hget:∀q,(h:q<fs.length)→j+i - 1≤q→ls[q]'(by omega)=fs[q]:=by
    intro q h hq;have e:=congrArg (fun l=>l[q - (j+i - 1)]?) hdr;simp only [List.getElem?_drop] at e;rw [show j+i - 1+(q - (j+i - 1))=q by omega,List.getElem?_eq_getElem (by omega),List.getElem?_eq_getElem h] at e;exact Option.some.inj e
   refine ⟨fun hb2=>?_,fun hb2=>?_⟩
   ·have hlt2:j+i<fs.length:=by have:=of_decide_eq_true hb2;omega
    obtain ⟨a3,hat3,_⟩:=O2.nth (show j+i<ls.length by omega)
    have up:∀(q:Nat) (x:Addr),j+q<fs.length→At s ((j+q:Nat):Int) 4 x→At s2 (q:Int) 4 x:=fun q x hq hx=>hat q x (by simpa using hq) (by simpa using hx)
    refine ⟨a3,up i a3 hlt2 hat3,fun w3 hs3=>?_⟩
    have O3:=O2.hst hs3
    have E3:=E2.hst hs3
    obtain ⟨a3',hat3',hrow3⟩:=O3.nth (show j+i<ls.length by omega)
    have ha3:a3=a3':=by
     obtain ⟨_,_,b,hb,rfl⟩:=hat3;obtain ⟨_,_,b',hb',rfl⟩:=hat3';rw [hb] at hb';cases hb';rfl
    rw [← ha3] at hrow3
    obtain ⟨a4,hat4,hrow4⟩:=O3.nth (show j+(i - 1)<ls.length by omega)
    have hw2:IntKind.i64.wrap ((i:Int) - 1)=((i - 1:Nat):Int):=by rw [i64 (by omega) (by omega)];omega
    rw [hw2]
    rw [hget (j+i) hlt2 (by omega)] at hrow3
    have e4:ls[j+(i - 1)]'(by omega)=fs[j+i - 1]'(by omega):=by
     rw [hget (j+(i - 1)) (by omega) (by omega)];congr 1;omega
    rw [e4] at hrow4
    rw [List.drop_eq_getElem_cons hlt2,Sp.xQ] at hcc
    refine ⟨_,_,_,_,hrow3,a4,up (i - 1) a4 (by omega) hat4,_,_,_,_,hrow4,fun hd2=>?_,fun hd2=>?_⟩
    ·rw [tX] at hd2
     have hd2:¬ fs[j+i]=fs[j+i - 1]'(by omega):=by simpa using hd2
     rw [if_neg (fun e=>hd2 e.symm)] at hcc
     obtain ⟨a6,hat6,hcw,hset⟩:=O3.rows.set (i:=a) (r:=tB fs[j+i]) (by simp;omega) rfl rfl
     refine ⟨a3,up i a3 hlt2 hat3,_,_,_,_,hrow3,a6,hat6,hcw,?_,fun w4 hw4=>?_⟩
     ·obtain ⟨_,_,b,hb,rfl⟩:=hat6
      exact O3.vis _ ⟨b,hb,by rw [zX]⟩
     obtain ⟨hR,hE⟩:=hset w4 hw4
     rw [zZ (show a<fs.length by omega) (by omega),zZ (show i<fs.length by omega) (by omega)]
     refine ⟨⟨a+1,i+1,rfl,rfl,by omega,by omega,by omega,by omega,ls.set a fs[j+i],by simpa using hll,?_,E3.trans hE,⟨by rw [List.map_set];exact hR,O3.vis⟩,?_⟩,qX (show i<fs.length by omega)⟩
     ·rw [List.drop_set_of_lt (by omega)]
      have e:=congrArg (List.drop 1) hdr
      rw [List.drop_drop,List.drop_drop] at e
      rw [show j+(i+1) - 1=j+i - 1+1 by omega];exact e
     ·rw [hcc,List.take_succ_eq_append_getElem (by rw [List.length_set];omega),List.take_set_of_le (Nat.le_refl _),List.getElem_set_self,List.append_assoc]
      rfl
    ·rw [tX] at hd2
     have hd2:fs[j+i]=fs[j+i - 1]'(by omega):=by simpa using hd2
     rw [if_pos hd2.symm] at hcc
     rw [zZ (show i<fs.length by omega) (by omega)]
     refine ⟨⟨a,i+1,rfl,rfl,by omega,by omega,by omega,by omega,ls,hll,?_,E3,O3,?_⟩,qX (show i<fs.length by omega)⟩
     ·have e:=congrArg (List.drop 1) hdr
      rw [List.drop_drop,List.drop_drop] at e
      rw [show j+(i+1) - 1=j+i - 1+1 by omega];exact e
     ·rw [hcc];rfl
   ·have hge:j+i=fs.length:=by have:=of_decide_eq_false hb2;omega
    rw [List.drop_eq_nil_of_le (by omega),Sp.xQ,List.append_nil] at hcc
    obtain ⟨s3,w4,hrun3,hclr,hE4,rs',hR',hl',htk⟩:=O2.rows.clearLo (P:=Tryz.prog) (t:=71) (ty:=0) tU (z:=.agg #[.int .i64 0,.int .i64 0,.int .u64 0,.string ⟨#[]⟩]) (fun w=>Tryz.zeroValue75 w) rfl (by intro v hv;simp [Value.cells] at hv;rcases hv with rfl | rfl | rfl | rfl <;> rfl) (k:=.i64) (n:=(a:Int)) (by omega) (by simp;omega)
    obtain ⟨s4,hrun4,hR4,hb4⟩:=hR'.hiA (P:=Tryz.prog) tU (k:=.i64) (n:=(a:Int)) (by omega) (by rw [hl'];simp;omega)
    refine ⟨s3,hrun3 w2,w4,hclr,hE4.kept (fun b hb hs=>O2.vis b hs hb),s4,hrun4 w4,hK s4 w4 ?_ (E2.trans hE4) (fun b hb=>(hb4 b).1 hb)⟩
    rw [htk] at hR4
    rw [hcc,List.map_take];simpa using hR4
  ·rw [tX] at hd
   have hd:¬ fs[j]=fs[j - 1]'(by omega):=by simpa using hd
   rw [List.drop_eq_getElem_cons hlt,Sp.xQ,if_neg (fun e=>hd e.symm)] at hc
   rw [zZ hlt (by omega)]
   refine ⟨⟨j+1,rfl,by omega,hlt,E1,O1,?_⟩,qX hlt⟩
   rw [hc,List.take_succ_eq_append_getElem hlt,List.append_assoc]
   rfl
 ·have hge:=vT hl hj hb
  subst hge
  rw [List.drop_length,Sp.xQ,List.append_nil,List.take_length] at hc
  exact hK s wl (by rw [hc];exact Ol.rows) (Ext.pure El) (fun _ h=>h)
end Go.Proofs
end
section
open Go Go.SE
open Go.IntKind renaming i64 → q6
namespace Go.Proofs
set_option maxRecDepth 100000
set_option maxHeartbeats 4000000
attribute [local irreducible] wpL wpX opE wpE Calls
def m_T1_l1 (yield1:Value) (v1:Sl) (x1:Int) (wl1:World) (Kc1:Int→WP) (K:WP):Prop :=Br (decide (x1<(v1.len:Int))) (∃a1:Addr,At v1 x1 1 a1∧∃v2,wl1.cell? a1=some (vi v2)∧∃(ly1:Nat),yield1=.func (.yield ly1) #[] #[]∧Yld Tryz.prog ly1 #[(vi v2)] wl1 (fun e w1=>∃b1,e=.returned (vb b1)∧Br (!b1) (K w1) (Kc1 (q6.wrap (x1+1)) w1))) (K wl1)
def m_T1 (yield1:Value) (cap1:Addr) (w0:World) (K:WP):Prop :=∃v1:Sl,w0.cell? cap1=some v1.v∧∃(I1:Int→WP) (mu1:Int→World→Nat),I1 0 w0∧∀(x1:Int) (wl1:World),I1 x1 wl1→m_T1_l1 yield1 v1 x1 wl1 (fun y'0 w'=>I1 y'0 w'∧mu1 y'0 w'<mu1 x1 wl1) K
theorem w_T1 (yield1 cap1 w0 K) (h:m_T1 yield1 cap1 w0 K):
  Calls Tryz.prog 208 #[yield1,(vp (some cap1))] w0 (fun e w'=>e=.returned (.tuple #[])∧K  w'):=by
 refine cw (args:=[yield1,(vp (some cap1))]) Tryz.func208 Tryz.ntmps208 (eg ?_)
 refine ql (Tryz.isAgg46 _) h fun v1 h=>qb (ln (zJ ?_))
 obtain ⟨I1,mu1,h0,hr⟩:=h
 refine vH (σ:=Int×World) (fun s ρ w=>w=s.2∧Has ρ [(0,yield1),(5,v1.v),(6,(vi (v1.len:Int))),(7,(vi s.1))]∧I1 s.1 s.2) (fun s=>mu1 s.1 s.2) (0,w0) ⟨rfl,hm,h0⟩ ?_
 rintro ⟨x1,wl1⟩ ρ w ⟨hw,hH,hI⟩
 dsimp only at hw hH;subst w
 have h:=hr x1 wl1 hI
 refine zU hH (eg (q (ln (zA (cbr h ?_ ?_)))))<;>intro h
 refine zB (zO (zA (zJ (eg (qi (Tryz.runUnderlying46 _) (Tryz.sizeOf78 _) h fun a1 h=>ql (Tryz.isAgg78 _) h fun v2 h=>q (ln (eg (qb ?_))))))))
 obtain ⟨ly1,hy1,h⟩:=h
 refine jMR (zD rfl) (by kernel_rfl) hy1 (by kernel_rfl) (h.mono ?_)
 rintro e w1 ⟨b1,rfl,h⟩
 refine ⟨_,rfl,?_⟩
 refine q (ln (cbr h ?_ ?_))<;>intro h
 refine er (qN (zY (zY (qN (jNZ (.inl rfl) Tryz.results208 ⟨rfl,h⟩)))))
 refine zB (yQ (zO (rg (qb (ln ⟨((q6.wrap (x1+1)),w1),⟨rfl,hm,h.1⟩,h.2⟩)))))
 refine vF (yM (yM (yK (jNZ (.inr rfl) Tryz.results208 ⟨rfl,h⟩))))
def m_R3 (s1:Sl) (seq1:Value) (w0:World) (K:Sl→WP):Prop :=∀p1 w1,New w0 (.cells #[s1.v] 46) p1 w1→∃(f1:FuncId) (cs1:Array Value),seq1=.func (.func f1) #[] cs1∧(∀args w,(callFunc f1 args).run Tryz.prog w=.ok (.enter f1 args) w)∧∃(xs1:List (Int)) (Rd1:WP),jIE Tryz.prog f1 cs1 (fun (z2:Int)=>#[(vi z2)]) xs1 Rd1 w1∧∃(I1:List (Int)→NP→WP),RngI w0 Rd1 I1 (fun _ _ _=>False) (fun _ _ _=>False)∧I1 [] None w1∧(∀(pre1:List (Int)) (z2:Int) (Y1:NP) (A1:World),I1 pre1 Y1 A1→Hst w0 Y1 A1 Y1 A1→(∃post,xs1=pre1++z2 :: post)→∃v1:Sl,A1.cell? p1=some v1.v∧∀p2 w3,New A1 (.cells #[(vi z2)] 78) p2 w3→∃s2:Sl,∃w4:World,(Builtin.append_ #[46,46] 46 #[v1.v,(Sl.mk (some p2) 1 1).v]).run Tryz.prog w3=.ok s2.v w4∧Kept None w3 w4∧vG w4 p1∧¬ None p1.block∧∀w5,w5=w4.setCell p1 s2.v→Kept Y1 A1 w5∧I1 (pre1++[z2]) Y1 w5)∧∀H1 w6,Hst w0 H1 w6 H1 w6→(∀b,None b→H1 b)→Kept None w1 w6→I1 xs1 H1 w6→∃v2:Sl,w6.cell? p1=some v2.v∧∀w7,Hst w0 H1 w6 H1 w7→K v2 w7
theorem w_R3 (s1 seq1 w0 K) (h:m_R3 s1 seq1 w0 K):
  Calls Tryz.prog 283 #[s1.v,seq1] w0 (fun e w'=>∃r1:Sl,e=.returned r1.v∧K r1 w'):=by
 refine cw (args:=[s1.v,seq1]) Tryz.func283 Tryz.ntmps283 ?_
 obtain ⟨hs,hb⟩:=st0 w0
 refine eg (nw2 hs hb h xb fun p1 w1 hs hb h=>q (ln (jMO (rg (q0 seq1 (ln ?_))))))
 obtain ⟨f1,cs1,hv1,hf1,h⟩:=h
 obtain ⟨xs1,Rd1,hit,I1,hRI,h0,hbody,h⟩:=h
 refine jKL (encs:=(fun (z2:Int)=>#[(vi z2)])) (Eq.trans (b:=seq1) (by kernel_rfl) hv1) hf1 hit (fun _=>rfl) (by decide) hs I1 (fun _ _ _=>False) (fun _ _ _=>False) hRI h0 ?ha ?hr ?ht
 case ha =>
  intro l z2 w8
  refine rg (q (ln ⟨rfl,?_⟩))
  intro pre1 Y1 A1 hi hY hpost
  have h:=hbody pre1 z2 Y1 A1 hi hY hpost
  obtain ⟨hs,hb⟩:=st0 A1
  refine zJ (rg (ql (Tryz.isAgg46 _) h fun v1 h=>q (tH (O:=(.cells #[(vi z2)] 78)) (fun p=>(Sl.mk (some p) 1 1).v) (zD rfl) (vR (vs:=#[(0,(vi z2))]) (by kernel_rfl) (by kernel_rfl)) ?_)))
  intro p2 w3 hn2
  have h:=h p2 w3 hn2
  obtain ⟨hs,hb⟩:=hs.nw hb hn2
  obtain ⟨s2,w4,hv2,hk,h⟩:=h
  refine st (v:=s2.v) (zD rfl) (vP (args:=#[v1.v,(Sl.mk (some p2) 1 1).v]) (by kernel_rfl) (fun _=>rfl) hv2) ?_
  obtain ⟨hs,hb⟩:=hk.hh hs hb
  obtain ⟨hp1,hnh,h⟩:=h
  refine zK (zD rfl) (vL (a:=p1) (v:=s2.v) (by kernel_rfl) (by kernel_rfl) rfl (Tryz.sizeOf46 _) hp1) ?_
  intro w5 hn1
  have h:=h w5 hn1
  have hk:=Kept.sc hnh hn1
  obtain ⟨hs,hb⟩:=hk.hh hs hb
  refine zC (yQ ?_)
  exact rd_n h
 case hr =>
  intro D1 H1 w6 hs' hD hDe aA hk1 hio1
  have hb':=hb.behind hk1 aA hD hDe
  have hs:=hs'
  have hb:=hb'
  have h:=h H1 w6 hs aA hk1 (hio1.elim id (fun h=>h.elim (fun _ h=>h.elim)))
  refine eg (ql (Tryz.isAgg46 _) h fun v2 h=>q (ln (er (af_r hb.dead ?_))))
  intro w7 hw'
  have hl:=hb.leave hs hw'
  obtain ⟨hs,hb⟩:=hl
  -- behind the loop
  have ⟨h,hs⟩:=hs.hr (h w7)
  refine rs1 Tryz.results283 ⟨v2,rfl,h⟩
 case ht =>
  intro _ _ _ _ _ _ _ h
  exact h.elim
end Go.Proofs
end
section
open Go Go.SE Go.Sort
namespace Go.Proofs
abbrev SP (w0:World) (s:Sl) (Q:List Int→Prop) (w':World):Prop:=∃l,Rws w' 78 1 s (tmr l)∧Ext s.blk w0 w'∧Q l
theorem jIK (l:List Int):(tmr l).flatten=l.map (Value.int .i64):=by
 induction l with
 | nil=>rfl
 | cons a l ih=>simp only [tmr,List.map_cons,List.flatten_cons] at *;rw [ih];rfl
theorem c_Sort (s:Sl) (l:List Int) (w0:World) (h:Rws w0 78 1 s (tmr l)) (hn:l.length≤1000000) :
  Calls Tryz.prog 207 #[s.v] w0 (fun e w'=>e=.returned (.tuple #[])∧SP w0 s (fun l'=>l'.Perm l∧l'.Pairwise (·≤·)) w'):=by
 have hl:s.len=l.length:=by rw [h.len];simp [tmr]
 rcases h.own with ⟨rfl,hnil⟩ | ⟨b,cur,ha,hg,hc,hm,hs,ht⟩
 ·have hd:l=[]:=by simpa [tmr] using hnil
  subst hd
  refine (show Calls Tryz.prog 207 #[Sl.nil.v] w0 _ from AnyG.slices_Sort_int_none Tryz.sortT none 0 w0).mono ?_
  rintro _ w' ⟨rfl,rfl⟩
  exact ⟨rfl,[],h,Ext.refl _,.refl _,.nil⟩
 have hlen:(tmr l).length=l.length:=by simp [tmr]
 rw [jIK,hlen,Nat.mul_one] at ht
 rw [hlen] at hc
 rw [Nat.mul_one] at hs
 have hb:b<w0.heap.size:=uI hg
 have hget:∀j,j<l.length→∃hj:j<l.length,cur[j]?=some (.int .i64 l[j]):=fun j hj=>⟨hj,by
  have:cur.toList[j]?=(cur.toList.take l.length)[j]?:=by rw [List.getElem?_take_of_lt hj]
  rw [← Array.getElem?_toList,this,ht,List.getElem?_map,List.getElem?_eq_getElem hj];rfl⟩
 have hH:Holds (Value.int .i64) w0 b 0 l.toArray:=by
  intro j hj;have hj:j<l.length:=by simpa using hj
  obtain ⟨_,e⟩:=hget j hj;refine ⟨?_,?_⟩
  ·unfold World.cell?;rw [hg];simp only [Option.isSome_none,Bool.false_eq_true,if_false,Nat.zero_add];rw [e,getElem!_pos l.toArray j (by simpa using hj)];simp
  ·unfold World.frozen?;rw [hg];simp
 have hv:s.v=.slice (some ⟨b,0,none⟩) l.length s.cap:=by unfold Sl.v;rw [ha,hl]
 rw [hv]
 refine (show Calls Tryz.prog 207 #[.slice (some ⟨b,0,none⟩) l.length s.cap] w0 _ from AnyG.slices_Sort_int Tryz.sortT b 0 s.cap l w0 hH hb (by omega)).mono ?_
 rintro _ w' ⟨rfl,n,os,rfl⟩
 have hp:(l.mergeSort fun x y=>decide (x≤y)).Perm l:=List.mergeSort_perm l _
 have hsd:(l.mergeSort fun x y=>decide (x≤y)).Pairwise (·≤·):=by
  have:=List.pairwise_mergeSort (le:=fun x y:Int=>decide (x≤y)) (fun a b c h1 h2=>by simp at *;omega) (fun a b=>by simp;omega) l;simpa using this
 have hq:(l.mergeSort fun x y=>decide (x≤y)).length=l.length:=hp.length_eq
 generalize (l.mergeSort fun x y=>decide (x≤y))=q at *
 refine ⟨rfl,q,⟨?_,?_,.inr ⟨b,putCells (Value.int .i64) 0 q.toArray cur,ha,?_,by simp [tmr];omega,hm,by simp [putCells,hs],?_⟩⟩,?_,hp,hsd⟩
 ·intro r hr;simp [tmr] at hr;obtain ⟨t,_,rfl⟩:=hr;rfl
 ·rw [hl];simp [tmr,hq]
 ·rw [heap_grow_old _ _ (by simpa using hb)]
  simp [putRow,mapBlock,Sort.ahead,Array.getElem?_modify,hg,onCells]
 ·rw [jIK]
  apply List.ext_getElem?
  intro j
  have e1:(tmr q).length*1=q.length:=by simp [tmr]
  rw [e1]
  by_cases hj:j<q.length
  ·rw [List.getElem?_take_of_lt hj,Array.getElem?_toList]
   unfold putCells
   rw [Array.getElem?_mapIdx,Array.getElem?_eq_getElem (show j<cur.size by omega),Option.map_some,if_pos ⟨Nat.zero_le _,by simp;omega⟩,Nat.sub_zero,getElem!_pos _ j (by simpa using hj),List.getElem?_map,List.getElem?_eq_getElem hj]
   simp
  ·rw [List.getElem?_eq_none (by simp;omega),List.getElem?_eq_none (by simp;omega)]
 ·refine ⟨rfl,rfl,rfl,Nat.le_add_right _ _,by simp [size_grow],fun i hi hf=>?_⟩
  have hne:b≠i:=fun e'=>hf ⟨_,ha,e'⟩
  rw [heap_grow_old _ _ (by simpa using hi)]
  simp [putRow,mapBlock,Sort.ahead,Array.getElem?_modify,hne]
end Go.Proofs
end
section
open Go Go.SE
open Go.IntKind renaming i64 → q6
namespace Go.Proofs
set_option maxRecDepth 100000
set_option maxHeartbeats 4000000
attribute [local irreducible] wpL wpX opE wpE Calls
def m_S3 (p1:Option Addr) (w0:World) (K:(Option Addr)→WP):Prop :=Br (Option.isNone p1) (K none w0) (∀p2 w1,New w0 (.map #[] 0) p2 w1→∀p3 w2,New w1 (.cells #[(vp p1),Sl.nil.v,(.map (some p2.block)),Sl.nil.v] 212) p3 w2→K (some p3) w2)
theorem w_S3 (p1 w0 K) (h:m_S3 p1 w0 K):
  Calls Tryz.prog 62 #[(vp p1)] w0 (fun e w'=>∃r1,e=.returned (vp r1)∧K r1 w'):=by
 refine cw (args:=[(vp p1)]) Tryz.func62 Tryz.ntmps62 (eg (q0 (vp none) (ln (zA (eg (q0 (vp p1) (q2 (vb (Option.isNone p1)) (xV (by kernel_rfl) rfl Tryz.underlying68) (zC ?_))))))))
 refine zO (cbr h ?_ ?_)<;>intro h
 refine eg (q (ln (er (zY (rs1 Tryz.results62 ⟨none,rfl,h⟩)))))
 refine zB (zO (eg (q (nw4 (fun p=>.map (some p.block)) h fun p2 w1 h=>q (nw1 h xb fun p3 w2 h=>q (ln (er (rs1 Tryz.results62 ⟨(some p3),rfl,h⟩))))))))
def m_Q_j2 (p1:Addr) (at1:Int) (p5 a9:Addr) (w0:World) (H:NP) (w:World) (Kc1:Int→NP→WP) (_K:WP):Prop :=∃v15,w.cell? a9=some (vi v15)∧Br (v15 == 4) (∃v16,w.cell? (a9.add 5)=some (vi v16)∧Calls Tryz.prog 205 #[(vi v16),(vi 1),(vp (some p1)),(vp (some p5))] w (fun e w13=>e=.returned (.tuple #[])∧Kept H w w13∧∃v17,w13.cell? (a9.add 6)=some (vi v17)∧Calls Tryz.prog 205 #[(vi v17),(vi 2),(vp (some p1)),(vp (some p5))] w13 (fun e w14=>e=.returned (.tuple #[])∧Kept H w13 w14∧Kc1 (q6.wrap (at1+1)) H w14))) (∀y1:Bool,y1=(cond (v15 == 7) (v15 == 7) (cond (v15 == 8) (v15 == 8) (v15 == 9)))→Br y1 (∀H3 w15,Hst w0 H w H3 w15→∃v18,w15.cell? (a9.add 5)=some (vi v18)∧Calls Tryz.prog 205 #[(vi v18),(vi 3),(vp (some p1)),(vp (some p5))] w15 (fun e w16=>e=.returned (.tuple #[])∧Kept H3 w15 w16∧Kc1 (q6.wrap (at1+1)) H3 w16)) (∀H3 w15,Hst w0 H w H3 w15→Kc1 (q6.wrap (at1+1)) H3 w15))
def m_Q_l1 (p1:Addr) (at1:Int) (w0:World) (Hl1:NP) (wl1:World) (Kc1:Int→NP→WP) (K:WP):Prop :=∃v10,wl1.cell? p1=some (vp v10)∧∃a6,v10=some a6∧∃v11:Sl,wl1.cell? (a6.add 3)=some v11.v∧Br (decide (at1<(v11.len:Int))) (∃v12,wl1.cell? p1=some (vp v12)∧∃a7,v12=some a7∧∃v13:Sl,wl1.cell? (a7.add 3)=some v13.v∧∃a8:Addr,At v13 at1 1 a8∧∃v14,wl1.cell? a8=some (vi v14)∧∀p5 w11,New wl1 (.cells #[(vi 0)] 78) p5 w11→vG w11 p5∧¬ Hl1 p5.block∧∀w12,w12=w11.setCell p5 (vi v14)→∃C3:WP,C3 w12.drew∧∀w17,w17=w12.drew→∃v19,(∀w',C3 w'→w'.cell? p1=some (vp v19))∧∃a10,v19=some a10∧∃v20,(∀w',C3 w'→w'.cell? a10=some (vp v20))∧∃v21,(∀w',C3 w'→w'.cell? p5=some (vi v21))∧(Calls Tryz.prog 102 #[(vp v20),(vi v21)] w17 (fun e w18=>∃aA aC aD aF aG aB aE r1,e=.returned (.tuple #[(Ae aA aC aD aF aG aB aE),(vb r1)])∧C3 w18∧Kept Hl1 w17 w18∧∀p6 w19,New w18 (.cells #[(vi 0),(vi 0),(vi 0),(vu 0),(vs ⟨#[]⟩),(vi 0),(vi 0)] 176) p6 w19→C3 w19∧(∀j,j<7→vG w19 (p6.add j))∧¬ Hl1 p6.block∧∀w20,w20=storeRow w19 p6 (Ad aA aC aD aF aG aB aE)→C3 w20∧m_Q_j2 p1 at1 p5 p6 w0 Hl1 w20 Kc1 K))∧(∀p7 w21,New w17 (.cells #[(vi 0),(vi 0),(vi 0),(vu 0),(vs ⟨#[]⟩),(vi 0),(vi 0)] 176) p7 w21→C3 w21∧Calls Tryz.prog 102 #[(vp v20),(vi v21)] w21 (fun e w22=>∃aP aQ aR aS aT aU aV r2,e=.returned (.tuple #[(Ae aP aQ aR aS aT aU aV),(vb r2)])∧C3 w22∧Kept Hl1 w21 w22∧(∀j,j<7→vG w22 (p7.add j))∧¬ Hl1 p7.block∧∀w23,w23=storeRow w22 p7 (Ad aP aQ aR aS aT aU aV)→C3 w23∧m_Q_j2 p1 at1 p5 p7 w0 Hl1 w23 Kc1 K))) (K wl1)
def m_Q (k1:Option Addr) (t1 wrule1 wfrom1:Int) (w0:World) (K:WP):Prop :=∀p1 w1,New w0 (.cells #[(vp k1)] 125) p1 w1→∀H1 w2,Hst w0 None w1 H1 w2→∃v1,w2.cell? p1=some (vp v1)∧∃a1,v1=some a1∧∃v2:Option Nat,w2.cell? (a1.add 2)=some (.map v2)∧∃vrule1 vfrom1 ok1,(Instr.lookup 210 (.map v2) (vi t1) true).run Tryz.prog w2=.ok (.tuple #[(.agg #[(vi vrule1),(vi vfrom1)]),(vb ok1)]) w2∧Br ok1 (∀H2 w4,Hst w0 H1 w2 H2 w4→K w4) (∀H2 w4,Hst w0 H1 w2 H2 w4→∃C1:WP,C1 w4.drew∧∀w5,w5=w4.drew→∃v3,(∀w',C1 w'→w'.cell? p1=some (vp v3))∧∃a2,v3=some a2∧∃v4:Option Nat,(∀w',C1 w'→w'.cell? (a2.add 2)=some (.map v4))∧∃w6:World,(Instr.mapUpdate 210 (.map v4) (vi t1) (.agg #[(vi wrule1),(vi wfrom1)])).run Tryz.prog w5=.ok () w6∧Kept H2 w5 w6∧∃v5,w6.cell? p1=some (vp v5)∧∃a3,v5=some a3∧∃v6:Sl,w6.cell? (a3.add 3)=some v6.v∧∃C2:WP,C2 w6.drew∧∀w7,w7=w6.drew→∃v7,(∀w',C2 w'→w'.cell? p1=some (vp v7))∧∃v8,(∀w',C2 w'→w'.cell? p1=some (vp v8))∧∃a4,v8=some a4∧∃v9:Sl,(∀w',C2 w'→w'.cell? (a4.add 3)=some v9.v)∧∀p4 w8,New w7 (.cells #[(vi t1)] 78) p4 w8→C2 w8∧∃s1:Sl,∃w9:World,(Builtin.append_ #[46,46] 46 #[v9.v,(Sl.mk (some p4) 1 1).v]).run Tryz.prog w8=.ok s1.v w9∧C2 w9∧Kept H2 w8 w9∧∃a5,v7=some a5∧vG w9 (a5.add 3)∧¬ H2 (a5.add 3).block∧∀w10,w10=w9.setCell (a5.add 3) s1.v→∃(I1:Int→NP→WP) (mu1:Int→World→Nat),I1 (v6.len:Int) H2 w10∧∀(at1:Int) (Hl1:NP) (wl1:World),Hst w0 Hl1 wl1 Hl1 wl1→I1 at1 Hl1 wl1→m_Q_l1 p1 at1 w0 Hl1 wl1 (fun y'0 H' w'=>I1 y'0 H' w'∧mu1 y'0 w'<mu1 at1 wl1) K)
theorem w_Q (k1 t1 wrule1 wfrom1 w0 K) (h:m_Q k1 t1 wrule1 wfrom1 w0 K):
  Calls Tryz.prog 151 #[(vp k1),(vi t1),(.agg #[(vi wrule1),(vi wfrom1)])] w0 (fun e w'=>e=.returned (.tuple #[])∧K  w'):=by
 refine cw (args:=[(vp k1),(vi t1),(.agg #[(vi wrule1),(vi wfrom1)])]) Tryz.func151 Tryz.ntmps151 ?_
 obtain ⟨hs,hb⟩:=st0 w0
 refine eg (nw2 hs hb h xb fun p1 w1 hs hb h=>nw3 [(vi wrule1),(vi wfrom1)] 235 hs hb xb fun p2 w2 H1 hs hb=>ln (zA (eg ?_)))
 have ⟨h,hs⟩:=hs.hr (h H1 w2)
 refine ql (Tryz.isAgg125 _) h fun v1 h=>?_
 obtain ⟨a1,hp1,h⟩:=h
 refine q2 (vp (some a1)) (zG (p:=v1) (by kernel_rfl) hp1) (q (ql (Tryz.isAgg210 _) h fun v2 h=>q ?_))
 obtain ⟨vrule1,vfrom1,ok1,hv23,h⟩:=h
 refine q2 (.tuple #[(.agg #[(vi vrule1),(vi vfrom1)]),(vb ok1)]) (jEJ (by kernel_rfl) (by kernel_rfl) hv23) (qc (nw3 [(vi 0),(vi 0)] 235 hs hb (zM (Tryz.zeroValue235 _) rfl) fun p3 w3 H2 hs hb=>zK (zD rfl) (xo p3 [(vi vrule1),(vi vfrom1)] (Tryz.sizeOf235 _) (hb.k0 0 2 gZ)) ?_))
 intro w4 hn3
 obtain ⟨hs,hb⟩:=hb.st1 0 hs hn3 gZ
 refine q (ln (eg (q (ln (cbr h ?_ ?_)))))<;>intro h
 refine er (zY ?_)
 have ⟨h,hs⟩:=hs.hr (h H2 w4)
 refine jNZ (.inl rfl) Tryz.results151 ⟨rfl,h⟩
 refine zB (zO (zA ?_))
 have ⟨h,hs⟩:=hs.hr (h H2 w4)
 obtain ⟨C1,hC,h⟩:=h
 refine dr2 (fun x=>C1 x∧HB H2 x _) [6] [6] ⟨hC,hb.drew⟩ h hs hb fun w5 hs hb h=>?_
 have hs:=hs.here
 refine qg 0 ?_
 obtain ⟨v3,hv22,h⟩:=h
 refine sy Kp0 (fun _ k=>xl (Tryz.isAgg125 _) (hv22 _ k.1)) (qg 1 ?_)
 obtain ⟨a2,hp2,h⟩:=h
 refine sy (v:=(vp (some a2))) Kp1 (fun _ _=>(zG (p:=v3) (by kernel_rfl) hp2)) (qx 2 (vp (some (a2.add 2))) Kp2 (qg 3 ?_))
 obtain ⟨v4,hv21,h⟩:=h
 refine sy Kp3 (fun _ k=>xl (Tryz.isAgg210 _) (hv21 _ k.1)) (qx 4 (vi t1) Kp4 (qz 5 (.agg #[(vi wrule1),(vi wfrom1)]) Kp5 (fun w' hw'=>(xa p2 [(vi wrule1),(vi wfrom1)] (Tryz.isAgg235 _) (Tryz.sizeOf235 _) (hw'.2.r0 1 2 (gS gZ)))) (lg 6 ?_)))
 obtain ⟨w6,hv20,hk,h⟩:=h
 refine jES Kp6 (zD rfl) (by kernel_rfl) (jAE (by kernel_rfl) (by kernel_rfl) (by kernel_rfl) hv20) (.inl (by kernel_rfl)) ?_
 obtain ⟨hs,hb⟩:=hk.hh hs hb
 refine wn (zO (eg (ql (Tryz.isAgg125 _) h fun v5 h=>?_)))
 obtain ⟨a3,hp3,h⟩:=h
 refine q2 (vp (some a3)) (zG (p:=v5) (by kernel_rfl) hp3) (q (ql (Tryz.isAgg46 _) h fun v6 h=>qb (ln (zA ?_))))
 obtain ⟨C2,hC,h⟩:=h
 refine dr2 (fun x=>C2 x∧HB H2 x _) [6,7,10] [10] ⟨hC,hb.drew⟩ h hs hb fun w7 hs hb h=>?_
 have hs:=hs.here
 refine qg 0 ?_
 obtain ⟨v7,hv17,h⟩:=h
 refine sy Kp0 (fun _ k=>xl (Tryz.isAgg125 _) (hv17 _ k.1)) (qg 1 ?_)
 obtain ⟨v8,hv16,h⟩:=h
 refine sy Kp1 (fun _ k=>xl (Tryz.isAgg125 _) (hv16 _ k.1)) (qg 2 ?_)
 obtain ⟨a4,hp4,h⟩:=h
 refine sy (v:=(vp (some a4))) Kp2 (fun _ _=>(zG (p:=v8) (by kernel_rfl) hp4)) (qx 3 (vp (some (a4.add 3))) Kp3 (qg 4 ?_))
 obtain ⟨v9,hv15,h⟩:=h
 refine sy Kp4 (fun _ k=>xl (Tryz.isAgg46 _) (hv15 _ k.1)) (qx 5 (vi t1) Kp5 (lg 6 (qI (O:=(.cells #[(vi t1)] 78)) (fun p=>(Sl.mk (some p) 1 1).v) Kp6 (zD rfl) (by kernel_rfl) (vR (vs:=#[(0,(vi t1))]) (by kernel_rfl) (by kernel_rfl)) ?_)))
 intro p4 w8 hn11
 have h:=h p4 w8 hn11
 refine ⟨.inr ⟨h.1,hb.kept (Ext.new (F:=None) hn11).keptP⟩,?_⟩
 have h:=h.2
 obtain ⟨hs,hb⟩:=hs.nw hb hn11
 refine lg 7 ?_
 obtain ⟨s1,w9,hv14,hC,hk,h⟩:=h
 refine sl (v:=s1.v) Kp7 (zD rfl) (by kernel_rfl) (vP (args:=#[v9.v,(Sl.mk (some p4) 1 1).v]) (by kernel_rfl) (fun _=>rfl) hv14) (.inr ⟨hC,hb.kept hk⟩) ?_
 obtain ⟨hs,hb⟩:=hk.hh hs hb
 refine qg 8 ?_
 obtain ⟨a5,hp5,h⟩:=h
 refine sy (v:=(vp (some a5))) Kp8 (fun _ _=>(zG (p:=v7) (by kernel_rfl) hp5)) (qx 9 (vp (some (a5.add 3))) Kp9 (lg 10 ?_))
 obtain ⟨hp6,hnh,h⟩:=h
 refine sl_t (zS (S8 (zI (zI zR)))) (xs (v:=s1.v) (Tryz.sizeOf46 _) hp6) ?_
 intro w10 hn4
 have h:=h w10 hn4
 refine ⟨.inl (by kernel_rfl),?_⟩
 have hk:=Kept.sc hnh hn4
 obtain ⟨hs,hb⟩:=hk.hh hs hb
 refine wn (zO (zJ ?_))
 obtain ⟨I1,mu1,h0,hr⟩:=h
 refine vH (σ:=Int×NP×World) (fun s ρ w=>w=s.2.2∧Has ρ [(3,(vp (some p1))),(8,(vi s.1))]∧Hst w0 s.2.1 w s.2.1 w∧HB s.2.1 w [(p3,[(vi vrule1),(vi vfrom1)],235),(p2,[(vi wrule1),(vi wfrom1)],235)]∧I1 s.1 s.2.1 s.2.2) (fun s=>mu1 s.1 s.2.2) ((v6.len:Int),H2,w10) ⟨rfl,hm,hs,hb,h0⟩ ?_
 rintro ⟨at1,Hl1,wl1⟩ ρ w ⟨hw,hH,hs,hb,hI⟩
 dsimp only at hw hH hs hb;subst w
 have h:=hr at1 Hl1 wl1 hs hI
 refine zU hH (zA (eg (q (ql (Tryz.isAgg125 _) h fun v10 h=>?_))))
 obtain ⟨a6,hp7,h⟩:=h
 refine q2 (vp (some a6)) (zG (p:=v10) (by kernel_rfl) hp7) (q (ql (Tryz.isAgg46 _) h fun v11 h=>qb (ln (cbr h ?_ ?_))))<;>intro h
 refine zB (zO (zA (zJ (eg (ql (Tryz.isAgg125 _) h fun v12 h=>?_)))))
 obtain ⟨a7,hp8,h⟩:=h
 refine q2 (vp (some a7)) (zG (p:=v12) (by kernel_rfl) hp8) (q (ql (Tryz.isAgg46 _) h fun v13 h=>q (qi (Tryz.runUnderlying46 _) (Tryz.sizeOf78 _) h fun a8 h=>ql (Tryz.isAgg78 _) h fun v14 h=>sn (O:=(.cells #[(vi 0)] 78)) (zM (Tryz.zeroValue78 _) rfl) ?_)))
 intro p5 w11 hn10
 have h:=h p5 w11 hn10
 obtain ⟨hs,hb⟩:=hs.nw hb hn10
 obtain ⟨hp9,hnh,h⟩:=h
 refine zK (zD rfl) (vL (a:=p5) (v:=(vi v14)) (by kernel_rfl) (by kernel_rfl) rfl (Tryz.sizeOf78 _) hp9) ?_
 intro w12 hn5
 have h:=h w12 hn5
 have hk:=Kept.sc hnh hn5
 obtain ⟨hs,hb⟩:=hk.hh hs hb
 refine ln (zA (qQ (fun ρ w=>∃a9:Addr,∃H:NP,Has ρ [(3,(vp (some p1))),(8,(vi at1)),(9,(vp (some p5))),(10,(vp (some a9)))]∧Hst w0 H w H w∧HB H w [(p3,[(vi vrule1),(vi vfrom1)],235),(p2,[(vi wrule1),(vi wfrom1)],235)]∧m_Q_j2 p1 at1 p5 a9 w0 H w (fun y'0 H' w'=>I1 y'0 H' w'∧mu1 y'0 w'<mu1 at1 wl1) K) ?_ ?_))
 rintro ρ w ⟨a9,H,hH,hs,hb,h⟩
 refine zU hH (eg (qb (ln (eg (q (ql (Tryz.isAgg3 _) h fun v15 h=>ln (zJ (eg (qb (ln (cbr h ?_ ?_)))))))))))<;>intro h
 refine eg (qb (ql (Tryz.isAgg78 _) h fun v16 h=>vN (zD rfl) (yY (fs:=#[]) (caps:=#[(vp (some p1)),(vp (some p5))]) (args:=#[(vi v16),(vi 1)]) (args':=#[(vi v16),(vi 1),(vp (some p1)),(vp (some p5))]) (by kernel_rfl) Tryz.call205 (by kernel_rfl) (by kernel_rfl)) (h.mono ?_)))
 rintro e w13 ⟨rfl,hk,h⟩
 refine ⟨_,rfl,?_⟩
 obtain ⟨hs,hb⟩:=hk.hh hs hb
 refine ln (rg (qb (ql (Tryz.isAgg78 _) h fun v17 h=>vN (zD rfl) (yY (fs:=#[]) (caps:=#[(vp (some p1)),(vp (some p5))]) (args:=#[(vi v17),(vi 2)]) (args':=#[(vi v17),(vi 2),(vp (some p1)),(vp (some p5))]) (by kernel_rfl) Tryz.call205 (by kernel_rfl) (by kernel_rfl)) (h.mono ?_))))
 rintro e w14 ⟨rfl,hk,h⟩
 refine ⟨_,rfl,?_⟩
 obtain ⟨hs,hb⟩:=hk.hh hs hb
 refine zC (yQ (yQ (zO (rg (qc (ln ⟨((q6.wrap (at1+1)),H,w14),⟨rfl,hm,hs,hb,h.1⟩,h.2⟩))))))
 refine zA (eg (qb (ln (vQ (fun ρ wJ=>∃b1'0 b1'1 y1:Bool,∃HJ:NP,((v15 == 7)=b1'0)∧((v15 == 8)=b1'1)∧(y1=(cond b1'0 (v15 == 7) (cond b1'1 (v15 == 8) (v15 == 9))))∧Hst w0 H w HJ wJ∧HB HJ wJ [(p3,[(vi vrule1),(vi vfrom1)],235),(p2,[(vi wrule1),(vi wfrom1)],235)]∧Has ρ [(3,(vp (some p1))),(8,(vi at1)),(10,(vp (some a9))),(12,(.func (.func 205) #[] #[(vp (some p1)),(vp (some p5))])),(82,(vb y1))]) ?_ ?_))))
 refine vO (t:=(v15 == 7)) (by kernel_rfl) (fun hc6=>?_) (fun hc6=>?_)
 refine zB (zO ⟨true,_,_,_,hc6,rfl,rfl,hs,hb,hm⟩)
 refine eg (qb (ln (vO (t:=(v15 == 8)) (by kernel_rfl) (fun hc7=>?_) (fun hc7=>?_))))
 refine zB (zO ⟨false,true,_,_,hc6,hc7,rfl,hs,hb,hm⟩)
 refine rg (qb (ln ⟨false,false,_,_,hc6,hc7,rfl,hs,hb,hm⟩))
 rintro ρ w15 ⟨b1'0,b1'1,y1,H3,he0,he1,hy1,hs,hb,hH⟩
 subst he0
 subst he1
 have h:=h y1 hy1
 refine vI hH (zO (cbr h ?_ ?_))<;>intro h
 refine rg (qb ?_)
 have ⟨h,hs⟩:=hs.hr (h H3 w15)
 refine ql (Tryz.isAgg78 _) h fun v18 h=>vN (zD rfl) (yY (fs:=#[]) (caps:=#[(vp (some p1)),(vp (some p5))]) (args:=#[(vi v18),(vi 3)]) (args':=#[(vi v18),(vi 3),(vp (some p1)),(vp (some p5))]) (by kernel_rfl) Tryz.call205 (by kernel_rfl) (by kernel_rfl)) (h.mono ?_)
 rintro e w16 ⟨rfl,hk,h⟩
 refine ⟨_,rfl,?_⟩
 obtain ⟨hs,hb⟩:=hk.hh hs hb
 refine zC (yQ (yQ (zO (rg (qc (ln ⟨((q6.wrap (at1+1)),H3,w16),⟨rfl,hm,hs,hb,h.1⟩,h.2⟩))))))
 refine zB (yQ (yQ (zO (rg (qc (zC ?_))))))
 have ⟨h,hs⟩:=hs.hr (h H3 w15)
 refine zO ⟨((q6.wrap (at1+1)),H3,w15),⟨rfl,hm,hs,hb,h.1⟩,h.2⟩
 obtain ⟨C3,hC,h⟩:=h
 refine dr2 (fun x=>C3 x∧HB Hl1 x _) [5,9,10] [] ⟨hC,hb.drew⟩ h hs hb fun w17 hs hb h=>?_
 have hs:=hs.here
 refine qg 0 ?_
 obtain ⟨v19,hv7,h⟩:=h
 refine sy Kp0 (fun _ k=>xl (Tryz.isAgg125 _) (hv7 _ k.1)) (qg 1 ?_)
 obtain ⟨a10,hp10,h⟩:=h
 refine sy (v:=(vp (some a10))) Kp1 (fun _ _=>(zG (p:=v19) (by kernel_rfl) hp10)) (qx 2 (vp (some a10)) Kp2 (qg 3 ?_))
 obtain ⟨v20,hv6,h⟩:=h
 refine sy Kp3 (fun _ k=>xl (Tryz.isAgg68 _) (hv6 _ k.1)) (qg 4 ?_)
 obtain ⟨v21,hv5,h⟩:=h
 refine sy Kp4 (fun _ k=>xl (Tryz.isAgg78 _) (hv5 _ k.1)) (jMM (k:=5) (k':=9) (by kernel_rfl) ?_ ?_)
 have h:=h.1
 refine zL Kp5 (zD rfl) (by kernel_rfl) (xc Tryz.call102) (h.mono ?_)
 rintro e w18 ⟨aA,aC,aD,aF,aG,aB,aE,r1,rfl,hC,hk,h⟩
 refine ⟨_,rfl,.inr ⟨hC,hb.kept hk⟩,?_⟩
 obtain ⟨hs,hb⟩:=hk.hh hs hb
 refine qx 6 (.tuple #[(Ae aA aC aD aF aG aB aE),(vb r1)]) Kp6 (qx 7 (Ae aA aC aD aF aG aB aE) Kp7 (qx 8 (vb r1) Kp8 (lg 9 (qI (O:=(.cells #[(vi 0),(vi 0),(vi 0),(vu 0),(vs ⟨#[]⟩),(vi 0),(vi 0)] 176)) (fun p=>.pointer (some p)) Kp9 (zD rfl) (by kernel_rfl) (zM (Tryz.zeroValue176 _) rfl) ?_))))
 intro p6 w19 hn7
 have h:=h p6 w19 hn7
 refine ⟨.inr ⟨h.1,hb.kept (Ext.new (F:=None) hn7).keptP⟩,?_⟩
 have h:=h.2
 obtain ⟨hs,hb⟩:=hs.nw hb hn7
 refine lg 10 ?_
 obtain ⟨hp11,hnh,h⟩:=h
 refine xB (zS (S8 (zI (zI zR)))) (zD rfl) (by kernel_rfl) (xo p6 (Ad aA aC aD aF aG aB aE) (Tryz.sizeOf176 _) hp11) ?_
 intro w20 hn6
 have h:=h w20 hn6
 refine ⟨.inr ⟨h.1,hb.kept (by rw [hn6];exact Kept.storeRow hnh)⟩,?_⟩
 have h:=h.2
 have hk:Kept Hl1 w19 w20:=by rw [hn6];exact Kept.storeRow hnh
 obtain ⟨hs,hb⟩:=hk.hh hs hb
 refine qx 11 (vb r1) (zS (S8 (zI (zI (zI zR))))) (wn (zO ⟨p6,Hl1,hm,hs,hb,h⟩))
 have h:=h.2
 refine qI (O:=(.cells #[(vi 0),(vi 0),(vi 0),(vu 0),(vs ⟨#[]⟩),(vi 0),(vi 0)] 176)) (fun p=>.pointer (some p)) Kp9 (zD rfl) (by kernel_rfl) (zM (Tryz.zeroValue176 _) rfl) ?_
 intro p7 w21 hn9
 have h:=h p7 w21 hn9
 refine ⟨.inr ⟨h.1,hb.kept (Ext.new (F:=None) hn9).keptP⟩,?_⟩
 have h:=h.2
 obtain ⟨hs,hb⟩:=hs.nw hb hn9
 refine lg 5 (zL Kp5 (zD rfl) (by kernel_rfl) (xc Tryz.call102) (h.mono ?_))
 rintro e w22 ⟨aP,aQ,aR,aS,aT,aU,aV,r2,rfl,hC,hk,h⟩
 refine ⟨_,rfl,.inr ⟨hC,hb.kept hk⟩,?_⟩
 obtain ⟨hs,hb⟩:=hk.hh hs hb
 refine qx 6 (.tuple #[(Ae aP aQ aR aS aT aU aV),(vb r2)]) Kp6 (qx 7 (Ae aP aQ aR aS aT aU aV) Kp7 (qx 8 (vb r2) Kp8 (lg 10 ?_)))
 obtain ⟨hp12,hnh,h⟩:=h
 refine xB (zS (S8 (zI (zI zR)))) (zD rfl) (by kernel_rfl) (xo p7 (Ad aP aQ aR aS aT aU aV) (Tryz.sizeOf176 _) hp12) ?_
 intro w23 hn8
 have h:=h w23 hn8
 refine ⟨.inr ⟨h.1,hb.kept (by rw [hn8];exact Kept.storeRow hnh)⟩,?_⟩
 have h:=h.2
 have hk:Kept Hl1 w22 w23:=by rw [hn8];exact Kept.storeRow hnh
 obtain ⟨hs,hb⟩:=hk.hh hs hb
 refine qx 11 (vb r2) (zS (S8 (zI (zI (zI zR))))) (wn (zO ⟨p7,Hl1,hm,hs,hb,h⟩))
 refine vF (yM (yM (yK (jNZ (.inr rfl) Tryz.results151 ⟨rfl,h⟩))))
def m_K2 (k1:Option Addr) (t1:Int) (w0:World) (K:Int→WP):Prop :=Br (Option.isNone k1) (K 7 w0) (∃a1,k1=some a1∧∃v1,w0.cell? a1=some (vp v1)∧Calls Tryz.prog 102 #[(vp v1),(vi t1)] w0 (fun e w1=>∃aA aC aD aF aG aB aE r1,e=.returned (.tuple #[(Ae aA aC aD aF aG aB aE),(vb r1)])∧Kept None w0 w1∧Br (!r1) (∀H1 w3,Hst w0 None w1 H1 w3→K 51 w3) (∃a2,k1=some a2∧∀H1 w3,Hst w0 None w1 H1 w3→∃v2:Sl,w3.cell? (a2.add 1)=some v2.v∧Calls Tryz.prog 150 #[v2.v,(vi t1)] w3 (fun e w4=>∃r2,e=.returned (vb r2)∧Kept H1 w3 w4∧Br (!r2) (∃a3,k1=some a3∧∃v3:Sl,w4.cell? (a3.add 1)=some v3.v∧∀p2 w5,New w4 (.cells #[(vi t1)] 78) p2 w5→∃s1:Sl,∃w6:World,(Builtin.append_ #[46,46] 46 #[v3.v,(Sl.mk (some p2) 1 1).v]).run Tryz.prog w5=.ok s1.v w6∧Kept H1 w5 w6∧∃a4,k1=some a4∧vG w6 (a4.add 1)∧¬ H1 (a4.add 1).block∧∀w7,w7=w6.setCell (a4.add 1) s1.v→Calls Tryz.prog 151 #[(vp k1),(vi t1),(.agg #[(vi 0),(vi 0)])] w7 (fun e w8=>e=.returned (.tuple #[])∧Kept H1 w7 w8∧K 0 w8)) (Calls Tryz.prog 151 #[(vp k1),(vi t1),(.agg #[(vi 0),(vi 0)])] w4 (fun e w9=>e=.returned (.tuple #[])∧Kept H1 w4 w9∧K 0 w9))))))
theorem w_K2 (k1 t1 w0 K) (h:m_K2 k1 t1 w0 K):
  Calls Tryz.prog 79 #[(vp k1),(vi t1)] w0 (fun e w'=>∃r3,e=.returned (vi r3)∧K r3 w'):=by
 refine cw (args:=[(vp k1),(vi t1)]) Tryz.func79 Tryz.ntmps79 ?_
 obtain ⟨hs,hb⟩:=st0 w0
 refine eg (q (ln (zA (eg (q (q2 (vb (Option.isNone k1)) (xV (by kernel_rfl) rfl Tryz.underlying125) (ln (cbr h ?_ ?_))))))))<;>intro h
 refine eg (q (ln (er (zY (rs1 Tryz.results79 ⟨7,rfl,h⟩)))))
 refine zB (zO (zA (eg (q ?_))))
 obtain ⟨a1,hp1,h⟩:=h
 refine q2 (vp (some a1)) (zG (p:=k1) (by kernel_rfl) hp1) (q (ql (Tryz.isAgg68 _) h fun v1 h=>q (sc Tryz.call102 (h.mono fun e w1 ⟨aA,aC,aD,aF,aG,aB,aE,r1,k,hk,h⟩=>have ⟨hs,hb⟩:=hk.hh hs hb;⟨_,k,?_⟩))))
 refine qc (nw3 (Ad 0 0 0 0 (⟨#[]⟩) 0 0) 176 hs hb (zM (Tryz.zeroValue176 _) rfl) fun p1 w2 H1 hs hb=>zK (zD rfl) (xo p1 (Ad aA aC aD aF aG aB aE) (Tryz.sizeOf176 _) (hb.k0 0 7 gZ)) ?_)
 intro w3 hn2
 obtain ⟨hs,hb⟩:=hb.st1 0 hs hn2 gZ
 refine q (ln (eg (qb (ln (cbr h ?_ ?_)))))<;>intro h
 refine eg (q (ln (er (zY ?_))))
 have ⟨h,hs⟩:=hs.hr (h H1 w3)
 refine rs1 Tryz.results79 ⟨51,rfl,h⟩
 refine zB (zO (zA (eg (q ?_))))
 obtain ⟨a2,hp2,h⟩:=h
 refine q2 (vp (some a2)) (zG (p:=k1) (by kernel_rfl) hp2) (q ?_)
 have ⟨h,hs⟩:=hs.hr (h H1 w3)
 refine ql (Tryz.isAgg46 _) h fun v2 h=>q (sc Tryz.call150 (h.mono fun e w4 ⟨r2,k,hk,h⟩=>have ⟨hs,hb⟩:=hk.hh hs hb;⟨_,k,?_⟩))
 refine q (ln (cbr h ?_ ?_))<;>intro h
 refine rg (qb ?_)
 obtain ⟨a3,hp3,h⟩:=h
 refine q2 (vp (some a3)) (zG (p:=k1) (by kernel_rfl) hp3) (q (ql (Tryz.isAgg46 _) h fun v3 h=>q (tH (O:=(.cells #[(vi t1)] 78)) (fun p=>(Sl.mk (some p) 1 1).v) (zD rfl) (vR (vs:=#[(0,(vi t1))]) (by kernel_rfl) (by kernel_rfl)) ?_)))
 intro p2 w5 hn4
 have h:=h p2 w5 hn4
 obtain ⟨hs,hb⟩:=hs.nw hb hn4
 obtain ⟨s1,w6,hv1,hk,h⟩:=h
 refine st (v:=s1.v) (zD rfl) (vP (args:=#[v3.v,(Sl.mk (some p2) 1 1).v]) (by kernel_rfl) (fun _=>rfl) hv1) ?_
 obtain ⟨hs,hb⟩:=hk.hh hs hb
 obtain ⟨a4,hp4,h⟩:=h
 refine q2 (vp (some a4)) (zG (p:=k1) (by kernel_rfl) hp4) (q ?_)
 obtain ⟨hp5,hnh,h⟩:=h
 refine zK (zD rfl) (vL (a:=(a4.add 1)) (v:=s1.v) (by kernel_rfl) (by kernel_rfl) rfl (Tryz.sizeOf46 _) hp5) ?_
 intro w7 hn3
 have h:=h w7 hn3
 have hk:=Kept.sc hnh hn3
 obtain ⟨hs,hb⟩:=hk.hh hs hb
 refine ln (eg (qc (sc Tryz.call151 (h.mono fun e w8 ⟨k,hk,h⟩=>have ⟨hs,hb⟩:=hk.hh hs hb;⟨_,k,?_⟩))))
 refine ln (eg (q (ln (er (rs1 Tryz.results79 ⟨0,rfl,h⟩)))))
 refine zB (zO (eg (qc (sc Tryz.call151 (h.mono fun e w9 ⟨k,hk,h⟩=>have ⟨hs,hb⟩:=hk.hh hs hb;⟨_,k,?_⟩)))))
 refine ln (eg (q (ln (er (rs1 Tryz.results79 ⟨0,rfl,h⟩)))))
def m_T3 (k1:Option Addr) (w0:World) (K:Sl→WP):Prop :=Br (Option.isNone k1) (K Sl.nil w0) (∃a1,k1=some a1∧∃v1:Sl,w0.cell? (a1.add 3)=some v1.v∧Calls Tryz.prog 153 #[v1.v] w0 (fun e w1=>∃r1:Value,e=.returned r1∧Calls Tryz.prog 152 #[r1] w1 (fun e w2=>∃r2:Sl,e=.returned r2.v∧K r2 w2)))
theorem w_T3 (k1 w0 K) (h:m_T3 k1 w0 K):
  Calls Tryz.prog 80 #[(vp k1)] w0 (fun e w'=>∃r3:Sl,e=.returned r3.v∧K r3 w'):=by
 refine cw (args:=[(vp k1)]) Tryz.func80 Tryz.ntmps80 (eg (q0 Sl.nil.v (ln (zA (eg (q0 (vp k1) (q2 (vb (Option.isNone k1)) (xV (by kernel_rfl) rfl Tryz.underlying125) (zC ?_))))))))
 refine zO (cbr h ?_ ?_)<;>intro h
 refine eg (q (ln (er (zY (rs1 Tryz.results80 ⟨Sl.nil,rfl,h⟩)))))
 refine zB (zO (eg (q ?_)))
 obtain ⟨a1,hp1,h⟩:=h
 refine q2 (vp (some a1)) (zG (p:=k1) (by kernel_rfl) hp1) (q (ql (Tryz.isAgg46 _) h fun v1 h=>sc Tryz.call153 (h.mono fun e w1 ⟨r1,k,h⟩=>⟨_,k,?_⟩)))
 refine sc Tryz.call152 (h.mono fun e w2 ⟨r2,k,h⟩=>⟨_,k,?_⟩)
 refine q (ln (er (rs1 Tryz.results80 ⟨r2,rfl,h⟩)))
def m_U3 (t1 rule1:Int) (cap1 cap2:Addr) (w0:World) (K:WP):Prop :=∃v1,w0.cell? cap1=some (vp v1)∧∃a1,v1=some a1∧∃v2:Option Nat,w0.cell? (a1.add 2)=some (.map v2)∧∃vrule1 vfrom1 ok1,(Instr.lookup 210 (.map v2) (vi t1) true).run Tryz.prog w0=.ok (.tuple #[(.agg #[(vi vrule1),(vi vfrom1)]),(vb ok1)]) w0∧Br (!ok1) (∀H1 w2,Hst w0 None w0 H1 w2→∃C1:WP,C1 w2.drew∧∀w3,w3=w2.drew→∃v3,(∀w',C1 w'→w'.cell? cap1=some (vp v3))∧∃a2,v3=some a2∧∃v4:Option Nat,(∀w',C1 w'→w'.cell? (a2.add 2)=some (.map v4))∧∃v5,(∀w',C1 w'→w'.cell? cap2=some (vi v5))∧∃w4:World,(Instr.mapUpdate 210 (.map v4) (vi t1) (.agg #[(vi rule1),(vi v5)])).run Tryz.prog w3=.ok () w4∧Kept H1 w3 w4∧∃C2:WP,C2 w4.drew∧∀w5,w5=w4.drew→∃v6,(∀w',C2 w'→w'.cell? cap1=some (vp v6))∧∃v7,(∀w',C2 w'→w'.cell? cap1=some (vp v7))∧∃a3,v7=some a3∧∃v8:Sl,(∀w',C2 w'→w'.cell? (a3.add 3)=some v8.v)∧∀p2 w6,New w5 (.cells #[(vi t1)] 78) p2 w6→C2 w6∧∃s1:Sl,∃w7:World,(Builtin.append_ #[46,46] 46 #[v8.v,(Sl.mk (some p2) 1 1).v]).run Tryz.prog w6=.ok s1.v w7∧C2 w7∧Kept H1 w6 w7∧∃a4,v6=some a4∧vG w7 (a4.add 3)∧¬ H1 (a4.add 3).block∧∀w8,w8=w7.setCell (a4.add 3) s1.v→K w8) (∀H1 w2,Hst w0 None w0 H1 w2→K w2)
theorem w_U3 (t1 rule1 cap1 cap2 w0 K) (h:m_U3 t1 rule1 cap1 cap2 w0 K):
  Calls Tryz.prog 205 #[(vi t1),(vi rule1),(vp (some cap1)),(vp (some cap2))] w0 (fun e w'=>e=.returned (.tuple #[])∧K  w'):=by
 refine cw (args:=[(vi t1),(vi rule1),(vp (some cap1)),(vp (some cap2))]) Tryz.func205 Tryz.ntmps205 ?_
 obtain ⟨hs,hb⟩:=st0 w0
 refine eg (ql (Tryz.isAgg125 _) h fun v1 h=>?_)
 obtain ⟨a1,hp1,h⟩:=h
 refine q2 (vp (some a1)) (zG (p:=v1) (by kernel_rfl) hp1) (q (ql (Tryz.isAgg210 _) h fun v2 h=>q ?_))
 obtain ⟨vrule1,vfrom1,ok1,hv9,h⟩:=h
 refine q2 (.tuple #[(.agg #[(vi vrule1),(vi vfrom1)]),(vb ok1)]) (jEJ (by kernel_rfl) (by kernel_rfl) hv9) (qc (nw3 [(vi 0),(vi 0)] 235 hs hb (zM (Tryz.zeroValue235 _) rfl) fun p1 w1 H1 hs hb=>zK (zD rfl) (xo p1 [(vi vrule1),(vi vfrom1)] (Tryz.sizeOf235 _) (hb.k0 0 2 gZ)) ?_))
 intro w2 hn2
 obtain ⟨hs,hb⟩:=hb.st1 0 hs hn2 gZ
 refine q (ln (eg (qb (ln (cbr h ?_ ?_)))))<;>intro h
 refine zA ?_
 have ⟨h,hs⟩:=hs.hr (h H1 w2)
 obtain ⟨C1,hC,h⟩:=h
 refine dr2 (fun x=>C1 x∧HB H1 x _) [8] [8] ⟨hC,hb.drew⟩ h hs hb fun w3 hs hb h=>?_
 have hs:=hs.here
 refine qg 0 ?_
 obtain ⟨v3,hv8,h⟩:=h
 refine sy Kp0 (fun _ k=>xl (Tryz.isAgg125 _) (hv8 _ k.1)) (qg 1 ?_)
 obtain ⟨a2,hp2,h⟩:=h
 refine sy (v:=(vp (some a2))) Kp1 (fun _ _=>(zG (p:=v3) (by kernel_rfl) hp2)) (qx 2 (vp (some (a2.add 2))) Kp2 (qg 3 ?_))
 obtain ⟨v4,hv7,h⟩:=h
 refine sy Kp3 (fun _ k=>xl (Tryz.isAgg210 _) (hv7 _ k.1)) (qx 4 (vi t1) Kp4 (qx 5 (vi rule1) Kp5 (qg 6 ?_)))
 obtain ⟨v5,hv6,h⟩:=h
 refine sy Kp6 (fun _ k=>xl (Tryz.isAgg78 _) (hv6 _ k.1)) (qx 7 (.agg #[(vi rule1),(vi v5)]) Kp7 (lg 8 ?_))
 obtain ⟨w4,hv5,hk,h⟩:=h
 refine jES Kp8 (zD rfl) (by kernel_rfl) (jAE (by kernel_rfl) (by kernel_rfl) (by kernel_rfl) hv5) (.inl (by kernel_rfl)) ?_
 obtain ⟨hs,hb⟩:=hk.hh hs hb
 refine wn (zO ?_)
 obtain ⟨C2,hC,h⟩:=h
 refine dr2 (fun x=>C2 x∧HB H1 x _) [6,7,10] [10] ⟨hC,hb.drew⟩ h hs hb fun w5 hs hb h=>?_
 have hs:=hs.here
 refine qg 0 ?_
 obtain ⟨v6,hv4,h⟩:=h
 refine sy Kp0 (fun _ k=>xl (Tryz.isAgg125 _) (hv4 _ k.1)) (qg 1 ?_)
 obtain ⟨v7,hv3,h⟩:=h
 refine sy Kp1 (fun _ k=>xl (Tryz.isAgg125 _) (hv3 _ k.1)) (qg 2 ?_)
 obtain ⟨a3,hp3,h⟩:=h
 refine sy (v:=(vp (some a3))) Kp2 (fun _ _=>(zG (p:=v7) (by kernel_rfl) hp3)) (qx 3 (vp (some (a3.add 3))) Kp3 (qg 4 ?_))
 obtain ⟨v8,hv2,h⟩:=h
 refine sy Kp4 (fun _ k=>xl (Tryz.isAgg46 _) (hv2 _ k.1)) (qx 5 (vi t1) Kp5 (lg 6 (qI (O:=(.cells #[(vi t1)] 78)) (fun p=>(Sl.mk (some p) 1 1).v) Kp6 (zD rfl) (by kernel_rfl) (vR (vs:=#[(0,(vi t1))]) (by kernel_rfl) (by kernel_rfl)) ?_)))
 intro p2 w6 hn4
 have h:=h p2 w6 hn4
 refine ⟨.inr ⟨h.1,hb.kept (Ext.new (F:=None) hn4).keptP⟩,?_⟩
 have h:=h.2
 obtain ⟨hs,hb⟩:=hs.nw hb hn4
 refine lg 7 ?_
 obtain ⟨s1,w7,hv1,hC,hk,h⟩:=h
 refine sl (v:=s1.v) Kp7 (zD rfl) (by kernel_rfl) (vP (args:=#[v8.v,(Sl.mk (some p2) 1 1).v]) (by kernel_rfl) (fun _=>rfl) hv1) (.inr ⟨hC,hb.kept hk⟩) ?_
 obtain ⟨hs,hb⟩:=hk.hh hs hb
 refine qg 8 ?_
 obtain ⟨a4,hp4,h⟩:=h
 refine sy (v:=(vp (some a4))) Kp8 (fun _ _=>(zG (p:=v6) (by kernel_rfl) hp4)) (qx 9 (vp (some (a4.add 3))) Kp9 (lg 10 ?_))
 obtain ⟨hp5,hnh,h⟩:=h
 refine sl_t (zS (S8 (zI (zI zR)))) (xs (v:=s1.v) (Tryz.sizeOf46 _) hp5) ?_
 intro w8 hn3
 have h:=h w8 hn3
 refine ⟨.inl (by kernel_rfl),?_⟩
 have hk:=Kept.sc hnh hn3
 obtain ⟨hs,hb⟩:=hk.hh hs hb
 refine wn (jNZ (.inr rfl) Tryz.results205 ⟨rfl,h⟩)
 refine zB ?_
 have ⟨h,hs⟩:=hs.hr (h H1 w2)
 refine jNZ (.inr rfl) Tryz.results205 ⟨rfl,h⟩
end Go.Proofs
end
section
namespace Go.Sp
theorem jLB {L:Pool} {i:Nat} (hi:i<L.length):zH L ((i:Int)+1)=L[i].node:=by
 have h:inP L ((i:Int)+1)=true:=qJ.2 ⟨by omega,by omega⟩;have e:((i:Int)+1 - 1).toNat=i:=by omega
 simp [zH,get,h,e,hi]
theorem jLK {L:Pool} {t:Int} (h:inP L t=true):∃i:Nat,i<L.length∧t=(i:Int)+1:=by
 have:=qJ.1 h;exact ⟨(t - 1).toNat,by omega,by omega⟩
theorem jIU {L:Pool} {i:Nat} (hi:i<L.length):get L ((i:Int)+1)=some L[i]:=by
 have h:inP L ((i:Int)+1)=true:=qJ.2 ⟨by omega,by omega⟩;have e:((i:Int)+1 - 1).toNat=i:=by omega
 simp [get,h,e,hi]
structure Wf (L:Pool):Prop where
 ok:Ok L
 each:∀i (hi:i<L.length),check (L.take i) L[i].node=(L[i].size,L[i].depth,0)
theorem Wf.nil:Wf []:=⟨Ok.nil,fun i hi=>by simp at hi⟩
theorem jJT {L:Pool} {n:Node} (h:(check L n).2.2=0):vM n=0∧((shapeOf n.kind).kids<1→n.a=0)∧((shapeOf n.kind).kids<2→n.b=0)∧vJ (shapeOf n.kind) n=0∧(∀t∈vD n,inP L t=true) ∧
  (check L n).1=1+((vD n).map (sizeOf L)).sum∧(check L n).2.1=(vD n).foldl (fun d t=>max d (depthOf L t)) 0+1∧(check L n).1≤4096∧(check L n).2.1≤64:=by
 unfold check at h ⊢
 simp only at h ⊢
 by_cases h1:vM n≠0
 ·rw [if_pos h1] at h;exact absurd h h1
 rw [if_neg h1] at h ⊢
 split at h
 ·simp at h
 rename_i h2;rw [if_neg h2]
 by_cases h3:vJ (shapeOf n.kind) n≠0
 ·rw [if_pos h3] at h;exact absurd h h3
 rw [if_neg h3] at h ⊢
 split at h
 ·simp at h
 rename_i h4;rw [if_neg h4]
 split at h
 ·simp at h
 rename_i h5;rw [if_neg h5]
 simp only [Bool.or_eq_true,Bool.and_eq_true,decide_eq_true_eq,bne_iff_ne,ne_eq,not_or,not_and,Classical.not_not] at h2
 refine ⟨by simpa using h1,h2.1,h2.2,by simpa using h3,fun t ht=>?_,rfl,rfl,by simp only;omega,by simp only;omega⟩
 cases hi:inP L t with
 | true=>rfl
 | false=>exact absurd (List.any_eq_true.2 ⟨t,ht,by simp [hi]⟩) h4
theorem jFW (L:Pool) (n:Node):(make L n).2.2=L∨((check L n).2.2=0∧(make L n).2.2=L++[⟨n,(check L n).1,(check L n).2.1⟩]):=by
 by_cases hc:(check L n).2.2=0
 ·unfold make;simp only [hc];rw [if_neg (by simp)];split
  ·exact .inl rfl
  ·split
   ·exact .inl rfl
   ·exact .inr ⟨trivial,rfl⟩
 ·unfold make;simp only;rw [if_pos hc];exact .inl rfl
theorem jKT {L:Pool} {e:Ent} (h:∀i (hi:i<L.length),check (L.take i) L[i].node=(L[i].size,L[i].depth,0)) (he:check L e.node=(e.size,e.depth,0)):∀i (hi:i<(L++[e]).length),check ((L++[e]).take i) (L++[e])[i].node=((L++[e])[i].size,(L++[e])[i].depth,0):=by
 intro i hi;simp only [List.length_append,List.length_cons,List.length_nil] at hi;by_cases hlt:i<L.length
 ·simp only [List.getElem_append_left hlt];rw [List.take_append_of_le_length (by omega)];exact h i hlt
 ·have:i=L.length:=by omega
  subst this;simp only [List.getElem_append_right (Nat.le_refl _),Nat.sub_self,List.getElem_cons_zero];rw [List.take_left' rfl];exact he
theorem jDH {L:Pool} (h:Wf L) (n:Node):Wf (make L n).2.2:=by
 have ho:=jDI h.ok n;rcases jFW L n with e | ⟨hc,e⟩
 ·rw [e];exact h
 ·rw [e] at ho ⊢;exact ⟨ho,jKT h.each (by rw [← hc])⟩
theorem jOZ (t:Tree):∀L,Wf L→Wf (grow L t).2.2:=by
 induction t using Tree.ind with
 | h k f t u x ks ih =>
  have:∀(ks:List Tree),(∀i (hi:i<ks.length),∀L,Wf L→Wf (grow L ks[i]).2.2)→∀n i L,Wf L→Wf (vV n i L ks).2.2:=by
   intro ks;induction ks with
   | nil=>intro _ n i L h;unfold vV;exact jDH h n
   | cons t ts iht =>
    intro hh n i L h
    have h0:=hh 0 (by simp) L h
    simp only [List.getElem_cons_zero] at h0
    unfold vV
    split
    ·exact h0
    ·exact iht (fun i hi=>hh (i+1) (by simpa using hi)) _ _ _ h0
  intro L h
  unfold grow
  exact this ks ih _ _ L h
theorem of_wf {L:Pool} (h:Wf L) (t:Tree):Wf (of L t).2.2:=by
 unfold of;split
 ·exact h
 ·split
  ·exact h
  ·exact jOZ t L h
theorem jOY {L M:Pool} {t:Int} (h:inP L t=true):inP (L++M) t=true:=by
 have:=qJ.1 h;exact qJ.2 ⟨this.1,by rw [List.length_append];omega⟩
theorem jLM {L M:Pool} {t:Int} (h:inP L t=true):get (L++M) t=get L t:=by
 obtain ⟨i,hi,rfl⟩:=jLK h;rw [jIU hi,jIU (by rw [List.length_append];omega),List.getElem_append_left hi]
theorem jJK {L M:Pool} {t:Int} (h:inP L t=true):sizeOf (L++M) t=sizeOf L t:=by unfold sizeOf;rw [jLM h]
theorem jHR {L M:Pool} {t:Int} (h:inP L t=true):depthOf (L++M) t=depthOf L t:=by unfold depthOf;rw [jLM h]
theorem Wf.node {L:Pool} (h:Wf L) {t:Int} (ht:inP L t=true):vM (zH L t)=0∧((shapeOf (zH L t).kind).kids<1→(zH L t).a=0)∧((shapeOf (zH L t).kind).kids<2→(zH L t).b=0)∧vJ (shapeOf (zH L t).kind) (zH L t)=0 ∧
  (∀k∈vD (zH L t),inP L k=true∧k<t)∧sizeOf L t=1+((vD (zH L t)).map (sizeOf L)).sum∧depthOf L t=(vD (zH L t)).foldl (fun d k=>max d (depthOf L k)) 0+1:=by
 obtain ⟨i,hi,rfl⟩:=jLK ht
 have he:=h.each i hi
 have hz:=jJT (L:=L.take i) (n:=L[i].node) (by rw [he])
 rw [jLB hi]
 obtain ⟨h1,h2,h3,h4,h5,h6,h7,_,_⟩:=hz
 have hin:∀k∈vD L[i].node,inP (L.take i) k=true∧inP L k=true∧k<(i:Int)+1:=by
  intro k hk;have hk':=h5 k hk;have hk2:=qJ.1 hk';have:L.take i++L.drop i=L:=List.take_append_drop i L;refine ⟨hk',by rw [← this];exact jOY hk',?_⟩;rw [List.length_take] at hk2;omega
 have hsz:∀k∈vD L[i].node,sizeOf (L.take i) k=sizeOf L k∧depthOf (L.take i) k=depthOf L k:=by
  intro k hk;have hk':=(hin k hk).1;have:L.take i++L.drop i=L:=List.take_append_drop i L;exact ⟨by rw [← jJK (M:=L.drop i) hk',this],by rw [← jHR (M:=L.drop i) hk',this]⟩
 refine ⟨h1,h2,h3,h4,fun k hk=>⟨(hin k hk).2.1,(hin k hk).2.2⟩,?_,?_⟩
 ·have:sizeOf L ((i:Int)+1)=L[i].size:=by simp [sizeOf,jIU hi]
  rw [this]
  rw [he] at h6
  simp only at h6
  rw [h6]
  congr 2
  exact List.map_congr_left (fun k hk=>(hsz k hk).1)
 ·have:depthOf L ((i:Int)+1)=L[i].depth:=by simp [depthOf,jIU hi]
  rw [this]
  rw [he] at h7
  simp only at h7
  rw [h7]
  congr 1
  have:∀(l:List Int) (d:Int),(∀k∈l,depthOf (L.take i) k=depthOf L k)→l.foldl (fun d t=>max d (depthOf (L.take i) t)) d=l.foldl (fun d k=>max d (depthOf L k)) d:=by
   intro l;induction l with
   | nil=>intro d _;rfl
   | cons a l ih=>intro d hh;simp only [List.foldl_cons];rw [hh a (by simp)];exact ih _ (fun k hk=>hh k (by simp [hk]))
  exact this _ _ (fun k hk=>(hsz k hk).2)
def jBS:Tree:=.mk 0 0 0 0 ⟨#[]⟩ []
def jEO (L:Pool):Nat→Int→Tree
 | 0,_=>jBS
 | fuel+1,t=>if inP L t=true then .mk (zH L t).kind (zH L t).frm (zH L t).to (zH L t).num (zH L t).text ((vD (zH L t)).map (jEO L fuel)) else jBS
def vB (L:Pool) (t:Int):Tree:=jEO L t.toNat t
theorem xJ {L:Pool} {t:Int} (h:inP L t=false) (f:Nat):jEO L f t=jBS:=by
 cases f <;> simp [jEO,h]
theorem jJJ {L:Pool} (h:Wf L):∀(f:Nat) (t:Int),t.toNat≤f→jEO L f t=vB L t:=by
 have key:∀(f g:Nat) (t:Int),t.toNat≤f→t.toNat≤g→jEO L f t=jEO L g t:=by
  intro f;induction f with
  | zero =>
   intro g t hf hg
   have:inP L t=false:=by
    apply Bool.eq_false_iff.2;intro hi;have:=qJ.1 hi;omega
   rw [xJ this,xJ this]
  | succ f ih =>
   intro g t hf hg
   cases hi:inP L t with
   | false=>rw [xJ hi,xJ hi]
   | true =>
    have hpos:=qJ.1 hi
    cases g with
    | zero=>omega
    | succ g =>
     simp only [jEO,hi,if_true]
     congr 1
     refine List.map_congr_left (fun k hk=>ih g k ?_ ?_)
     ·have:=((h.node hi).2.2.2.2.1 k hk).2;omega
     ·have:=((h.node hi).2.2.2.2.1 k hk).2;omega
 intro f t hf;exact key f t.toNat t hf (Nat.le_refl _)
theorem jHF {L:Pool} {t:Int} (h:inP L t=false):vB L t=jBS:=xJ h _
theorem uF {L:Pool} (h:Wf L) {t:Int} (ht:inP L t=true):vB L t=.mk (zH L t).kind (zH L t).frm (zH L t).to (zH L t).num (zH L t).text ((vD (zH L t)).map (vB L)):=by
 have hpos:=qJ.1 ht;have e:t.toNat=(t.toNat - 1)+1:=by omega
 unfold vB;rw [e];simp only [jEO,ht,if_true];congr 1;refine List.map_congr_left (fun k hk=>?_);have:=((h.node ht).2.2.2.2.1 k hk).2;exact jJJ h _ k (by omega)
theorem Wf.first {L M:Pool} (h:Wf (L++M)):Wf L:=by
 refine ⟨⟨by have:=h.ok.few;rw [List.length_append] at this;omega,?_,fun e he=>h.ok.size e (by simp [he]),fun e he=>h.ok.depth e (by simp [he])⟩,fun i hi=>?_⟩
 ·have:=h.ok.nodup;rw [List.map_append] at this;exact (List.nodup_append.1 this).1
 ·have:=h.each i (by rw [List.length_append];omega);rw [List.getElem_append_left hi,List.take_append_of_le_length (by omega)] at this;exact this
end Go.Sp
end
section
namespace Go.Sp
def yG (k:Int):Bool:=k == 7 || k == 8 || k == 9
def jLN (k:Int):Bool:=k == 1 || k == 2 || k == 3
def jLI (n:Int):Node:=⟨6,n,0,0,⟨#[]⟩,0,0⟩
def jKN (n:Node):Int:=if n.kind=9 then n.to else n.frm
def uY (L:Pool) (r u t:Int):Prop :=
 (r=1∧(zH L u).kind=4∧(zH L u).a=t)∨(r=2∧(zH L u).kind=4∧(zH L u).b=t)∨(r=3∧yG (zH L u).kind=true∧(zH L u).a=t)
inductive Seen (L:Pool) (G:List Int):Int→Prop
 | given {t:Int}:t∈G→Seen L G t
 | aris {r u t:Int}:Seen L G u→uY L r u t→Seen L G t
inductive Drv (L:Pool) (K:Int→Prop):Int→Prop
 | seen {t:Int}:K t→Drv L K t
 | free {t:Int}:jLN (zH L t).kind=true→Drv L K t
 | pair {t:Int}:(zH L t).kind=4→Drv L K (zH L t).a→Drv L K (zH L t).b→Drv L K t
 | hash {t:Int}:(zH L t).kind=5→Drv L K (zH L t).a→Drv L K t
 | sign {t:Int} {i:Nat}:yG (zH L t).kind=true→Drv L K (zH L t).a→find L (jLI (jKN (zH L t)))=some i→K ((i:Int)+1)→Drv L K t
structure Way where
 t:Int
 rule:Int
 frm:Int
deriving DecidableEq
def vA (S:List Way):List Int:=S.map Way.t
def jIC (L:Pool) (G:List Int) (pre:List Way) (v:Way):Prop:=(v.rule=0∧v.frm=0∧v.t∈G)∨(v.rule≠0∧uY L v.rule v.frm v.t∧v.frm∈vA pre)
structure WaysOk (L:Pool) (G:List Int) (S:List Way):Prop where
 nodup:(vA S).Nodup
 inp:∀t∈vA S,inP L t=true
 way:∀i (h:i<S.length),jIC L G (S.take i) S[i]
def jDR (L:Pool) (S:List Way) (u:Int):Prop:=∀r t,uY L r u t→t∈vA S
structure KnowOk (L:Pool) (G:List Int) (S:List Way):Prop extends WaysOk L G S where
 closed:∀u∈vA S,jDR L S u
 giv:∀t∈G,t∈vA S
 gnd:G.Nodup
theorem uE (S:List Way):(vA S).length=S.length:=by simp [vA]
theorem jIC.mono {L:Pool} {G G':List Int} {pre:List Way} {v:Way} (h:jIC L G pre v) (hG:∀t∈G,t∈G'):jIC L G' pre v:=by
 rcases h with ⟨a,b,c⟩ | h
 ·exact .inl ⟨a,b,hG _ c⟩
 ·exact .inr h
theorem WaysOk.mono {L:Pool} {G G':List Int} {S:List Way} (h:WaysOk L G S) (hG:∀t∈G,t∈G'):WaysOk L G' S:=⟨h.nodup,h.inp,fun i hi=>(h.way i hi).mono hG⟩
theorem WaysOk.snoc {L:Pool} {G:List Int} {S:List Way} (h:WaysOk L G S) {v:Way} (hn:v.t ∉ vA S) (hi:inP L v.t=true) (hv:jIC L G S v):WaysOk L G (S++[v]):=by
 refine ⟨?_,?_,fun i hlt=>?_⟩
 ·unfold vA at hn ⊢;rw [List.map_append,List.nodup_append];exact ⟨h.nodup,by simp,fun x hx y hy e=>by simp at hy;subst hy;exact hn (e▸hx)⟩
 ·intro t ht;unfold vA at ht;rw [List.map_append,List.mem_append] at ht;rcases ht with ht | ht
  ·exact h.inp t ht
  ·simp at ht;rw [ht];exact hi
 ·rw [List.length_append] at hlt;simp only [List.length_cons,List.length_nil] at hlt;by_cases hl:i<S.length
  ·rw [List.getElem_append_left hl,List.take_append_of_le_length (by omega)];exact h.way i hl
  ·have:i=S.length:=by omega
   subst this;rw [List.getElem_append_right (Nat.le_refl _),List.take_left];simpa using hv
theorem jDR.snoc {L:Pool} {S:List Way} {u:Int} {v:Way} (h:jDR L S u):jDR L (S++[v]) u:=fun r t ha=>by
 unfold vA;rw [List.map_append];exact List.mem_append_left _ (h r t ha)
theorem jIH {S:List Way} {t:Int} (h:t∈vA S):∃i,∃hi:i<S.length,S[i].t=t∧(vA S).idxOf t=i:=by
 have hlt:=List.idxOf_lt_length_iff.2 h;refine ⟨(vA S).idxOf t,by simpa [vA] using hlt,?_,rfl⟩;have:=List.getElem_idxOf hlt;simp only [vA,List.getElem_map] at this ⊢;exact this
theorem KnowOk.seen_iff {L:Pool} {G:List Int} {S:List Way} (h:KnowOk L G S) (t:Int):t∈vA S↔Seen L G t:=by
 constructor
 ·intro ht;obtain ⟨i,hi,e,_⟩:=jIH ht;subst e;have:∀(n i:Nat) (hi:i<S.length),i≤n→Seen L G S[i].t:=by
   intro n;induction n with
   | zero =>
    intro i hi h0
    have:i=0:=by omega
    subst this
    rcases h.way 0 hi with ⟨_,_,hg⟩ | ⟨_,_,hm⟩
    ·exact .given hg
    ·simp [vA] at hm
   | succ n ih =>
    intro i hi hn
    rcases h.way i hi with ⟨_,_,hg⟩ | ⟨_,ha,hm⟩
    ·exact .given hg
    ·obtain ⟨j,hj,e,_⟩:=jIH hm
     rw [List.length_take] at hj
     have:=ih j (by omega) (by omega)
     rw [List.getElem_take] at e
     rw [e] at this
     exact .aris this ha
  exact this i i hi (Nat.le_refl _)
 ·intro hs;induction hs with
  | given hg=>exact h.giv _ hg
  | aris _ ha ih=>exact h.closed _ ih _ _ ha
theorem Seen.mono {L:Pool} {G G':List Int} (hG:∀t∈G,t∈G') {t:Int} (h:Seen L G t):Seen L G' t:=by
 induction h with
 | given hg=>exact .given (hG _ hg)
 | aris _ ha ih=>exact .aris ih ha
theorem Drv.mono {L:Pool} {K K':Int→Prop} (hK:∀t,K t→K' t) {t:Int} (h:Drv L K t):Drv L K' t:=by
 induction h with
 | seen h=>exact .seen (hK _ h)
 | free h=>exact .free h
 | pair h _ _ iha ihb=>exact .pair h iha ihb
 | hash h _ ih=>exact .hash h ih
 | sign h _ hf hk ih=>exact .sign h ih hf (hK _ hk)
structure Step where
 rule:Int
 a:Int
 b:Int
 t:Int
deriving DecidableEq
def ahead (i:Nat) (v:Int):Bool:=decide (0≤v) && decide (v<i)
def tAt (pre:List Step) (v:Int):Int:=(pre[v.toNat]?.map Step.t).getD 0
def jPJ (L:Pool) (r u t:Int):Bool :=
 if r=1 then (zH L u).kind == 4 && (zH L u).a == t else if r=2 then (zH L u).kind == 4 && (zH L u).b == t else yG (zH L u).kind && (zH L u).a == t
def fol (L:Pool) (G:List Int) (pre:List Step) (s:Step):Bool :=
 if inP L s.t=false then false
 else if s.rule=0 then s.a == 0 && s.b == 0 && decide (s.t∈G)
 else if s.rule=1∨s.rule=2∨s.rule=3 then ahead pre.length s.a && s.b == 0 && jPJ L s.rule (tAt pre s.a) s.t
 else if s.rule=4 then s.a == 0 && s.b == 0 && jLN (zH L s.t).kind
 else if s.rule=5 then
  if (zH L s.t).kind=4 then ahead pre.length s.a && ahead pre.length s.b && tAt pre s.a == (zH L s.t).a && tAt pre s.b == (zH L s.t).b
  else if (zH L s.t).kind=5 then ahead pre.length s.a && s.b == 0 && tAt pre s.a == (zH L s.t).a
  else if yG (zH L s.t).kind=true then ahead pre.length s.a && ahead pre.length s.b && tAt pre s.a == (zH L s.t).a && (zH L (tAt pre s.b)).kind == 6 && (zH L (tAt pre s.b)).frm == jKN (zH L s.t)
  else false
 else false
end Go.Sp
namespace Go.Sp
theorem jDF {α:Type} [DecidableEq α]:∀{l m:List α},l.Nodup→(∀x∈l,x∈m)→l.length≤m.length
 | [],m,_,_=>by simp
 | x :: l,m,hn,hs=>by
  have hx:=hs x (by simp);rw [List.nodup_cons] at hn;have:=jDF (m:=m.erase x) hn.2 (fun y hy=>(List.mem_erase_of_ne (fun h=>hn.1 (by rw [← h];exact hy))).2 (hs y (List.mem_cons_of_mem _ hy)));rw [List.length_erase_of_mem hx] at this;have:=List.length_pos_of_mem hx;simp only [List.length_cons];omega
theorem jCD {L:Pool} {l:List Int} (hn:l.Nodup) (hi:∀t∈l,inP L t=true):l.length≤L.length:=by
 have:=jDF (m:=(List.range L.length).map fun i:Nat=>(i:Int)+1) hn (fun t ht=>by
  obtain ⟨i,h1,h2⟩:=jLK (hi t ht);exact List.mem_map.2 ⟨i,List.mem_range.2 h1,h2.symm⟩)
 simpa using this
theorem WaysOk.few {L:Pool} {G:List Int} {S:List Way} (h:WaysOk L G S):S.length≤L.length:=by
 have:=jCD h.nodup h.inp;rwa [uE] at this
theorem jLH {L:Pool} (h:Wf L) {t:Int} (ht:inP L t=true) (hk:(zH L t).kind=4):(inP L (zH L t).a=true∧(zH L t).a<t)∧(inP L (zH L t).b=true∧(zH L t).b<t):=by
 have:=(h.node ht).2.2.2.2.1;simp only [vD,hk,shapeOf] at this;exact ⟨this _ (by simp),this _ (by simp)⟩
theorem jOW {L:Pool} (h:Wf L) {t:Int} (ht:inP L t=true) (hk:yG (zH L t).kind=true):inP L (zH L t).a=true∧(zH L t).a<t:=by
 have:=(h.node ht).2.2.2.2.1;simp only [yG,Bool.or_eq_true,beq_iff_eq] at hk;rcases hk with (hk | hk) | hk <;> simp only [vD,hk,shapeOf] at this <;> exact this _ (by simp)
theorem uY.inp {L:Pool} (h:Wf L) {r u t:Int} (hu:inP L u=true) (ha:uY L r u t):inP L t=true∧t<u:=by
 rcases ha with ⟨_,hk,rfl⟩ | ⟨_,hk,rfl⟩ | ⟨_,hk,rfl⟩
 ·exact (jLH h hu hk).1
 ·exact (jLH h hu hk).2
 ·exact jOW h hu hk
def tF (S:List Way) (v:Way):List Way:=if v.t∈vA S then S else S++[v]
theorem uO (S:List Way) (v:Way):vA (S++[v])=vA S++[v.t]:=by simp [vA]
theorem uX (S:List Way) (v:Way):v.t∈vA (tF S v)∧∀t∈vA S,t∈vA (tF S v):=by
 unfold tF;split
 ·rename_i h;exact ⟨h,fun _ h=>h⟩
 ·rw [uO];exact ⟨by simp,fun t ht=>List.mem_append_left _ ht⟩
theorem jAP (S:List Way) (v:Way):∃M,tF S v=S++M:=by
 unfold tF;split
 ·exact ⟨[],by simp⟩
 ·exact ⟨[v],rfl⟩
theorem WaysOk.add {L:Pool} {G:List Int} {S:List Way} (h:WaysOk L G S) {v:Way} (hi:inP L v.t=true) (hv:jIC L G S v):WaysOk L G (tF S v):=by
 unfold tF;split
 ·exact h
 ·rename_i hn;exact h.snoc hn hi hv
end Go.Sp
end
section
open Go Go.SE
namespace Go.Proofs
attribute [local irreducible] Calls
def wayv (p:Int×Int):Value:=.agg #[.int .i64 p.1,.int .i64 p.2]
def jOM (S:List Sp.Way):List (Int×(Int×Int)):=S.map fun v=>(v.t,(v.rule,v.frm))
theorem jCL (S:List Sp.Way):(jOM S).map Prod.fst=Sp.vA S:=by simp [jOM,Sp.vA]
theorem jKM (S:List Sp.Way) (v:Sp.Way):jOM (S++[v])=jOM S++[(v.t,(v.rule,v.frm))]:=by simp [jOM]
structure KnowS (w:World) (k p:Addr) (G:List Int) (S:List Sp.Way) (ks:List Int) (sg:Sl) (m:Nat) (sl:Sl):Prop where
 box:Box w k [.pointer (some p),sg.v,.map (some m),sl.v] 212
 giv:Rws w 78 1 sg (tmr G)
 seen:IMap wayv w m (jOM S)
 list:Rws w 78 1 sl (tmr ks)
 n1:m≠k.block
 n2:¬ sg.blk k.block
 n3:¬ sl.blk k.block
 n4:¬ sg.blk m
 n5:¬ sl.blk m
 n6:∀b,sg.blk b→¬ sl.blk b
def KF (k:Addr) (sg:Sl) (m:Nat) (sl:Sl) (b:Nat):Prop:=b=k.block∨sg.blk b∨b=m∨sl.blk b
def qK (w:World) (k p:Addr) (G:List Int) (S:List Sp.Way) (F:NP):Prop:=∃sg m sl,KnowS w k p G S (Sp.vA S) sg m sl∧∀b,F b↔KF k sg m sl b
section
variable {w w':World} {k p:Addr} {G:List Int} {S:List Sp.Way} {ks:List Int} {sg sl:Sl} {m:Nat} {F:NP}
theorem KnowS.ext {X:NP} (h:KnowS w k p G S ks sg m sl) (hE:Ext X w w') (hd:∀b,KF k sg m sl b→¬ X b):KnowS w' k p G S ks sg m sl :=
 ⟨h.box.ext hE (hd _ (.inl rfl)),h.giv.ext hE (fun b hb=>hd _ (.inr (.inl hb))),h.seen.ext hE (hd _ (.inr (.inr (.inl rfl)))),h.list.ext hE (fun b hb=>hd _ (.inr (.inr (.inr hb)))),h.n1,h.n2,h.n3,h.n4,h.n5,h.n6⟩
theorem KnowS.pure (h:KnowS w k p G S ks sg m sl) (hE:Pure w w'):KnowS w' k p G S ks sg m sl:=h.ext hE (fun _ _ h=>h)
theorem KnowS.lt (h:KnowS w k p G S ks sg m sl) {b:Nat} (hb:KF k sg m sl b):b<w.heap.size:=by
 rcases hb with rfl | hb | rfl | hb
 ·exact h.box.lt
 ·exact h.giv.lt hb
 ·exact h.seen.lt
 ·exact h.list.lt hb
theorem qK.ext {X:NP} (h:qK w k p G S F) (hE:Ext X w w') (hd:∀b,F b→¬ X b):qK w' k p G S F:=by
 obtain ⟨sg,m,sl,h,hF⟩:=h;exact ⟨sg,m,sl,h.ext hE (fun b hb=>hd b ((hF b).2 hb)),hF⟩
theorem qK.pure (h:qK w k p G S F) (hE:Pure w w'):qK w' k p G S F:=h.ext hE (fun _ _ h=>h)
theorem qK.lt (h:qK w k p G S F) {b:Nat} (hb:F b):b<w.heap.size:=by
 obtain ⟨sg,m,sl,h,hF⟩:=h;exact h.lt ((hF b).1 hb)
theorem KnowS.look (h:KnowS w k p G S ks sg m sl) (t:Int):∃r f:Int,(Instr.lookup 210 (.map (some m)) (.int .i64 t) true).run Tryz.prog w=.ok (.tuple #[.agg #[.int .i64 r,.int .i64 f],.bool (decide (t∈Sp.vA S))]) w∧(t∈Sp.vA S→SE.look (jOM S) t=some (r,f)):=by
 rcases h.seen.get (P:=Tryz.prog) (T:=210) Tryz.underlying210 Tryz.underlying78 (Tryz.zeroValue235 _) t true with ⟨h1,h2⟩ | ⟨⟨r,f⟩,h1,h2⟩
 ·have hn:t ∉ Sp.vA S:=by have:=jAZ.1 h1;rwa [jCL] at this
  exact ⟨0,0,by rw [decide_eq_false hn];exact h2,fun h=>absurd h hn⟩
 ·have hy : t ∈ Sp.vA S := by
   have:=jEY h1;rw [← jCL];exact List.mem_map.2 ⟨_,this,rfl⟩
  exact ⟨r,f,by rw [decide_eq_true hy];exact h2,fun _=>h1⟩
theorem KnowS.put (h:KnowS w k p G S ks sg m sl) {v:Sp.Way} (hn:v.t ∉ Sp.vA S):∃w',(Instr.mapUpdate 210 (.map (some m)) (.int .i64 v.t) (.agg #[.int .i64 v.rule,.int .i64 v.frm])).run Tryz.prog w=.ok () w'∧KnowS w' k p G (S++[v]) ks sg m sl∧Ext (·=m) w w':=by
 obtain ⟨w',h1,h2,h3⟩:=h.seen.put (P:=Tryz.prog) (T:=210) (K:=78) Tryz.underlying210 Tryz.underlying78 (k:=v.t) (jAZ.2 (by rw [jCL];exact hn)) (v.rule,v.frm);exact ⟨w',h1,⟨h.box.ext h3 (fun e=>h.n1 e.symm),h.giv.ext h3 (fun b hb e=>h.n4 (e▸hb)),by rw [jKM];exact h2,h.list.ext h3 (fun b hb e=>h.n5 (e▸hb)),h.n1,h.n2,h.n3,h.n4,h.n5,h.n6⟩,h3⟩
theorem KnowS.app (h:KnowS w k p G S ks sg m sl) {t:Int} {q:Addr} {w1:World} (hq:New w (.cells #[.int .i64 t] 78) q w1) (hn:ks.length≤1000000):∃s1 w2,(Builtin.append_ #[46,46] 46 #[sl.v,(Sl.mk (some q) 1 1).v]).run Tryz.prog w1=.ok s1.v w2∧Ext sl.blk w1 w2∧Box w2 k [.pointer (some p),sg.v,.map (some m),sl.v] 212 ∧
  KnowS (w2.setCell (k.add 3) s1.v) k p G S (ks++[t]) sg m s1∧Ext (KF k sg m sl) w (w2.setCell (k.add 3) s1.v)∧∀b,KF k sg m s1 b→KF k sg m sl b∨w.heap.size≤b:=by
 have E1:Pure w w1:=Ext.new hq
 have h1:=h.pure E1
 obtain ⟨s1,w2,hr,hR,hE,hb⟩:=h1.list.append (P:=Tryz.prog) (ty:=46) (c:=1) jDZ (r:=[.int .i64 t]) (Box.of_new hq).row rfl rfl (by rw [qF];omega) (by rw [qF];simp [maxLen];omega)
 have hbx:=h1.box.ext hE h1.n3
 have hs1:∀b,s1.blk b→sl.blk b∨w.heap.size≤b:=fun b h=>(hb b h).imp_right (fun h=>by have:=E1.size;omega)
 have nk:¬ s1.blk k.block:=fun hh=>(hs1 _ hh).elim h.n3 (fun hh=>by have:=h.box.lt;omega)
 have nm:¬ s1.blk m:=fun hh=>(hs1 _ hh).elim h.n5 (fun hh=>by have:=h.seen.lt;omega)
 have E3:=Ext.setCell (w:=w2) (k.add 3) s1.v
 rw [zX] at E3
 refine ⟨s1,w2,hr,hE,hbx,⟨hbx.set 3 s1.v,((h1.giv.ext hE h.n6).ext E3 (fun b hb e=>h.n2 (e▸hb))),((h1.seen.ext hE h.n5).ext E3 h.n1),by rw [show tmr (ks++[t])=tmr ks++[[.int .i64 t]] by simp [tmr]];exact hR.ext E3 (fun b hb e=>nk (e▸hb)),h.n1,h.n2,nk,h.n4,nm,fun b h1 h2=>(hs1 b h2).elim (h.n6 b h1) (fun hh=>by have:=h.giv.lt h1;omega)⟩,?_,?_⟩
 ·exact ((E1.pure (F:=KF k sg m sl)).trans (hE.mono (fun b _ hb=>.inr (.inr (.inr hb))))).trans (E3.mono (fun b _ hb=>.inl hb))
 ·rintro b (hb | hb | hb | hb)
  ·exact .inl (.inl hb)
  ·exact .inl (.inr (.inl hb))
  ·exact .inl (.inr (.inr (.inl hb)))
  ·exact (hs1 b hb).imp_left (fun h=>.inr (.inr (.inr h)))
end
theorem jMC (p:Addr) (w0:World):Calls Tryz.prog 62 #[.pointer (some p)] w0 (fun e w'=>∃r:Option Addr,e=.returned (.pointer r)∧∃k F,r=some k∧qK w' k p [] [] F∧Pure w0 w'∧∀b,F b→w0.heap.size≤b):=by
 refine w_S3 _ w0 (fun r w'=>∃k F,r=some k∧qK w' k p [] [] F∧Pure w0 w'∧∀b,F b→w0.heap.size≤b) ?_;unfold m_S3;refine Br.f rfl ?_;intro p2 w1 h1 p3 w2 h2;have E1:Pure w0 w1:=Ext.new h1;have E2:Pure w1 w2:=Ext.new h2;have hnil:∀b,¬ Sl.nil.blk b:=fun b hb=>by obtain ⟨a,h,_⟩:=hb;cases h
 refine ⟨p3,_,rfl,⟨Sl.nil,p2.block,Sl.nil,⟨Box.of_new h2,Rws.nil _ _ _,(IMap.of_new (f:=wayv) h1).pure E2,Rws.nil _ _ _,?_,hnil _,hnil _,hnil _,hnil _,fun b hb=>(hnil b hb).elim⟩,fun b=>Iff.rfl⟩,E1.trans E2,?_⟩
 ·have:=h1.at_size;have:=h2.at_size;have:=E1.size;have:=(IMap.of_new (f:=wayv) h1).lt;omega
 ·rintro b (rfl | hb | rfl | hb)
  ·have:=h2.at_size;have:=E1.size;omega
  ·exact (hnil b hb).elim
  ·have:=h1.at_size;omega
  ·exact (hnil b hb).elim
theorem jIE.at' {P:Program} {gf:FuncId} {lb:Array Value} {α:Type} {encs:α→Array Value} {xs:List α} {Rd:WP} {w w1:World} (h:jIE P gf lb encs xs Rd w) (E:Pure w w1):jIE P gf lb encs xs Rd w1 :=
 fun l J Jx W hW=>h l J Jx W (E.trans hW)
theorem jLJ {S:NP} {pc:Addr} {s:Sl} {xs:List Int} {w0:World} (hB:Box w0 pc [s.v] 46) (hn:xs.length≤1000000) :
  jIE Tryz.prog 208 #[.pointer (some pc)] (fun z:Int=>#[.int .i64 z]) xs (fun A=>Lst S A 1 s (tmr xs)) w0:=by
 intro l J Jx W E hRd hJ hJx hyield h0
 refine (w_T1 (.func (.yield l) #[] #[]) pc W (fun A=>∃X,Hst W X A X A∧(J xs X A∨∃pre,Jx pre X A)) ?_).mono (fun e A h=>⟨⟨_,h.1⟩,h.2⟩)
 unfold m_T1
 refine ⟨s,(hB.pure E).cell0,fun x A=>∃j:Nat,x=j∧j≤xs.length∧Hst W None A None A∧J (xs.take j) None A,fun x _=>((xs.length:Int) - x).toNat,⟨0,rfl,Nat.zero_le _,Hst.start W,h0⟩,?_⟩
 rintro _ A ⟨j,rfl,hj,hA,hJA⟩
 unfold m_T1_l1
 have hR:=hRd _ _ _ hJA
 have hlen:s.len=xs.length:=by rw [hR.len,qF]
 refine ⟨fun hc=>?_,fun hc=>?_⟩
 ·have hc:=vS hlen hc
  obtain ⟨a,hat,_,hv⟩:=jAC hR hc
  refine ⟨a,hat,_,hv,l,rfl,?_⟩
  refine (hyield (xs.take j) xs[j] _ A hJA hA ⟨xs.drop (j+1),by rw [← List.drop_eq_getElem_cons hc,List.take_append_drop]⟩).mono ?_
  rintro e A' (⟨rfl,hk,hJ'⟩ | ⟨rfl,hk,hJ'⟩)
  ·refine ⟨_,rfl,Br.f rfl ⟨⟨j+1,zZ hc (by omega),hc,hA.again hk,by rw [List.take_succ_eq_append_getElem hc];exact hJ'⟩,?_⟩⟩
   rw [zZ hc (by omega)]
   exact qX hc
  ·exact ⟨_,rfl,Br.t rfl ⟨_,hA.again hk,.inr ⟨_,hJ'⟩⟩⟩
 ·have hc:=vT hlen hj hc
  subst hc
  rw [List.take_length] at hJA
  exact ⟨_,hA,.inl hJA⟩
theorem jHZ {S:NP} {pc:Addr} {s:Sl} {xs:List Int} (w0:World) (hB:Box w0 pc [s.v] 46) (hL:Lst S w0 1 s (tmr xs)) (hS:∀b,S b→b<w0.heap.size) (hn:xs.length≤1000000) :
  Calls Tryz.prog 283 #[Sl.nil.v,.func (.func 208) #[] #[.pointer (some pc)]] w0 (fun e w'=>∃r:Sl,e=.returned r.v∧RetO w0 78 1 (tmr xs) r w'):=by
 refine w_R3 _ _ w0 (fun r w'=>RetO w0 78 1 (tmr xs) r w') ?_
 unfold m_R3
 have hnil:∀b,¬ Sl.nil.blk b:=fun b hb=>by obtain ⟨a,h,_⟩:=hb;cases h
 intro p1 w1 h1
 have E1:Pure w0 w1:=Ext.new h1
 have s1:=h1.at_size
 have B1:=Box.of_new h1
 have l1:=B1.lt
 refine ⟨_,_,rfl,Tryz.call208,xs,_,jIE.at' (jLJ (S:=S) hB hn) E1,?_⟩
 refine ⟨fun pre Y A=>∃so:Sl,Box A p1 [so.v] 46∧Rws A 78 1 so (tmr pre)∧Lst S A 1 s (tmr xs)∧Pure w0 A∧(∀b,so.blk b→w1.heap.size≤b∧¬ Y b)∧¬ Y p1.block∧w1.heap.size≤A.heap.size,⟨?_,?_,fun _ _ _ _ _ h=>h.elim,fun _ _ _ _ _ h=>h.elim⟩,?_,?_,?_⟩
 ·rintro pre Y A ⟨so,_,_,h,_⟩;exact h
 ·rintro pre Y A Y' A' ⟨so,b1,hR,hl,hE,ho,hp,hz⟩ hs
  have d1:¬ Y' p1.block:=hs.disj (G:=(·=p1.block)) (fun b e=>by subst e;exact ⟨b1.lt,hp⟩) _ rfl
  have d2:∀b,so.blk b→¬ Y' b:=hs.disj (G:=so.blk) (fun b hb=>⟨hR.lt hb,(ho b hb).2⟩)
  exact ⟨so,b1.ext hs.ext d1,hR.ext hs.ext d2,hl.hst hs hS,hE.hst hs,fun b hb=>⟨(ho b hb).1,d2 b hb⟩,d1,Nat.le_trans hz hs.ext.size⟩
 ·exact ⟨Sl.nil,B1,Rws.nil _ _ _,hL.pure E1,E1,fun b hb=>(hnil b hb).elim,id,Nat.le_refl _⟩
 ·rintro pre z Y A ⟨so,b1,hR,hl,hE,ho,hp,hz⟩ hsA ⟨post,hpost⟩
  have hpl:pre.length<xs.length:=by rw [hpost];simp
  refine ⟨so,b1.cell0,?_⟩
  intro p2 w2 h2
  have E2:Pure A w2:=Ext.new h2
  obtain ⟨s2,w3,hr3,R3,X3,f3⟩:=(hR.pure E2).append (P:=Tryz.prog) (ty:=46) (c:=1) jDZ (r:=[.int .i64 z]) (Box.of_new h2).row rfl rfl (by rw [qF];omega) (by rw [qF];simp [maxLen];omega)
  have d1:¬ so.blk p1.block:=fun hb=>by have:=(ho _ hb).1;omega
  have b3:=(b1.pure E2).ext X3 d1
  have z2:=E2.size;have z3:=X3.size
  have hk3:Kept None w2 w3:=X3.kept (fun b hb=>hb.elim)
  refine ⟨s2,w3,hr3,hk3,b3.canW0 (by simp),id,fun w4 h4=>?_⟩
  have E4:Ext (·=p1.block) w3 w4:=by rw [h4];exact Ext.setCell p1 _
  have b4:Box w4 p1 [s2.v] 46:=by rw [h4];exact b3.set0
  have o2:∀b,s2.blk b→w1.heap.size≤b:=fun b hb=>(f3 b hb).elim (fun h=>(ho b h).1) (fun h=>by omega)
  have hYlt:=hsA.lt
  have XX:Ext (fun b=>so.blk b∨b=p1.block) A w4:=((E2.pure).trans (X3.mono (fun b _ h=>.inl h))).trans (E4.mono (fun b _ h=>.inr h))
  refine ⟨XX.kept (fun b hY hb=>hb.elim (fun h=>(ho b h).2 hY) (fun h=>hp (h▸hY))),s2,b4,?_,?_,?_,fun b hb=>⟨o2 b hb,fun hY=>(f3 b hb).elim (fun h=>(ho b h).2 hY) (fun h=>by have:=hYlt b hY;omega)⟩,hp,by have:=E4.size;omega⟩
  ·rw [show tmr (pre++[z])=tmr pre++[[.int .i64 z]] by simp [tmr]]
   exact R3.ext E4 (fun b hb e=>by have:=o2 b hb;omega)
  ·exact hl.ext XX (fun b hb h=>by have:=hS b hb;rcases h with h | h;(· have:=(ho b h).1;have:=E1.size;omega);(· omega))
  ·exact hE.trans' XX (fun i hi hb=>by rcases hb with h | h;(· have:=(ho i h).1;have:=E1.size;omega);(· omega))
 ·rintro H1 w5 hs5 _ _ ⟨so,b1,hR,hl,hE,ho,hp,hz⟩
  refine ⟨so,b1.cell0,fun w6 hs6=>⟨hR.ext hs6.ext (hs6.disj (G:=so.blk) (fun b hb=>⟨hR.lt hb,(ho b hb).2⟩)),fun b hb=>by have:=(ho b hb).1;have:=E1.size;omega,hE.hst hs6⟩⟩
theorem jME {S:NP} {pc:Addr} {s:Sl} {xs:List Int} (w0:World) (hB:Box w0 pc [s.v] 46) (hL:Lst S w0 1 s (tmr xs)) (hS:∀b,S b→b<w0.heap.size) (hn:xs.length≤1000000) :
  Calls Tryz.prog 152 #[.func (.func 208) #[] #[.pointer (some pc)]] w0 (fun e w'=>∃r:Sl,e=.returned r.v∧∃l,RetO w0 78 1 (tmr l) r w'∧l.Perm xs∧l.Pairwise (·≤·)):=by
 refine w_P3 _ w0 (fun r w'=>∃l,RetO w0 78 1 (tmr l) r w'∧l.Perm xs∧l.Pairwise (·≤·)) ?_
 unfold m_P3
 refine (w_O3 _ w0 (fun r w'=>RetO w0 78 1 (tmr xs) r w') ?_).mono ?_
 ·unfold m_O3
  refine (jHZ w0 hB hL hS hn).mono ?_
  rintro _ w1 ⟨r,rfl,hr⟩
  exact ⟨r,rfl,hr⟩
 ·rintro _ w1 ⟨r,rfl,hr⟩
  refine ⟨r,rfl,?_⟩
  refine (c_Sort r xs w1 hr.rows hn).mono ?_
  rintro _ w2 ⟨rfl,l,hl,hx,hp,hs⟩
  exact ⟨rfl,l,⟨hl,hr.own,hr.pure.trans' hx (fun i hi hb=>by have:=hr.own i hb;omega)⟩,hp,hs⟩
theorem jJZ (k p:Addr) (w0:World) {G:List Int} {W:List Sp.Way} {F:NP} (h:qK w0 k p G W F) (hn:(Sp.vA W).length≤1000000) :
  Calls Tryz.prog 80 #[.pointer (some k)] w0 (fun e w'=>∃r:Sl,e=.returned r.v∧∃l,RetO w0 78 1 (tmr l) r w'∧l.Perm (Sp.vA W)∧l.Pairwise (·≤·)):=by
 refine w_T3 _ w0 (fun r w'=>∃l,RetO w0 78 1 (tmr l) r w'∧l.Perm (Sp.vA W)∧l.Pairwise (·≤·)) ?_
 unfold m_T3
 obtain ⟨sg,m,sl,h,hF⟩:=h
 refine Br.f rfl ⟨k,rfl,sl,h.box.cell rfl,?_⟩
 refine (w_Q3 sl w0 (fun r w'=>∃p1,r=.func (.func 208) #[] #[.pointer (some p1)]∧Box w' p1 [sl.v] 46∧Pure w0 w') ?_).mono ?_
 ·unfold m_Q3
  intro p1 w1 h1
  exact ⟨p1,rfl,Box.of_new h1,Ext.new h1⟩
 ·rintro _ w1 ⟨r,rfl,p1,rfl,B1,E1⟩
  refine ⟨_,rfl,?_⟩
  refine (jME (S:=sl.blk) w1 B1 (h.list.pure E1).lst (fun b hb=>(h.list.pure E1).lt hb) hn).mono ?_
  rintro _ w2 ⟨r2,rfl,l,hl,hp,hs⟩
  exact ⟨r2,rfl,l,⟨hl.rows,fun b hb=>by have:=hl.own b hb;have:=E1.size;omega,E1.trans hl.pure⟩,hp,hs⟩
section
variable {w w':World} {k p:Addr} {G:List Int} {S:List Sp.Way} {F:NP}
theorem qK.hst {w0:World} {H H':NP} (h:qK w k p G S F) (hs:Hst w0 H w H' w') (hd:∀b,F b→¬ H b):qK w' k p G S F∧∀b,F b→¬ H' b:=by
 have hd':=hs.disj (G:=F) (fun b hb=>⟨h.lt hb,hd b hb⟩);exact ⟨h.ext hs.ext hd',hd'⟩
end
theorem jAO (k p:Addr) (t rule u:Int) (c1 c2:Addr) (w0:World) {G:List Int} {S:List Sp.Way} {F:NP} (h:qK w0 k p G S F) (h1:w0.cell? c1=some (.pointer (some k))) (h2:w0.cell? c2=some (.int .i64 u)) (d1:¬ F c1.block) (d2:¬ F c2.block) (hn:S.length≤1000000) :
  Calls Tryz.prog 205 #[.int .i64 t,.int .i64 rule,.pointer (some c1),.pointer (some c2)] w0 (fun e w'=>e=.returned (.tuple #[])∧∃F',qK w' k p G (Sp.tF S ⟨t,rule,u⟩) F'∧Ext F w0 w'∧∀b,F' b→F b∨w0.heap.size≤b):=by
 refine w_U3 _ _ _ _ w0 (fun w'=>∃F',qK w' k p G (Sp.tF S ⟨t,rule,u⟩) F'∧Ext F w0 w'∧∀b,F' b→F b∨w0.heap.size≤b) ?_
 unfold m_U3
 have hA:=h
 obtain ⟨sg,m,sl,h,hF⟩:=h
 obtain ⟨r,f,hl,_⟩:=h.look t
 refine ⟨_,h1,k,rfl,_,h.box.cell rfl,r,f,_,hl,fun hc=>?_,fun hc=>?_⟩
 ·have hnt:t ∉ Sp.vA S:=by simpa using hc
  have hadd:Sp.tF S ⟨t,rule,u⟩=S++[⟨t,rule,u⟩]:=if_neg hnt
  rw [hadd]
  intro H1 w2 hs2
  have E2:=hs2.first
  have hh:∀{b},b<w0.heap.size→¬ H1 b:=fun hb hx=>by have:=hs2.old _ hx;omega
  have E3:Pure w0 w2.drew:=E2.trans (Ext.drew w2)
  have D4:∀w4:World,Pure w4 w4.drew:=fun w4=>Ext.drew w4
  have c1lt:=World.block_lt_of_cell? w0 c1 h1
  refine ⟨fun w'=>KnowS w' k p G S (Sp.vA S) sg m sl∧w'.cell? c1=some (.pointer (some k))∧w'.cell? c2=some (.int .i64 u),⟨h.pure E3,E3.cell h1 (fun h=>h),E3.cell h2 (fun h=>h)⟩,?_⟩
  rintro _ rfl
  have h3:=h.pure E3
  refine ⟨_,fun w' h=>h.2.1,k,rfl,_,fun w' h=>h.1.box.cell rfl,_,fun w' h=>h.2.2,?_⟩
  obtain ⟨w4,hr4,h4,E4⟩:=h3.put (v:=⟨t,rule,u⟩) hnt
  refine ⟨w4,hr4,E4.kept (fun b hb e=>by subst e;exact hh (h.lt (.inr (.inr (.inl rfl)))) hb),?_⟩
  have c14:w4.cell? c1=some (.pointer (some k)):=E4.cell (E3.cell h1 (fun h=>h)) (fun e=>d1 ((hF _).2 (.inr (.inr (.inl e)))))
  have h5:=h4.pure (Ext.drew w4)
  refine ⟨fun w'=>w'.cell? c1=some (.pointer (some k))∧Box w' k [.pointer (some p),sg.v,.map (some m),sl.v] 212,⟨(D4 w4).cell c14 (fun h=>h),h5.box⟩,?_⟩
  rintro _ rfl
  refine ⟨_,fun w' h=>h.1,_,fun w' h=>h.1,k,rfl,sl,fun w' h=>h.2.cell rfl,?_⟩
  intro q w6 h6
  have E6:Pure w4.drew w6:=Ext.new h6
  refine ⟨⟨E6.cell ((D4 w4).cell c14 (fun h=>h)) (fun h=>h),h5.box.pure E6⟩,?_⟩
  obtain ⟨s1,w7,hr7,X7,b7,k7,E7,f7⟩:=h5.app h6 (by rw [Sp.uE];exact hn)
  have c17:w7.cell? c1=some (.pointer (some k)):=X7.cell (E6.cell ((D4 w4).cell c14 (fun h=>h)) (fun h=>h)) (fun hb=>d1 ((hF _).2 (.inr (.inr (.inr hb)))))
  refine ⟨s1,w7,hr7,⟨c17,b7⟩,X7.kept (fun b hb hx=>hh (h.lt (.inr (.inr (.inr hx)))) hb),k,rfl,b7.canW (by simp),by rw [zX];exact hh h.box.lt,?_⟩
  rintro _ rfl
  rw [← show Sp.vA (S++[⟨t,rule,u⟩])=Sp.vA S++[t] from Sp.uO S ⟨t,rule,u⟩] at k7
  have e4:w0.heap.size≤w4.drew.heap.size:=Nat.le_trans E3.size (Nat.le_trans E4.size (D4 w4).size)
  refine ⟨_,⟨sg,m,s1,k7,fun b=>Iff.rfl⟩,?_,fun b hb=>(f7 b hb).imp (hF b).2 (fun h=>by omega)⟩
  refine ((E3.pure (F:=F)).trans (E4.mono (fun b _ e=>(hF b).2 (.inr (.inr (.inl e)))))).trans (((Ext.drew w4:Pure w4 w4.drew).pure (F:=F)).trans (E7.mono (fun b _ hb=>(hF b).2 hb)))
 ·have hnt:t∈Sp.vA S:=by simpa using hc
  have hadd:Sp.tF S ⟨t,rule,u⟩=S:=if_pos hnt
  rw [hadd]
  intro H1 w2 hs2
  exact ⟨F,hA.pure hs2.first,hs2.first.pure,fun b hb=>.inl hb⟩
structure SeesAt (w0:World) (H:NP) (w:World) (k p p1:Addr) (L:Sp.Pool) (G:List Int) (S:List Sp.Way) (F F0 FP:NP):Prop where
 know:qK w k p G S F
 pool:vE w p L FP
 cap:w.cell? p1=some (.pointer (some k))
 ext:Ext F0 w0 w
 own:∀b,F b→F0 b∨w0.heap.size≤b
 h1:∀b,F b→¬ H b
 h2:∀b,FP b→¬ H b
 h3:¬ H p1.block
 d1:¬ F p1.block
 d2:∀b,F b→¬ FP b
section
variable {w0 w w':World} {H H':NP} {k p p1:Addr} {L:Sp.Pool} {G:List Int} {S S':List Sp.Way} {F F' F0 FP:NP}
theorem SeesAt.pure (h:SeesAt w0 H w k p p1 L G S F F0 FP) (E:Pure w w'):SeesAt w0 H w' k p p1 L G S F F0 FP :=
 ⟨h.know.pure E,h.pool.pure E,E.cell h.cap (fun h=>h),h.ext.thenPure E,h.own,h.h1,h.h2,h.h3,h.d1,h.d2⟩
theorem SeesAt.hst (h:SeesAt w0 H w k p p1 L G S F F0 FP) (hs:Hst w0 H w H' w'):SeesAt w0 H' w' k p p1 L G S F F0 FP:=by
 have x1:=hs.disj (G:=F) (fun b hb=>⟨h.know.lt hb,h.h1 b hb⟩);have x2:=hs.disj (G:=FP) (fun b hb=>⟨h.pool.lt hb,h.h2 b hb⟩);have x3:=hs.disj (G:=(·=p1.block)) (fun b hb=>by subst hb;exact ⟨World.block_lt_of_cell? w p1 h.cap,h.h3⟩) _ rfl;exact ⟨h.know.ext hs.ext x1,h.pool.ext hs.ext x2,hs.ext.cell h.cap x3,h.ext.trans' hs.ext (fun i hi hb=>by have:=hs.old i hb;omega),h.own,x1,x2,x3,h.d1,h.d2⟩
theorem SeesAt.fresh (h:SeesAt w0 H w k p p1 L G S F F0 FP) {q:Nat} (E:Ext (·=q) w w') (q1:¬ F q) (q2:¬ FP q) (q3:q≠p1.block) (q4:w0.heap.size≤q):SeesAt w0 H w' k p p1 L G S F F0 FP :=
 ⟨h.know.ext E (fun b hb e=>q1 (e▸hb)),h.pool.ext E (fun b hb e=>q2 (e▸hb)),E.cell h.cap (fun e=>q3 e.symm),h.ext.trans' E (fun i hi e=>by subst e;omega),h.own,h.h1,h.h2,h.h3,h.d1,h.d2⟩
theorem SeesAt.step (h:SeesAt w0 H w k p p1 L G S F F0 FP) (hH:∀b,H b→b<w.heap.size) (hK:qK w' k p G S' F') (E:Ext F w w') (hF:∀b,F' b→F b∨w.heap.size≤b):SeesAt w0 H w' k p p1 L G S' F' F0 FP:=by
 have hb:=h.ext.size;refine ⟨hK,h.pool.ext E (fun b hb hf=>h.d2 b hf hb),E.cell h.cap h.d1,h.ext.trans' E (fun i hi hf=>(h.own i hf).elim id (fun hh=>by omega)),fun b hb=>?_,fun b hb hh=>?_,h.h2,h.h3,fun hh=>?_,fun b hb hh=>?_⟩
 ·rcases hF b hb with h1 | h1
  ·exact h.own b h1
  ·right;omega
 ·rcases hF b hb with h1 | h1
  ·exact h.h1 b h1 hh
  ·have:=hH b hh;omega
 ·rcases hF _ hh with h1 | h1
  ·exact h.d1 h1
  ·have:=World.block_lt_of_cell? w p1 h.cap;omega
 ·rcases hF b hb with h1 | h1
  ·exact h.d2 b h1 hh
  ·have:=h.pool.lt hh;omega
end
theorem jJY (k p:Addr) (t rule frm:Int) (w0:World) {L:Sp.Pool} {G:List Int} {S:List Sp.Way} {F FP:NP} (h:qK w0 k p G S F) (hP:vE w0 p L FP) (hW:Sp.Wf L) (hd:∀b,F b→¬ FP b)
  (hwo:Sp.WaysOk L G S) (hcl:∀u∈Sp.vA S,Sp.jDR L S u) (ht:Sp.inP L t=true) (hv:Sp.jIC L G S ⟨t,rule,frm⟩) :
  Calls Tryz.prog 151 #[.pointer (some k),.int .i64 t,.agg #[.int .i64 rule,.int .i64 frm]] w0 (fun e w'=>e=.returned (.tuple #[])∧∃S' F',qK w' k p G S' F'∧(Sp.WaysOk L G S'∧(∀u∈Sp.vA S',Sp.jDR L S' u)∧t∈Sp.vA S'∧∀u∈Sp.vA S,u∈Sp.vA S')∧Ext F w0 w'∧∀b,F' b→F b∨w0.heap.size≤b):=by
 suffices key:∀K:WP,(∀S' F' w',qK w' k p G S' F'→(Sp.WaysOk L G S'∧(∀u∈Sp.vA S',Sp.jDR L S' u)∧t∈Sp.vA S'∧∀u∈Sp.vA S,u∈Sp.vA S')→Ext F w0 w'→(∀b,F' b→F b∨w0.heap.size≤b)→K w')→m_Q (some k) t rule frm w0 K from
  w_Q _ _ _ _ w0 _ (key _ (fun S' F' w' a b c d=>⟨S',F',a,b,c,d⟩))
 intro K hK
 unfold m_Q
 intro p1 w1 h1 H1 w2 hs2
 have hp1:=h1.at_size
 have E1:Pure w0 w1:=Ext.new h1
 have nF:∀{b},F b→b<w0.heap.size:=fun hb=>h.lt hb
 have nP:∀{b},FP b→b<w0.heap.size:=fun hb=>hP.lt hb
 have A1:SeesAt w0 None w1 k p p1 L G S F F FP:=⟨h.pure E1,hP.pure E1,(Box.of_new h1).cell0,E1.pure,fun b hb=>.inl hb,fun b _ h=>h,fun b _ h=>h,fun h=>h,fun hb=>by have:=nF hb;omega,hd⟩
 have A2:=A1.hst hs2
 obtain ⟨sg,m,sl,k2,hF2⟩:=A2.know
 obtain ⟨r,f,hl,_⟩:=k2.look t
 refine ⟨_,A2.cap,k,rfl,_,k2.box.cell rfl,r,f,_,hl,fun hc=>?_,fun hc=>?_⟩
 ·intro H2 w4 hs4
  have A4:=A2.hst hs4
  exact hK S F w4 A4.know ⟨hwo,hcl,by simpa using hc,fun _ h=>h⟩ A4.ext (fun b hb=>.inl hb)
 have hnt:t ∉ Sp.vA S:=by simpa using hc
 intro H2 w4 hs4
 have A4:=A2.hst hs4
 have k4:KnowS w4 k p G S (Sp.vA S) sg m sl:=k2.ext hs4.ext (fun b hb=>A4.h1 b ((hF2 b).2 hb))
 have D:∀w:World,Pure w w.drew:=fun w=>Ext.drew w
 refine ⟨fun w'=>w'.cell? p1=some (.pointer (some k))∧Box w' k [.pointer (some p),sg.v,.map (some m),sl.v] 212,⟨(A4.pure (D w4)).cap,(k4.pure (D w4)).box⟩,?_⟩
 rintro _ rfl
 have A5:=A4.pure (D w4)
 have k5:=k4.pure (D w4)
 have hs5:Hst w0 H2 w4.drew H2 w4.drew:=hs4.here.again (D w4).keptP
 refine ⟨_,fun w' h=>h.1,k,rfl,_,fun w' h=>h.2.cell rfl,?_⟩
 obtain ⟨w6,hr6,k6,E6⟩:=k5.put (v:=⟨t,rule,frm⟩) hnt
 have hm:¬ H2 m:=A5.h1 m ((hF2 m).2 (.inr (.inr (.inl rfl))))
 refine ⟨w6,hr6,E6.kept (fun b hb e=>hm (e▸hb)),?_⟩
 have c16:w6.cell? p1=some (.pointer (some k)):=E6.cell A5.cap (fun e=>A5.d1 ((hF2 _).2 (.inr (.inr (.inl e)))))
 refine ⟨_,c16,k,rfl,sl,k6.box.cell rfl,?_⟩
 have k7:=k6.pure (D w6)
 have c17:w6.drew.cell? p1=some (.pointer (some k)):=(D w6).cell c16 (fun h=>h)
 refine ⟨fun w'=>w'.cell? p1=some (.pointer (some k))∧Box w' k [.pointer (some p),sg.v,.map (some m),sl.v] 212,⟨c17,k7.box⟩,?_⟩
 rintro _ rfl
 refine ⟨_,fun w' h=>h.1,_,fun w' h=>h.1,k,rfl,sl,fun w' h=>h.2.cell rfl,?_⟩
 intro q w8 h8
 have E8:Pure w6.drew w8:=Ext.new h8
 refine ⟨⟨E8.cell c17 (fun h=>h),k7.box.pure E8⟩,?_⟩
 have hSn:S.length≤65536:=by have:=hwo.few;have:=hW.ok.few;omega
 obtain ⟨s1,w9,hr9,X9,b9,k9,E9,f9⟩:=k7.app h8 (by rw [Sp.uE];omega)
 have c19:w9.cell? p1=some (.pointer (some k)):=X9.cell (E8.cell c17 (fun h=>h)) (fun hb=>A5.d1 ((hF2 _).2 (.inr (.inr (.inr hb)))))
 have hH8:∀b,H2 b→b<w4.drew.heap.size:=hs5.lt
 refine ⟨s1,w9,hr9,⟨c19,b9⟩,X9.kept (fun b hb hx=>A5.h1 b ((hF2 b).2 (.inr (.inr (.inr hx)))) hb),k,rfl,b9.canW (by simp),by rw [zX];exact A5.h1 _ ((hF2 _).2 (.inl rfl)),?_⟩
 rintro _ rfl
 rw [← show Sp.vA (S++[⟨t,rule,frm⟩])=Sp.vA S++[t] from Sp.uO S ⟨t,rule,frm⟩] at k9
 have E59:Ext F w4.drew (w9.setCell (k.add 3) s1.v):=(E6.mono (fun b _ e=>(hF2 b).2 (.inr (.inr (.inl e))))).trans (((D w6).pure (F:=F)).trans (E9.mono (fun b _ hb=>(hF2 b).2 hb)))
 have z6:w4.drew.heap.size≤w6.drew.heap.size:=Nat.le_trans E6.size (D w6).size
 have A10:SeesAt w0 H2 (w9.setCell (k.add 3) s1.v) k p p1 L G (S++[⟨t,rule,frm⟩]) (KF k sg m s1) F FP:=A5.step hH8 ⟨sg,m,s1,k9,fun b=>Iff.rfl⟩ E59 (fun b hb=>(f9 b hb).imp (hF2 b).2 (fun h=>by omega))
 have hw1:Sp.WaysOk L G (S++[⟨t,rule,frm⟩]):=hwo.snoc hnt ht hv
 have hl2:sl.len=S.length:=by rw [k2.list.len,qF,Sp.uE]
 refine ⟨fun i H w'=>∃(j:Nat) (Sj:List Sp.Way) (Fj:NP),i=j∧j≤Sj.length∧SeesAt w0 H w' k p p1 L G Sj Fj F FP∧Sp.WaysOk L G Sj∧(∀u∈Sp.vA (Sj.take j),Sp.jDR L Sj u)∧t∈Sp.vA Sj∧∀u∈Sp.vA S,u∈Sp.vA Sj,fun i _=>((L.length:Int) - i).toNat,
  ⟨S.length,_,_,by rw [hl2],by simp,A10,hw1,fun u hu=>by rw [List.take_left] at hu;exact (hcl u hu).snoc,by rw [Sp.uO];simp,fun u hu=>by rw [Sp.uO];exact List.mem_append_left _ hu⟩,?_⟩
 rintro _ Hl wl hl ⟨j,Sj,Fj,rfl,hj,A,hwj,hcj,htj,hSj⟩
 unfold m_Q_l1
 obtain ⟨tg,mj,tl,kj,hFj⟩:=A.know
 have hlj:tl.len=Sj.length:=by rw [kj.list.len,qF,Sp.uE]
 refine ⟨_,A.cap,k,rfl,tl,kj.box.cell rfl,fun hc=>?_,fun hc=>?_⟩
 ·have hlt:=vS hlj hc
  obtain ⟨a8,at8,_,c8⟩:=jAC kj.list.lst (j:=j) (by rw [Sp.uE];exact hlt)
  have hu:(Sp.vA Sj)[j]'(by rw [Sp.uE];exact hlt)=Sj[j].t:=by simp [Sp.vA]
  rw [hu] at c8
  have hum:Sj[j].t∈Sp.vA Sj:=List.mem_map.2 ⟨_,List.getElem_mem hlt,rfl⟩
  have hui:=hwj.inp _ hum
  have hLn:Sj.length≤L.length:=hwj.few
  have hL6:=hW.ok.few
  have htk:Sp.vA (Sj.take (j+1))=Sp.vA (Sj.take j)++[Sj[j].t]:=by rw [List.take_succ_eq_append_getElem hlt,Sp.uO]
  generalize Sj[j].t=u at *
  refine ⟨_,A.cap,k,rfl,tl,kj.box.cell rfl,a8,at8,u,c8,?_⟩
  intro p5 w11 h11
  have hp5:=h11.at_size
  have E11:Pure wl w11:=Ext.new h11
  have b5:=Box.of_new h11
  have hnh5:¬ Hl p5.block:=fun hh=>by have:=hl.lt _ hh;omega
  refine ⟨b5.canW0 (by simp),hnh5,?_⟩
  rintro _ rfl
  have b12:=b5.set0 (v:=.int .i64 u)
  have E12:=Ext.setCell (w:=w11) p5 (.int .i64 u)
  have wl0:=A.ext.size
  have n5:¬ Fj p5.block:=fun hh=>by have:=A.know.lt hh;omega
  have n5p:¬ FP p5.block:=fun hh=>by have:=A.pool.lt hh;omega
  have n51:p5.block≠p1.block:=fun hh=>by have:=World.block_lt_of_cell? wl p1 A.cap;omega
  have A12:SeesAt w0 Hl (w11.setCell p5 (.int .i64 u)) k p p1 L G Sj Fj F FP:=(A.pure E11).fresh E12 n5 n5p n51 (by omega)
  have k12:KnowS (w11.setCell p5 (.int .i64 u)) k p G Sj (Sp.vA Sj) tg mj tl:=(kj.pure E11).ext E12 (fun b hb e=>n5 (e▸(hFj b).2 hb))
  have hl12:Hst w0 Hl (w11.setCell p5 (.int .i64 u)) Hl (w11.setCell p5 (.int .i64 u)):=(hl.again E11.keptP).again (E12.kept (fun b hb e=>hnh5 (e▸hb)))
  generalize w11.setCell p5 (.int .i64 u)=w12 at *
  clear E11 E12 h11
  refine ⟨fun w'=>w'.cell? p1=some (.pointer (some k))∧Box w' k [.pointer (some p),tg.v,.map (some mj),tl.v] 212∧Box w' p5 [.int .i64 u] 78,⟨(A12.pure (D w12)).cap,(k12.pure (D w12)).box,b12.pure (D w12)⟩,?_⟩
  rintro _ rfl
  have A17:=A12.pure (D w12)
  have b17:=b12.pure (D w12)
  have k17:=k12.pure (D w12)
  have hs17:Hst w0 Hl w12.drew Hl w12.drew:=hl12.again (D w12).keptP
  generalize hn:Sp.zH L u=n at *
  have J2 : ∀ (a9 : Addr) (w : World), Hst w0 Hl w Hl w → SeesAt w0 Hl w k p p1 L G Sj Fj F FP → w.cell? p5 = some (.int .i64 u) → Row w a9 (jBF n) → ¬ Fj a9.block → ¬ Hl a9.block →
    m_Q_j2 p1 j p5 a9 w0 Hl w (fun y'0 H' w'=>(∃(j:Nat) (Sj:List Sp.Way) (Fj:NP),y'0=j∧j≤Sj.length∧SeesAt w0 H' w' k p p1 L G Sj Fj F FP∧Sp.WaysOk L G Sj∧(∀u∈Sp.vA (Sj.take j),Sp.jDR L Sj u)∧t∈Sp.vA Sj∧∀u∈Sp.vA S,u∈Sp.vA Sj)∧((L.length:Int) - y'0).toNat<((L.length:Int) - (j:Int)).toNat) K:=by
   intro a9 w hs Aw c5 r9 n9 nh9
   have fin : ∀ (H' : NP) (w' : World) (S' : List Sp.Way) (F' : NP), SeesAt w0 H' w' k p p1 L G S' F' F FP → Sp.WaysOk L G S' → (∃ M, S' = Sj ++ M) → Sp.jDR L S' u →
     ((∃(j':Nat) (Sj:List Sp.Way) (Fj:NP),IntKind.i64.wrap ((j:Int)+1)=j'∧j'≤Sj.length∧SeesAt w0 H' w' k p p1 L G Sj Fj F FP∧Sp.WaysOk L G Sj∧(∀u∈Sp.vA (Sj.take j'),Sp.jDR L Sj u)∧t∈Sp.vA Sj∧∀u∈Sp.vA S,u∈Sp.vA Sj)∧((L.length:Int) - IntKind.i64.wrap ((j:Int)+1)).toNat<((L.length:Int) - (j:Int)).toNat):=by
    rintro H' w' S' F' A' hw' ⟨M,rfl⟩ hsh
    have hsub:∀x∈Sp.vA Sj,x∈Sp.vA (Sj++M):=fun x hx=>by unfold Sp.vA at hx ⊢;rw [List.map_append];exact List.mem_append_left _ hx
    rw [zZ (n:=L.length) (by omega) (by omega)]
    refine ⟨⟨j+1,_,F',rfl,by rw [List.length_append];omega,A',hw',fun x hx=>?_,hsub t htj,fun x hx=>hsub x (hSj x hx)⟩,qX (by omega)⟩
    rw [List.take_append_of_le_length (by omega),htk,List.mem_append,List.mem_singleton] at hx
    rcases hx with hx | rfl
    ·exact fun r y ha=>hsub y (hcj x hx r y ha)
    ·exact hsh
   unfold m_Q_j2
   have ck:w.cell? a9=some (.int .i64 n.kind):=by simpa [Addr.add,jBF] using r9 0 (by simp [jBF])
   have ca:w.cell? (a9.add 5)=some (.int .i64 n.a):=r9 5 (by simp [jBF])
   have cb:w.cell? (a9.add 6)=some (.int .i64 n.b):=r9 6 (by simp [jBF])
   refine ⟨_,ck,fun hk=>?_,fun hk=>?_⟩
   ·have hk4:n.kind=4:=by simpa using hk
    have hkids:=Sp.jLH hW hui (by rw [hn];exact hk4)
    rw [hn] at hkids
    refine ⟨_,ca,?_⟩
    refine (jAO k p n.a 1 u p1 p5 w Aw.know Aw.cap c5 Aw.d1 (fun hh=>n5 hh) (by omega)).mono ?_
    rintro _ w13 ⟨rfl,F1,K1,X1,f1⟩
    have A1:=Aw.step hs.lt K1 X1 f1
    have hs13:=hs.again (X1.kept (fun b hb hf=>Aw.h1 b hf hb))
    refine ⟨rfl,X1.kept (fun b hb hf=>Aw.h1 b hf hb),n.b,X1.cell cb (by rw [zX];exact n9),?_⟩
    have a1:Sp.uY L 1 u n.a:=.inl ⟨rfl,by rw [hn];exact hk4,by rw [hn]⟩
    have a2:Sp.uY L 2 u n.b:=.inr (.inl ⟨rfl,by rw [hn];exact hk4,by rw [hn]⟩)
    have hw1:=hwj.add (v:=⟨n.a,1,u⟩) hkids.1.1 (.inr ⟨by simp,a1,hum⟩)
    have u1:=(Sp.uX Sj ⟨n.a,1,u⟩).2 u hum
    have hw2:=hw1.add (v:=⟨n.b,2,u⟩) hkids.2.1 (.inr ⟨by simp,a2,u1⟩)
    have p5lt:=World.block_lt_of_cell? w p5 c5
    have m5:¬ F1 p5.block:=fun hh=>(f1 _ hh).elim n5 (fun hx=>by omega)
    refine (jAO k p n.b 2 u p1 p5 w13 A1.know A1.cap (X1.cell c5 n5) A1.d1 m5 (by have:=hw1.few;omega)).mono ?_
    rintro _ w14 ⟨rfl,F2,K2,X2,f2⟩
    have A2:=A1.step hs13.lt K2 X2 f2
    refine ⟨rfl,X2.kept (fun b hb hf=>A1.h1 b hf hb),?_⟩
    refine fin Hl w14 _ F2 A2 hw2 ?_ ?_
    ·obtain ⟨M1,e1⟩:=Sp.jAP Sj ⟨n.a,1,u⟩
     obtain ⟨M2,e2⟩:=Sp.jAP (Sp.tF Sj ⟨n.a,1,u⟩) ⟨n.b,2,u⟩
     exact ⟨M1++M2,by rw [e2,e1,List.append_assoc]⟩
    ·rintro r y (⟨_,_,h3⟩ | ⟨_,_,h3⟩ | ⟨_,h2,_⟩)
     ·rw [hn] at h3;subst h3
      exact (Sp.uX _ ⟨n.b,2,u⟩).2 _ (Sp.uX Sj ⟨n.a,1,u⟩).1
     ·rw [hn] at h3;subst h3
      exact (Sp.uX _ ⟨n.b,2,u⟩).1
     ·rw [hn,hk4] at h2;cases h2
   ·have hk4:n.kind≠4:=by simpa using hk
    rintro y1 rfl
    have hy:(cond ((n.kind:Int) == 7) ((n.kind:Int) == 7) (cond ((n.kind:Int) == 8) ((n.kind:Int) == 8) ((n.kind:Int) == 9)))=Sp.yG n.kind:=by
     unfold Sp.yG;cases h7:(n.kind == 7) <;> cases h8:(n.kind == 8) <;> simp
    rw [hy]
    refine ⟨fun hs7=>?_,fun hs7=>?_⟩
    ·intro H3 w15 hs15
     have A15:=Aw.hst hs15
     have hkids:=Sp.jOW hW hui (by rw [hn];exact hs7)
     rw [hn] at hkids
     have r15:=jKV r9 nh9 hs15
     have ca15:w15.cell? (a9.add 5)=some (.int .i64 n.a):=r15 5 (by simp)
     have c515:=jIX c5 hnh5 hs15
     refine ⟨n.a,ca15,?_⟩
     refine (jAO k p n.a 3 u p1 p5 w15 A15.know A15.cap c515 A15.d1 n5 (by omega)).mono ?_
     rintro _ w16 ⟨rfl,F1,K1,X1,f1⟩
     have A1:=A15.step hs15.lt K1 X1 f1
     refine ⟨rfl,X1.kept (fun b hb hf=>A15.h1 b hf hb),?_⟩
     have a3:Sp.uY L 3 u n.a:=.inr (.inr ⟨rfl,by rw [hn];exact hs7,by rw [hn]⟩)
     refine fin H3 w16 _ F1 A1 (hwj.add (v:=⟨n.a,3,u⟩) hkids.1 (.inr ⟨by simp,a3,hum⟩)) (Sp.jAP Sj ⟨n.a,3,u⟩) ?_
     rintro r y (⟨_,h2,_⟩ | ⟨_,h2,_⟩ | ⟨_,_,h3⟩)
     ·rw [hn] at h2;exact absurd h2 hk4
     ·rw [hn] at h2;exact absurd h2 hk4
     ·rw [hn] at h3;subst h3
      exact (Sp.uX Sj ⟨n.a,3,u⟩).1
    ·intro H3 w15 hs15
     refine fin H3 w15 Sj Fj (Aw.hst hs15) hwj ⟨[],by simp⟩ ?_
     rintro r y (⟨_,h2,_⟩ | ⟨_,h2,_⟩ | ⟨_,h2,_⟩)
     ·rw [hn] at h2;exact absurd h2 hk4
     ·rw [hn] at h2;exact absurd h2 hk4
     ·rw [hn,hs7] at h2;cases h2
  refine ⟨_,fun w' h=>h.1,k,rfl,_,fun w' h=>h.2.1.cell0,_,fun w' h=>h.2.2.cell0,?_,?_⟩
  ·refine (jJE p u w12.drew A17.pool hW.ok).mono ?_
   rintro _ w18 ⟨nk,nf,nt,nu,nx,na,nb,ok,rfl,⟨hnn,_⟩,E18⟩
   rw [hn] at hnn
   refine ⟨_,_,_,_,_,_,_,_,rfl,⟨(A17.pure E18).cap,k17.box.pure E18,b17.pure E18⟩,E18.keptP,?_⟩
   intro p6 w19 h19
   have hp6:=h19.at_size
   have E19:=E18.trans (Ext.new h19)
   have b6:=Box.of_new h19
   have z18:=E18.size
   have z12:wl.heap.size≤w12.drew.heap.size:=by have:=(b17.lt);omega
   have nh6:¬ Hl p6.block:=fun hh=>by have:=hl.lt _ hh;omega
   refine ⟨⟨(A17.pure E19).cap,k17.box.pure E19,b17.pure E19⟩,b6.canWs (n:=7) (by simp),nh6,?_⟩
   rintro _ rfl
   have E20:=Ext.storeRow w19 p6 [(.int .i64 nk),(.int .i64 nf),(.int .i64 nt),(.int .u64 nu),(.string nx),(.int .i64 na),(.int .i64 nb)]
   have b20:=b6.store (vs:=[(.int .i64 nk),(.int .i64 nf),(.int .i64 nt),(.int .u64 nu),(.string nx),(.int .i64 na),(.int .i64 nb)]) rfl
   have A19:=A17.pure E19
   have n6:¬ Fj p6.block:=fun hh=>by have:=A17.know.lt hh;omega
   have A20:=A19.fresh E20 n6 (fun hh=>by have:=A17.pool.lt hh;omega) (fun hh=>by have:=World.block_lt_of_cell? _ p1 A17.cap;omega) (by have:=A17.ext.size;omega)
   have k20:=(k17.box.pure E19).ext E20 (fun e=>by have:=k17.box.lt;omega)
   have b520:=(b17.pure E19).ext E20 (fun e=>by have:=b17.lt;omega)
   have hs20:Hst w0 Hl _ Hl _:=(hs17.again E19.keptP).again (E20.kept (fun b hb e=>nh6 (e▸hb)))
   exact ⟨⟨A20.cap,k20,b520⟩,J2 p6 _ hs20 A20 b520.cell0 (by rw [← hnn];exact b20.row) n6 nh6⟩
  ·intro p7 w21 h21
   have hp6:=h21.at_size
   have E21:Pure w12.drew w21:=Ext.new h21
   have b7:=Box.of_new h21
   refine ⟨⟨(A17.pure E21).cap,k17.box.pure E21,b17.pure E21⟩,?_⟩
   refine (jJE p u w21 (A17.pure E21).pool hW.ok).mono ?_
   rintro _ w22 ⟨nk,nf,nt,nu,nx,na,nb,ok,rfl,⟨hnn,_⟩,E22⟩
   rw [hn] at hnn
   have E19:=E21.trans E22
   have z12:wl.heap.size≤w12.drew.heap.size:=by have:=(b17.lt);omega
   have nh6:¬ Hl p7.block:=fun hh=>by have:=hl.lt _ hh;omega
   have b6:=b7.pure E22
   refine ⟨_,_,_,_,_,_,_,_,rfl,⟨(A17.pure E19).cap,k17.box.pure E19,b17.pure E19⟩,E22.keptP,b6.canWs (n:=7) (by simp),nh6,?_⟩
   rintro _ rfl
   have E20:=Ext.storeRow w22 p7 [(.int .i64 nk),(.int .i64 nf),(.int .i64 nt),(.int .u64 nu),(.string nx),(.int .i64 na),(.int .i64 nb)]
   have b20:=b6.store (vs:=[(.int .i64 nk),(.int .i64 nf),(.int .i64 nt),(.int .u64 nu),(.string nx),(.int .i64 na),(.int .i64 nb)]) rfl
   have A19:=A17.pure E19
   have n6:¬ Fj p7.block:=fun hh=>by have:=A17.know.lt hh;omega
   have A20:=A19.fresh E20 n6 (fun hh=>by have:=A17.pool.lt hh;omega) (fun hh=>by have:=World.block_lt_of_cell? _ p1 A17.cap;omega) (by have:=A17.ext.size;omega)
   have k20:=(k17.box.pure E19).ext E20 (fun e=>by have:=k17.box.lt;omega)
   have b520:=(b17.pure E19).ext E20 (fun e=>by have:=b17.lt;omega)
   have hs20:Hst w0 Hl _ Hl _:=(hs17.again E19.keptP).again (E20.kept (fun b hb e=>nh6 (e▸hb)))
   exact ⟨⟨A20.cap,k20,b520⟩,J2 p7 _ hs20 A20 b520.cell0 (by rw [← hnn];exact b20.row) n6 nh6⟩
 ·have hge:=vT hlj hj hc
  subst hge
  rw [List.take_length] at hcj
  exact hK Sj Fj wl A.know ⟨hwj,hcj,htj,hSj⟩ A.ext A.own
end Go.Proofs
end
section
open Go.SE
namespace Go.Sp
def jOX (L:Pool) (n:Int):Int×Bool:=match find L (jLI n) with
 | some i=>((i:Int)+1,true)
 | none=>(0,false)
theorem uP {L:Pool} (h:Wf L) {t:Int} (ht:inP L t=true):jLN (zH L t).kind=true∨(zH L t).kind=4∨(zH L t).kind=5∨(zH L t).kind=6∨yG (zH L t).kind=true:=by
 have h1:=(h.node ht).1;unfold vM at h1;simp only at h1;split at h1
 ·cases h1
 ·rename_i hh;simp only [Bool.or_eq_true,Bool.not_eq_true',not_or] at hh;have hk:isKind (zH L t).kind=true:=by simpa using hh.1.1.1.1
  simp only [isKind,Bool.and_eq_true,decide_eq_true_eq] at hk;simp only [jLN,yG,Bool.or_eq_true,beq_iff_eq];omega
inductive Sub (L:Pool):Int→Int→Prop
 | refl (t:Int):Sub L t t
 | kid {t u k:Int}:Sub L t u→k∈vD (zH L u)→Sub L t k
theorem Sub.trans {L:Pool} {a b c:Int} (h:Sub L a b) (k:Sub L b c):Sub L a c:=by
 induction k with
 | refl=>exact h
 | kid _ hk ih=>exact .kid ih hk
theorem jOB {n:Node} (h:n.kind=4∨n.kind=5∨yG n.kind=true):n.a∈vD n:=by
 simp only [yG,Bool.or_eq_true,beq_iff_eq] at h;rcases h with h | h | (h | h) | h <;> simp [vD,h,shapeOf]
theorem kids_b {n:Node} (h:n.kind=4):n.b∈vD n:=by simp [vD,h,shapeOf]
theorem uY.sub {L:Pool} {r u t:Int} (h:uY L r u t):Sub L u t:=by
 rcases h with ⟨_,hk,rfl⟩ | ⟨_,hk,rfl⟩ | ⟨_,hk,rfl⟩
 ·exact .kid (.refl u) (jOB (.inl hk))
 ·exact .kid (.refl u) (kids_b hk)
 ·exact .kid (.refl u) (jOB (.inr (.inr hk)))
theorem Seen.sub {L:Pool} {G:List Int} {t:Int} (h:Seen L G t):∃g∈G,Sub L g t:=by
 induction h with
 | given hg=>exact ⟨_,hg,.refl _⟩
 | aris _ ha ih=>obtain ⟨g,hg,hs⟩:=ih;exact ⟨g,hg,hs.trans ha.sub⟩
def jOA (S:List Way) (t:Int):Nat:=(vA S).idxOf t+if t∈vA S then 0 else t.toNat
theorem uY.rule {L:Pool} {r u t:Int} (h:uY L r u t):r=1∨r=2∨r=3:=by
 rcases h with ⟨h,_⟩ | ⟨h,_⟩ | ⟨h,_⟩
 ·exact .inl h
 ·exact .inr (.inl h)
 ·exact .inr (.inr h)
def amap (l:List Step):List (Int×Int):=l.zipIdx.map fun p=>(p.1.t,(p.2:Int))
structure PrfOk (L:Pool) (G:List Int) (K:Int→Prop) (l:List Step) (B:List Int):Prop where
 fol:∀i (hi:i<l.length),fol L G (l.take i) l[i]=true
 nd:(l.map Step.t).Nodup
 drv:∀s∈l,Drv L K s.t
 bar:∀t∈B,¬ Drv L K t
theorem PrfOk.nil (L:Pool) (G:List Int) (K:Int→Prop):PrfOk L G K [] []:=⟨fun i hi=>by simp at hi,by simp,by simp,by simp⟩
theorem PrfOk.snoc {L:Pool} {G:List Int} {K:Int→Prop} {l:List Step} {B:List Int} (h:PrfOk L G K l B) {s:Step} (hf:Sp.fol L G l s=true) (hn:s.t ∉ l.map Step.t) (hd:Drv L K s.t):PrfOk L G K (l++[s]) B:=by
 refine ⟨fun i hi=>?_,?_,fun x hx=>?_,h.bar⟩
 ·rw [List.length_append] at hi;simp only [List.length_cons,List.length_nil] at hi;by_cases hl:i<l.length
  ·rw [List.getElem_append_left hl,List.take_append_of_le_length (by omega)];exact h.fol i hl
  ·have:i=l.length:=by omega
   subst this;rw [List.getElem_append_right (Nat.le_refl _),List.take_left];simpa using hf
 ·rw [List.map_append,List.nodup_append];exact ⟨h.nd,by simp,fun x hx y hy e=>by simp at hy;subst hy;exact hn (e▸hx)⟩
 ·rcases List.mem_append.1 hx with hx | hx
  ·exact h.drv x hx
  ·simp at hx;subst hx;exact hd
theorem fol_in {L:Pool} {G:List Int} {pre:List Step} {s:Step} (h:fol L G pre s=true):inP L s.t=true:=by
 unfold fol at h;split at h
 ·cases h
 ·rename_i hh;simpa using hh
theorem PrfOk.few {L:Pool} {G:List Int} {K:Int→Prop} {l:List Step} {B:List Int} (h:PrfOk L G K l B):l.length≤L.length:=by
 have:=jCD h.nd (fun t ht=>by
  obtain ⟨s,hs,rfl⟩:=List.mem_map.1 ht;obtain ⟨i,hi,rfl⟩:=List.getElem_of_mem hs;exact fol_in (h.fol i hi))
 simpa using this
end Go.Sp
end
section
open Go Go.SE
namespace Go.Sp
def jJG (G:List Int) (t:Int):List Int:=if t∈G then G else G++[t]
def uU (L:Pool) (G:List Int) (t:Int):List Int:=if inP L t=true then jJG G t else G
theorem jCE {G:List Int} {t x:Int}:x∈jJG G t↔x∈G∨x=t:=by
 unfold jJG;split
 ·rename_i h;exact ⟨.inl,fun h'=>h'.elim id (fun e=>e▸h)⟩
 ·simp
theorem jPK {G:List Int} {t:Int} (h:G.Nodup):(jJG G t).Nodup:=by
 unfold jJG;split
 ·exact h
 ·rename_i hn;rw [List.nodup_append];exact ⟨h,by simp,fun x hx y hy e=>by simp at hy;subst hy;exact hn (e▸hx)⟩
def madeS (L:Pool) (S:List Way) (t:Int):Int×Int×Bool×Bool :=
 if inP L t=false then (0,0,false,false)
 else if jLN (zH L t).kind=true then (0,0,true,true)
 else if (zH L t).kind=4 then ((zH L t).a,(zH L t).b,false,true)
 else if (zH L t).kind=5 then ((zH L t).a,0,false,true)
 else if (zH L t).kind=6 then (0,0,false,false)
 else ((zH L t).a,(jOX L (jKN (zH L t))).1,false,(jOX L (jKN (zH L t))).2 && decide ((jOX L (jKN (zH L t))).1∈vA S))
end Go.Sp
namespace Go.Proofs
attribute [local irreducible] Calls
abbrev MakePost (p:Addr) (L:Sp.Pool) (F:NP) (w:World) (n:Sp.Node) (e:Ending) (w':World):Prop :=
 ∃r1:Int,∃r2:Int,e=.returned (.tuple #[.int .i64 r1,.int .i64 r2])∧((r1,r2)=((Sp.make L n).1,(Sp.make L n).2.1)∧∃F',vE w' p (Sp.make L n).2.2 F'∧Ext F w w'∧∀b,F' b→F b∨w.heap.size≤b)
section
variable (p:Addr) (w0:World) {L:Sp.Pool} {F:NP} (hP:vE w0 p L F) (hok:Sp.Ok L)
include hP hok
theorem jOD (a b:Int):Calls Tryz.prog 91 #[.pointer (some p),.int .i64 a,.int .i64 b] w0 (MakePost p L F w0 ⟨4,0,0,0,⟨#[]⟩,a,b⟩):=by
 refine w_R2 _ _ _ w0 (fun r1 r2 w'=>(r1,r2)=((Sp.make L ⟨4,0,0,0,⟨#[]⟩,a,b⟩).1,(Sp.make L ⟨4,0,0,0,⟨#[]⟩,a,b⟩).2.1)∧∃F',vE w' p (Sp.make L ⟨4,0,0,0,⟨#[]⟩,a,b⟩).2.2 F'∧Ext F w0 w'∧∀b,F' b→F b∨w0.heap.size≤b) ?_;unfold m_R2;refine (jJF p _ _ _ _ _ _ _ w0 hP hok).mono ?_;rintro _ w1 ⟨r1,r2,rfl,h⟩;exact ⟨r1,r2,rfl,h⟩
theorem c_Sign (n a:Int):Calls Tryz.prog 93 #[.pointer (some p),.int .i64 n,.int .i64 a] w0 (MakePost p L F w0 ⟨7,n,0,0,⟨#[]⟩,a,0⟩):=by
 refine w_T2 _ _ _ w0 (fun r1 r2 w'=>(r1,r2)=((Sp.make L ⟨7,n,0,0,⟨#[]⟩,a,0⟩).1,(Sp.make L ⟨7,n,0,0,⟨#[]⟩,a,0⟩).2.1)∧∃F',vE w' p (Sp.make L ⟨7,n,0,0,⟨#[]⟩,a,0⟩).2.2 F'∧Ext F w0 w'∧∀b,F' b→F b∨w0.heap.size≤b) ?_;unfold m_T2;refine (jJF p _ _ _ _ _ _ _ w0 hP hok).mono ?_;rintro _ w1 ⟨r1,r2,rfl,h⟩;exact ⟨r1,r2,rfl,h⟩
end
theorem KnowS.appG {w:World} {k p:Addr} {G:List Int} {S:List Sp.Way} {ks:List Int} {sg sl:Sl} {m:Nat} (h:KnowS w k p G S ks sg m sl) {t:Int} {q:Addr} {w1:World} (hq:New w (.cells #[.int .i64 t] 78) q w1) (hn:G.length≤1000000):∃s1 w2,(Builtin.append_ #[46,46] 46 #[sg.v,(Sl.mk (some q) 1 1).v]).run Tryz.prog w1=.ok s1.v w2∧Ext sg.blk w1 w2∧vG w2 (k.add 1) ∧
  KnowS (w2.setCell (k.add 1) s1.v) k p (G++[t]) S ks s1 m sl∧Ext (KF k sg m sl) w (w2.setCell (k.add 1) s1.v)∧∀b,KF k s1 m sl b→KF k sg m sl b∨w.heap.size≤b:=by
 have E1:Pure w w1:=Ext.new hq
 have h1:=h.pure E1
 obtain ⟨s1,w2,hr,hR,hE,hb⟩:=h1.giv.append (P:=Tryz.prog) (ty:=46) (c:=1) jDZ (r:=[.int .i64 t]) (Box.of_new hq).row rfl rfl (by rw [qF];omega) (by rw [qF];simp [maxLen];omega)
 have hbx:=h1.box.ext hE h1.n2
 have hs1:∀b,s1.blk b→sg.blk b∨w.heap.size≤b:=fun b h=>(hb b h).imp_right (fun h=>by have:=E1.size;omega)
 have nk:¬ s1.blk k.block:=fun hh=>(hs1 _ hh).elim h.n2 (fun hh=>by have:=h.box.lt;omega)
 have nm:¬ s1.blk m:=fun hh=>(hs1 _ hh).elim h.n4 (fun hh=>by have:=h.seen.lt;omega)
 have E3:=Ext.setCell (w:=w2) (k.add 1) s1.v
 rw [zX] at E3
 refine ⟨s1,w2,hr,hE,hbx.canW (by simp),⟨hbx.set 1 s1.v,by rw [show tmr (G++[t])=tmr G++[[.int .i64 t]] by simp [tmr]];exact hR.ext E3 (fun b hb e=>nk (e▸hb)),((h1.seen.ext hE h.n4).ext E3 h.n1),((h1.list.ext hE (fun b h2 h1=>h.n6 b h1 h2)).ext E3 (fun b hb e=>h.n3 (e▸hb))),h.n1,nk,h.n3,nm,h.n5,fun b h1 h2=>(hs1 b h1).elim (fun h1=>h.n6 b h1 h2) (fun hh=>by have:=h.list.lt h2;omega)⟩,?_,?_⟩
 ·exact ((E1.pure (F:=KF k sg m sl)).trans (hE.mono (fun b _ hb=>.inr (.inl hb)))).trans (E3.mono (fun b _ hb=>.inl hb))
 ·rintro b (hb | hb | hb | hb)
  ·exact .inl (.inl hb)
  ·exact (hs1 b hb).imp_left (fun h=>.inr (.inl h))
  ·exact .inl (.inr (.inr (.inl hb)))
  ·exact .inl (.inr (.inr (.inr hb)))
theorem jMD (k p:Addr) (t:Int) (w0:World) {L:Sp.Pool} {G:List Int} {S:List Sp.Way} {F FP:NP} (h:qK w0 k p G S F) (hP:vE w0 p L FP) (hW:Sp.Wf L) (hd:∀b,F b→¬ FP b) (hk:Sp.KnowOk L G S) :
  Calls Tryz.prog 79 #[.pointer (some k),.int .i64 t] w0 (fun e w'=>∃r:Int,e=.returned (.int .i64 r)∧(r=(if Sp.inP L t=true then 0 else 51)∧∃S' F',qK w' k p (Sp.uU L G t) S' F'∧Sp.KnowOk L (Sp.uU L G t) S'∧Ext F w0 w'∧∀b,F' b→F b∨w0.heap.size≤b)):=by
 suffices key:∀K:Int→WP,(∀S' F' w',qK w' k p (Sp.uU L G t) S' F'→Sp.KnowOk L (Sp.uU L G t) S'→Ext F w0 w'→(∀b,F' b→F b∨w0.heap.size≤b)→K (if Sp.inP L t=true then 0 else 51) w')→m_K2 (some k) t w0 K from
  w_K2 _ _ w0 _ (key _ (fun S' F' w' a b c d=>⟨rfl,S',F',a,b,c,d⟩))
 intro K hK
 unfold m_K2
 obtain ⟨sg,m,sl,k0,hF⟩:=h
 refine Br.f rfl ⟨k,rfl,_,k0.box.cell0,?_⟩
 refine (jJE p t w0 hP hW.ok).mono ?_
 rintro _ w1 ⟨nk,nf,nt,nu,nx,na,nb,ok,rfl,⟨_,rfl⟩,E1⟩
 refine ⟨_,_,_,_,_,_,_,_,rfl,E1.keptP,fun hc=>?_,fun hc=>?_⟩
 ·have hin:Sp.inP L t=false:=by simpa using hc
  intro H1 w3 hs3
  have E3:Pure w0 w3:=E1.hst hs3
  have hg:Sp.uU L G t=G:=by unfold Sp.uU;rw [if_neg (by simp [hin])]
  have:=hK S F w3 (by rw [hg];exact ⟨sg,m,sl,k0.pure E3,hF⟩) (by rw [hg];exact hk) E3.pure (fun b hb=>.inl hb)
  simpa [hin] using this
 have hin:Sp.inP L t=true:=by simpa using hc
 have hg:Sp.uU L G t=Sp.jJG G t:=by unfold Sp.uU;rw [if_pos hin]
 rw [hg] at hK
 simp only [hin,if_true] at hK
 refine ⟨k,rfl,?_⟩
 intro H1 w3 hs3
 have E3:Pure w0 w3:=E1.hst hs3
 have k3:=k0.pure E3
 have nh:∀b,b<w0.heap.size→¬ H1 b:=fun b hb hh=>by have:=hs3.old b hh;omega
 have hGn:G.length≤65536:=by have:=Sp.jCD hk.gnd (fun t ht=>hk.inp t (hk.giv t ht));have:=hW.ok.few;omega
 have fin:∀(w:World) (F':NP),qK w k p (Sp.jJG G t) S F'→Ext F w0 w→(∀b,F' b→F b∨w0.heap.size≤b)→Hst w0 H1 w H1 w→(∀b,F' b→¬ H1 b)→Calls Tryz.prog 151 #[.pointer (some k),.int .i64 t,.agg #[.int .i64 0,.int .i64 0]] w (fun e w8=>e=.returned (.tuple #[])∧Kept H1 w w8∧K 0 w8):=by
  intro w F' hw hE hf hs hh;have hGs:∀x∈G,x∈Sp.jJG G t:=fun x hx=>Sp.jCE.2 (.inl hx);have hPw:vE w p L FP:=hP.ext hE (fun b hb hfb=>hd b hfb hb);refine (jJY k p t 0 0 w hw hPw hW (fun b hb hp=>?_) (hk.toWaysOk.mono hGs) hk.closed hin (.inl ⟨rfl,rfl,Sp.jCE.2 (.inr rfl)⟩)).mono ?_
  ·rcases hf b hb with h1 | h1
   ·exact hd b h1 hp
   ·have:=hP.lt hp;omega
  ·rintro _ w8 ⟨rfl,S',F2,K2,⟨q1,q2,q3,q4⟩,X2,f2⟩;have z:=hE.size;refine ⟨rfl,X2.kept (fun b hb hx=>hh b hx hb),hK S' F2 w8 K2 ⟨q1,q2,fun x hx=>?_,Sp.jPK hk.gnd⟩ (hE.trans' X2 (fun i hi hx=>(hf i hx).elim id (fun h=>by omega))) (fun b hb=>?_)⟩
   ·rcases Sp.jCE.1 hx with hx | rfl
    ·exact q4 x (hk.giv x hx)
    ·exact q3
   ·rcases f2 b hb with h1 | h1
    ·exact hf b h1
    ·right;omega
 refine ⟨_,k3.box.cell rfl,?_⟩
 refine (jGI sg G t w3 k3.giv.lst (by omega)).mono ?_
 rintro _ w3 ⟨r,rfl,rfl,rfl⟩
 refine ⟨_,rfl,Kept.refl _,fun hc2=>?_,fun hc2=>?_⟩
 ·have hnG:t ∉ G:=by simpa using hc2
  have hadd:Sp.jJG G t=G++[t]:=if_neg hnG
  refine ⟨k,rfl,_,k3.box.cell rfl,?_⟩
  intro q w5 h5
  obtain ⟨s1,w6,hr6,X6,cw6,k6,E6,f6⟩:=k3.appG h5 (by omega)
  have hs5:Hst w0 H1 w5 H1 w5:=hs3.here.again (Ext.new h5:Pure w3 w5).keptP
  have sgn:∀b,sg.blk b→¬ H1 b:=fun b hb=>nh b (k0.lt (.inr (.inl hb)))
  have kk:Kept H1 w5 w6:=X6.kept (fun b hb hx=>sgn b hx hb)
  refine ⟨s1,w6,hr6,kk,k,rfl,cw6,by rw [zX];exact nh _ k0.box.lt,?_⟩
  rintro _ rfl
  have z3:=E3.size
  have z5:w3.heap.size≤w5.heap.size:=(Ext.new h5:Pure w3 w5).size
  refine fin _ (KF k s1 m sl) (by rw [hadd];exact ⟨s1,m,sl,k6,fun b=>Iff.rfl⟩) ((E3.pure (F:=F)).trans (E6.mono (fun b _ hb=>(hF b).2 hb))) (fun b hb=>(f6 b hb).imp (hF b).2 (fun h=>by omega)) ((hs5.again kk).again (Kept.setCell (by rw [zX];exact nh _ k0.box.lt))) (fun b hb hh=>?_)
  rcases f6 b hb with h1 | h1
  ·exact nh b (k0.lt h1) hh
  ·have:=hs3.lt b hh;omega
 ·have hG:t∈G:=by simpa using hc2
  have hadd:Sp.jJG G t=G:=if_pos hG
  exact fin w3 F (by rw [hadd];exact ⟨sg,m,sl,k3,hF⟩) E3.pure (fun b hb=>.inl hb) hs3.here (fun b hb=>nh b (k0.lt ((hF b).1 hb)))
end Go.Proofs
end
section
open Go Go.SE
namespace Go.Sp
def tA (L:Pool) (ts:List Int):List Int:=ts.foldl (uU L) []
def jIF (L:Pool) (G:List Int) (fs:List Fact):Prop:=fs.Pairwise LtF∧∀x,x∈fs↔∃t,Seen L G t∧x∈ofS L t
theorem KnowOk.nil0 (L:Pool):KnowOk L [] []:=⟨⟨by simp [vA],by simp [vA],fun i hi=>by simp at hi⟩,by simp [vA],by simp,by simp⟩
theorem jLA (L:Pool) (t:Int):(ofS L t).length≤3:=by
 unfold ofS ofR qZ
 repeat' split
 all_goals simp
end Go.Sp
namespace Go.Proofs
attribute [local irreducible] Calls
theorem jJD {S:NP} (p:Addr) (l:Sl) (ts:List Int) (w0:World) {L:Sp.Pool} {F:NP} (hP:vE w0 p L F) (hW:Sp.Wf L) (hs:Lst S w0 1 l (tmr ts)) (hn:ts.length≤1000000) :
  Calls Tryz.prog 26 #[.pointer (some p),l.v] w0 (fun e w'=>∃r:Sl,e=.returned r.v∧∃fs,RetO w0 75 4 (fs.map tB) r w'∧Sp.jIF L (Sp.tA L ts) fs∧fs.length≤200000):=by
 suffices key:∀K:Sl→WP,(∀r fs w',RetO w0 75 4 (fs.map tB) r w'→(Sp.jIF L (Sp.tA L ts) fs∧fs.length≤200000)→K r w')→m_U (some p) l w0 K from
  w_U _ _ w0 _ (key _ (fun r fs w' h1 h2=>⟨fs,h1,h2⟩))
 intro K hK
 unfold m_U
 refine (jMC p w0).mono ?_
 rintro _ w1 ⟨_,rfl,k,F1,rfl,hk1,E1,hF1⟩
 have hll:l.len=ts.length:=by rw [hs.len,qF]
 refine ⟨_,rfl,fun i w'=>∃j:Nat,i=j∧j≤ts.length∧∃W FK,qK w' k p (Sp.tA L (ts.take j)) W FK∧Sp.KnowOk L (Sp.tA L (ts.take j)) W∧(∀b,FK b→w0.heap.size≤b)∧Pure w0 w',fun i _=>((ts.length:Int) - i).toNat,⟨0,rfl,Nat.zero_le _,[],F1,hk1,Sp.KnowOk.nil0 L,hF1,E1⟩,?_⟩
 rintro _ wl ⟨j,rfl,hj,W,FK,hk,hok,hFK,El⟩
 unfold m_U_l1
 refine ⟨fun h=>?_,fun h=>?_⟩
 ·have hlt:=vS hll h
  obtain ⟨a,hat,_,hv⟩:=jAC (hs.pure El) hlt
  refine ⟨a,hat,_,hv,?_⟩
  refine (jMD k p ts[j] wl hk (hP.pure El) hW (fun b hb hp=>by have:=hFK b hb;have:=hP.lt hp;omega) hok).mono ?_
  rintro _ w2 ⟨_,rfl,_,W',F',hk',hok',X,hF'⟩
  refine ⟨_,rfl,?_⟩
  rw [zZ hlt (by omega)]
  have e:Sp.tA L (ts.take (j+1))=Sp.uU L (Sp.tA L (ts.take j)) ts[j]:=by
   unfold Sp.tA;rw [List.take_succ_eq_append_getElem hlt,List.foldl_append];rfl
  exact ⟨⟨j+1,rfl,hlt,W',F',by rw [e];exact hk',by rw [e];exact hok',fun b hb=>(hF' b hb).elim (hFK b) (fun h=>by have:=El.size;omega),El.trans' X (fun i hi hf=>by have:=hFK i hf;omega)⟩,qX hlt⟩
 have hge:=vT hll hj h
 subst hge
 rw [List.take_length] at hk hok
 have hfew:(Sp.vA W).length≤65536:=by rw [Sp.uE];exact Nat.le_trans hok.toWaysOk.few hW.ok.few
 refine (jJZ k p wl hk (by omega)).mono ?_
 rintro _ w3 ⟨r3,rfl,q,hr3,hperm,_⟩
 have hql:q.length≤65536:=by rw [hperm.length_eq];exact hfew
 have hq3:r3.len=q.length:=by rw [hr3.rows.len,qF]
 have E3:=El.trans hr3.pure
 have hsz3:=E3.size
 have hbl:∀j,((q.take j).flatMap (Sp.ofS L)).length≤3*j:=by
  intro j;induction j with
  | zero=>simp
  | succ j ih =>
   by_cases hj:j<q.length
   ·rw [List.take_succ_eq_append_getElem hj,List.flatMap_append,List.length_append]
    have:=Sp.jLA L q[j]
    simp only [List.flatMap_cons,List.flatMap_nil,List.append_nil]
    omega
   ·rw [List.take_of_length_le (by omega)] at ih ⊢;omega
 refine ⟨r3,rfl,fun o i w'=>∃j:Nat,i=j∧j≤q.length∧Pure w3 w'∧(∀b,o.blk b→w3.heap.size≤b)∧Rws w' 75 4 o (((q.take j).flatMap (Sp.ofS L)).map tB),fun _ i _=>((q.length:Int) - i).toNat,⟨0,rfl,Nat.zero_le _,Ext.refl _,fun b h=>(by obtain ⟨a,h,_⟩:=h;cases h),Rws.nil _ _ _⟩,?_⟩
 rintro o _ w4 ⟨j,rfl,hj,E4,hown,Ro⟩
 unfold m_U_l2
 refine ⟨fun h=>?_,fun h=>?_⟩
 ·have hlt:=vS hq3 h
  obtain ⟨a,hat,_,hv⟩:=jAC (hr3.rows.pure E4).lst hlt
  refine ⟨a,hat,_,hv,?_⟩
  refine (jMB (some p) q[j] w4 (hP.pure (E3.trans E4)) hW.ok).mono ?_
  rintro _ w5 ⟨r4,rfl,hr4⟩
  have b1:=hbl j
  have b2:=Sp.jLA L q[j]
  have E5:=E4.trans hr4.pure
  obtain ⟨s1,w6,hrun,hR,hE,hb⟩:=(Ro.pure hr4.pure).appendL (P:=Tryz.prog) tU (ty:=71) hr4.rows.lst (jDM _) (jIV _) (by rw [List.length_map,List.length_map];omega) (by rw [List.length_map,List.length_map];unfold maxLen;omega)
  refine ⟨r4,rfl,s1,w6,hrun,?_⟩
  rw [zZ hlt (by omega)]
  have:=E5.size
  refine ⟨⟨j+1,rfl,hlt,E5.trans' hE (fun i hi h=>by have:=hown i h;omega),fun b h=>(hb b h).elim (hown b) (fun h=>by omega),?_⟩,qX hlt⟩
  rw [List.take_succ_eq_append_getElem hlt,List.flatMap_append,List.map_append]
  simpa using hR
 have hge:=vT hq3 hj h
 subst hge
 rw [List.take_length] at Ro
 have hb3:=hbl q.length
 rw [List.take_length] at hb3
 generalize hfs:q.flatMap (Sp.ofS L)=fs at *
 refine (jKA o fs w4 Ro (by omega)).mono ?_
 rintro _ w5 ⟨rfl,fs',hp',hsd,R5,E5⟩
 refine ⟨rfl,?_⟩
 refine (jMG o fs' w5 R5 (by rw [hp'.length_eq];omega)).mono ?_
 rintro _ w6 ⟨r,rfl,R6,E6,hb6⟩
 refine ⟨r,rfl,hK r (Sp.jAK fs') w6 ⟨R6,fun b hb=>by have:=hown b (hb6 b hb);omega,?_⟩ ⟨⟨Sp.jGE hsd,fun x=>?_⟩,by have:=Sp.jLS fs';have:=hp'.length_eq;omega⟩⟩
 ·exact (E3.trans E4).trans' (E5.trans E6) (fun i hi h=>by have:=hown i h;omega)
 ·rw [Sp.jLD,hp'.mem_iff,← hfs,List.mem_flatMap]
  constructor
  ·rintro ⟨t,ht,hx⟩
   exact ⟨t,(hok.seen_iff t).1 (hperm.mem_iff.1 ht),hx⟩
  ·rintro ⟨t,ht,hx⟩
   exact ⟨t,hperm.mem_iff.2 ((hok.seen_iff t).2 ht),hx⟩
end Go.Proofs
end
section
namespace Go.Sp
inductive Good:Tree→Prop
 | mk (k f t u:Int) (x:ByteArray) (ks:List Tree) (own:xO ⟨k,f,t,u,x,0,0⟩ ks.length=0) (kids:∀i (hi:i<ks.length),Good ks[i]):Good (.mk k f t u x ks)
end Go.Sp
end
section
namespace Go.Sp
mutual
def cnt:Tree→Nat
 | .mk _ _ _ _ _ ks=>1+cntAll ks
def cntAll:List Tree→Nat
 | []=>0
 | t :: ts=>cnt t+cntAll ts
end
mutual
def tY (most:Int):Tree→Int
 | .mk _ _ _ _ _ ks=>yS most 1 ks
def yS (most n:Int):List Tree→Int
 | []=>n
 | t :: ts=>if n≤most then yS most (n+tY (most - n) t) ts else n
end
theorem jDD (t:Tree):∀most:Int,0≤most→1≤tY most t∧tY most t≤most+1∧(tY most t≤most→(cnt t:Int)=tY most t):=by
 induction t using Tree.ind with
 | h k f tt u x ks ih =>
  have hA : ∀ (ks : List Tree), (∀ i (hi : i < ks.length), ∀ most : Int, 0 ≤ most → 1 ≤ tY most ks[i] ∧ tY most ks[i] ≤ most + 1 ∧ (tY most ks[i] ≤ most → (cnt ks[i] : Int) = tY most ks[i])) →
    ∀most n:Int,1≤n→n≤most+1→n≤yS most n ks∧yS most n ks≤most+1∧(yS most n ks≤most→n+(cntAll ks:Int)=yS most n ks):=by
   intro ks
   induction ks with
   | nil=>intro _ most n h1 h2;simp [yS,cntAll,h2]
   | cons t ts iht =>
    intro hh most n h1 h2
    unfold yS
    by_cases hn:n≤most
    ·rw [if_pos hn]
     have h0:=hh 0 (by simp) (most - n) (by omega)
     simp only [List.getElem_cons_zero] at h0
     have h3:=iht (fun i hi=>hh (i+1) (by simpa using hi)) most (n+tY (most - n) t) (by omega) (by omega)
     refine ⟨by omega,h3.2.1,fun h=>?_⟩
     have h4:=h3.2.2 h
     have h5:=h0.2.2 (by omega)
     simp only [cntAll];omega
    ·rw [if_neg hn];exact ⟨Int.le_refl _,h2,fun h=>absurd h hn⟩
  intro most hm
  have:=hA ks ih most 1 (by omega) (by omega)
  simp only [tY,cnt]
  refine ⟨this.1,this.2.1,fun h=>?_⟩
  have:=this.2.2 h
  omega
mutual
def same:Tree→Tree→Bool
 | .mk k f t u x ks,.mk k' f' t' u' x' ks'=>decide (k=k') && decide (f=f') && decide (t=t') && decide (u=u') && decide (x=x') && yP ks ks'
def yP:List Tree→List Tree→Bool
 | [],[]=>true
 | t :: ts,t' :: ts'=>same t t' && yP ts ts'
 | _,_=>false
end
theorem jIN (a:Tree):∀b,same a b=true↔a=b:=by
 induction a using Tree.ind with
 | h k f t u x ks ih =>
  have hA:∀(ks:List Tree),(∀i (hi:i<ks.length),∀b,same ks[i] b=true↔ks[i]=b)→∀ks',yP ks ks'=true↔ks=ks':=by
   intro ks;induction ks with
   | nil=>intro _ ks';cases ks' <;> simp [yP]
   | cons t ts iht =>
    intro hh ks'
    cases ks' with
    | nil=>simp [yP]
    | cons t' ts' =>
     have h0:=hh 0 (by simp) t'
     simp only [List.getElem_cons_zero] at h0
     simp only [yP,Bool.and_eq_true,h0,iht (fun i hi=>hh (i+1) (by simpa using hi)) ts',List.cons.injEq]
  intro b
  obtain ⟨k',f',t',u',x',ks'⟩:=b
  simp only [same,Bool.and_eq_true,decide_eq_true_eq,hA ks ih ks',Tree.mk.injEq]
  constructor
  ·rintro ⟨⟨⟨⟨⟨h1,h2⟩,h3⟩,h4⟩,h5⟩,h6⟩;exact ⟨h1,h2,h3,h4,h5,h6⟩
  ·rintro ⟨h1,h2,h3,h4,h5,h6⟩;exact ⟨⟨⟨⟨⟨h1,h2⟩,h3⟩,h4⟩,h5⟩,h6⟩
end Go.Sp
end
section
namespace Go.Sp
def jCA (x:Tree):List Nat→Tree
 | []=>x
 | i :: jMK=>match x.kids[i]? with
  | none=>jBS
  | some y=>jCA y jMK
def vU (k:Int):Bool:=(k == 1 || k == 2) || k == 4
def qB (k:Int):Bool:=vU k || k == 6
def qR (l:Letter):Int :=
 if l.kind<1∨l.kind>7∨(l.frm≠0∧l.frm≠1)∨(vU l.kind=false∧l.frm≠0)∨(qB l.kind=false∧l.text≠⟨#[]⟩)∨(l.fake=true∧l.kind≠1∧l.kind≠4) then 110 else if l.text.size>64 then 1 else 0
def jHB (x:Tree) (kind:Int) (p:List Nat):Letter :=
 ⟨kind,if vU kind then x.node.frm else 0,
  if qB kind then (jCA (jCA x p) [1,0]).node.num else if kind == 7 then (jCA x [1]).node.num else (jCA x [0,1]).node.num,
  if qB kind then (jCA (jCA x p) [1,1]).node.text else ⟨#[]⟩,false⟩
def yV (l:Letter) (f:Nat):Letter:={ l with fake:=decide (f>0) }
def jFF (x:Tree) (l:Letter) (f:Nat):Bool :=
 decide (qR (yV l f)=0) && (l.kind == 4 || decide (f≠2)) && same (vZ (yV l f) (f % 2 == 1) (f / 2 == 1)) x
def yF (x:Tree) (l:Letter):Nat→Nat→Option Letter
 | 0,_=>none
 | n+1,f=>if jFF x l f then some (yV l f) else yF x l n (f+1)
def qP (x:Tree) (kind:Int):List (List Nat)→Option Letter
 | []=>none
 | p :: ps=>match yF x (jHB x kind p) 4 0 with
  | some l=>some l
  | none=>qP x kind ps
def deals:List (List Nat):=[[0],[0,1,0,0],[0,1]]
def yR (x:Tree):Nat→Int→Option Letter
 | 0,_=>none
 | n+1,k=>match qP x k deals with
  | some l=>some l
  | none=>yR x n (k+1)
def qO (x:Tree):Letter×Bool:=match yR x 7 1 with
 | some l=>(l,true)
 | none=>(yN,false)
def xX (L:Pool) (t:Int):Letter×Bool:=if inP L t=true∧¬ sizeOf L t>40 then qO (vB L t) else (yN,false)
end Go.Sp
end
