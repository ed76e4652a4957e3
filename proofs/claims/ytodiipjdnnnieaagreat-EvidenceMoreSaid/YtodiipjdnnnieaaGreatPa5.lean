import Derived.Test.YtodiipjdnnnieaaGreatProg
import Derived.KernelRfl
import Derived.Test.YtodiipjdnnnieaaGreatPa3
import Derived.Test.YtodiipjdnnnieaaGreatPa4
import Derived.Sort.Walk0
import Derived.Sort.Statements
import Derived.Shelf.SlSortCmp.Insertion
import Init.Data.List.Lex
import Derived.Shelf.SlSortCmp.NoneTotal
import Derived.Test.YtodiipjdnnnieaaGreatPa2
import Derived.Laws.Strings
import Derived.Test.YtodiipjdnnnieaaGreatPa1
section
open Go Go.SE
open Go.IntKind renaming i64 → q6
namespace Go.Proofs
set_option maxRecDepth 100000
set_option maxHeartbeats 4000000
attribute [local irreducible] wpL wpX opE wpE Calls
def m_M1_l1 (l1:Sl) (n1 i1:Int) (wl1:World) (Kc1:Int→Int→WP) (K:Bool→WP):Prop :=
 Br ((decide (i1<(l1.len:Int))) && (decide (i1≤10)))
  (∃a1:Addr,At l1 i1 6 a1 ∧
  ∃aF bE:Int,∃bF bG:Int,∃aG:ByteArray,∃bH:Sl,Row wl1 a1 [(vi aF),(vi bE),(vi bF),(vu bG),(vs aG),bH.v] ∧
  Calls Tryz.prog 75 #[(.agg #[(vi aF),(vi bE),(vi bF),(vu bG),(vs aG),bH.v]),(vi 500)] wl1 (fun e w2=>∃r1:Int,e=.returned (vi r1)∧
   Br (decide ((q6.wrap (n1+r1))≥500))
    (K true w2)
    (Kc1 (q6.wrap (n1+r1)) (q6.wrap (i1+1)) w2)))
  (K (decide ((l1.len:Int)>10)) wl1)
def m_M1 (l1:Sl) (w0:World) (K:Bool→WP):Prop :=
 ∃(I1:Int→Int→WP) (mu1:Int→Int→World→Nat),I1 0 0 w0 ∧
  ∀(n1 i1:Int) (wl1:World),I1 n1 i1 wl1→m_M1_l1 l1 n1 i1 wl1 (fun y'0 y'1 w'=>I1 y'0 y'1 w'∧mu1 y'0 y'1 w'<mu1 n1 i1 wl1) K
theorem w_M1 (l1 : Sl) (w0 : World) (K : Bool → WP) (h : m_M1 l1 w0 K) :
  Calls Tryz.prog 23 #[l1.v] w0 (fun e w'=>∃r2:Bool,e=.returned (vb r2)∧K r2 w'):=by
 unfold m_M1 at h
 refine cw (args:=[l1.v]) Tryz.func23 Tryz.ntmps23 (eg (q0 (vb false) (ln (eg (q0 (vi 0) (ln (wpE_seq ?_)))))))
 refine eg (q0 (vi 0) (ln (wpE_block ?_)))
 obtain ⟨I1,mu1,h0,hr⟩:=h
 refine wpE_loop (σ:=Int×Int×World) (fun s ρ w=>w=s.2.2∧Has ρ [(0,l1.v),(3,(vi s.1)),(4,(vi s.2.1))]∧I1 s.1 s.2.1 s.2.2) (fun s=>mu1 s.1 s.2.1 s.2.2) (0,0,w0) ⟨rfl,hm,h0⟩ ?_
 rintro ⟨n1,i1,wl1⟩ ρ w ⟨hw,hH,hI⟩
 obtain rfl:wl1=w:=(show w=wl1 from hw).symm
 have hH:Has ρ [(0,l1.v),(3,(vi n1)),(4,(vi i1))]:=hH
 have h:=hr n1 i1 wl1 hI
 unfold m_M1_l1 at h
 refine wpE_has hH ?_
 refine wpE_seq (wpE_seq ?_)
 refine wpE_via (fun ρ wJ=>∃b1'0:Bool,((decide (i1<(l1.len:Int)))=b1'0)∧wl1=wJ∧Has ρ [(0,l1.v),(3,(vi n1)),(4,(vi i1)),(12,(vb (b1'0 && (decide (i1≤10)))))]) ?_ ?_
 refine rg (q0 (vi i1) (q0 l1.v (q0 (vi (l1.len:Int)) (q0 (vb (decide (i1<(l1.len:Int)))) (q0 (vb (decide (i1<(l1.len:Int)))) ?_)))))
 rcases Bool.eq_false_or_eq_true (decide (i1<(l1.len:Int))) with hg2 | hg2
 refine q1 (vi i1) (wy 9 hg2) (q1 (vb (decide (i1≤10))) (wy 9 hg2) (q2 (vb (decide (i1≤10))) (xT hg2) (ln ?_)))
 exact ⟨true,hg2,rfl,hm⟩
 refine sk (yD 9 hg2) (sk (yD 9 hg2) (q2 (vb false) (xF hg2) (ln ?_)))
 exact ⟨false,hg2,rfl,hm⟩
 rintro ρ w1 ⟨b1'0,he0,hw,hH⟩
 subst he0
 subst hw
 refine norm_has hH ?_
 refine th_n ?_
 refine wpE_cond (t:=((decide (i1<(l1.len:Int))) && (decide (i1≤10)))) (by kernel_rfl) (fun hc1=>?_) (fun hc1=>?_)
 have h:=h.1 hc1
 refine wpE_skip (th_n (wpE_seq (wpE_block (eg (q0 (vi n1) (q0 l1.v (q0 (vi i1) ?_)))))))
 obtain ⟨a1,hv2,h⟩:=h
 refine q2 (vp (some a1)) (xi (Tryz.runUnderlying66 _) (Tryz.sizeOf107 _) hv2) ?_
 obtain ⟨aF,bE,bF,bG,aG,bH,hv1,h⟩:=h
 refine q2 (.agg #[(vi aF),(vi bE),(vi bF),(vu bG),(vs aG),bH.v]) (xa a1 [(vi aF),(vi bE),(vi bF),(vu bG),(vs aG),bH.v] (Tryz.isAgg107 _) (Tryz.sizeOf107 _) hv1) ?_
 refine sc Tryz.call75 (h.mono ?_)
 rintro e w2 ⟨r1,rfl,h⟩
 refine ⟨_,rfl,?_⟩
 refine q0 (vi (q6.wrap (n1+r1))) (q0 (vi (q6.wrap (n1+r1))) (ln (eg (q0 (vi (q6.wrap (n1+r1))) (q0 (vb (decide ((q6.wrap (n1+r1))≥500))) (ln ?_))))))
 refine wpE_cond (t:=(decide ((q6.wrap (n1+r1))≥500))) (by kernel_rfl) (fun hc2=>?_) (fun hc2=>?_)
 have h:=h.1 hc2
 refine eg (q0 (vb true) (ln (er (bl_r (th_r (th_r (bl_r (th_r (rs1 Tryz.results23 (v:=(vb true)) ?_)))))))))
 exact ⟨true,rfl,h⟩
 have h:=h.2 hc2
 refine wpE_skip (bl_n (th_n (rg (q0 (vi i1) (q0 (vi (q6.wrap (i1+1))) (q0 (vi (q6.wrap (i1+1))) (ln ?_)))))))
 exact ⟨((q6.wrap (n1+r1)),(q6.wrap (i1+1)),w2),⟨rfl,hm,h.1⟩,h.2⟩
 have h:=h.2 hc1
 refine wpE_exit (th_x (th_x (bl_eq (th_n (eg (q0 l1.v (q0 (vi (l1.len:Int)) (q0 (vb (decide ((l1.len:Int)>10))) (q0 (vb (decide ((l1.len:Int)>10))) (wpL_nil ?_))))))))))
 refine th_n (er (rs1 Tryz.results23 (v:=(vb (decide ((l1.len:Int)>10)))) ?_))
 exact ⟨(decide ((l1.len:Int)>10)),rfl,h⟩
def m_V_j1 (p1:Option Addr) (a1 b1:Int) (x1:Bool) (w0:World) (H:NP) (w:World) (K:Int→Int→Int→ByteArray→Bool→Bool→Int→WP):Prop :=
 Br x1
  (∀(w3:World),Hst w0 H w H w3 →
  K 0 0 0 ⟨#[]⟩ false false 51 w3)
  (Calls Tryz.prog 51 #[(vp p1),(vi a1)] w (fun e w4=>∃aA aD aC:Int,∃aE:ByteArray,∃aB r1:Bool,e=.returned (.tuple #[(.agg #[(vi aA),(vi aD),(vu aC),(vs aE),(vb aB)]),(vb r1)])∧
   Kept H w w4 ∧
   ∀(H2:NP) (w6:World),Hst w0 H w4 H2 w6 →
   Calls Tryz.prog 51 #[(vp p1),(vi b1)] w6 (fun e w7=>∃aL aS aK:Int,∃aT:ByteArray,∃aJ r2:Bool,e=.returned (.tuple #[(.agg #[(vi aL),(vi aS),(vu aK),(vs aT),(vb aJ)]),(vb r2)])∧
    Kept H2 w6 w7 ∧
    Br ((aA != 1) || (aL != 1))
     (∀(H4:NP) (w11:World),Hst w0 H2 w7 H4 w11 →
     K 0 0 0 ⟨#[]⟩ false false 120 w11)
     (∀y1:Bool,y1=((((aD != 0) || (aS != 1)) || (aC != aK)) || (!(decide (aE=aT)))) →
     Br y1
      (∀(H10:NP) (w20:World),Hst w0 H2 w7 H10 w20 →
      K aA aD aC aE aB (aB || aJ) 122 w20)
      (∀(H10:NP) (w21:World),Hst w0 H2 w7 H10 w21 →
      K aA aD aC aE aB (aB || aJ) 0 w21)))))
def m_V (p1:Option Addr) (a1 b1:Int) (w0:World) (K:Int→Int→Int→ByteArray→Bool→Bool→Int→WP):Prop :=
 Br (Option.isNone p1)
  (∀(H1:NP) (w2:World),Hst w0 None w0 H1 w2 →
  K 0 0 0 ⟨#[]⟩ false false 7 w2)
  (∀(H1:NP) (w1:World),Hst w0 None w0 H1 w1 →
  Calls Tryz.prog 160 #[(vp p1),(vi a1)] w1 (fun e w22=>∃r3:Int,e=.returned (vi r3)∧
   Kept H1 w1 w22 ∧
   Br (r3 == 0)
    (m_V_j1 p1 a1 b1 true w0 H1 w22 K)
    (Calls Tryz.prog 160 #[(vp p1),(vi b1)] w22 (fun e w23=>∃r4:Int,e=.returned (vi r4)∧
     Kept H1 w22 w23 ∧
     m_V_j1 p1 a1 b1 (r4 == 0) w0 H1 w23 K))))
theorem w_V (p1 : Option Addr) (a1 b1 : Int) (w0 : World) (K : Int → Int → Int → ByteArray → Bool → Bool → Int → WP) (h : m_V p1 a1 b1 w0 K) :
  Calls Tryz.prog 90 #[(vp p1),(vi a1),(vi b1)] w0 (fun e w'=>∃bI dD bJ:Int,∃bK:ByteArray,∃dE r5:Bool,∃r6:Int,e=.returned (.tuple #[(.agg #[(vi bI),(vi dD),(vu bJ),(vs bK),(vb dE)]),(vb r5),(vi r6)])∧K bI dD bJ bK dE r5 r6 w'):=by
 unfold m_V at h
 refine cw (args:=[(vp p1),(vi a1),(vi b1)]) Tryz.func90 Tryz.ntmps90 ?_
 have hs:=Hst.start w0
 have hb:=HB.nil None w0
 refine eg (sn (O:=(.cells #[(vi 0),(vi 0),(vu 0),(vs ⟨#[]⟩),(vb false)] 35)) (x_alloc (Tryz.zeroValue35 _) rfl) ?_)
 intro p2 w1 hn1
 obtain ⟨H1,hs,hb⟩:=hs.alloc hb hn1
 refine q0 (vb false) (q0 (vi 0) (ln (wpE_seq (eg (q0 (vp p1) (q2 (vb (Option.isNone p1)) (x_ptreq (by kernel_rfl) rfl Tryz.underlying68) (ln ?_)))))))
 refine wpE_cond (t:=(Option.isNone p1)) (by kernel_rfl) (fun hc1=>?_) (fun hc1=>?_)
 have h:=h.1 hc1
 refine eg (q0 (.agg #[(vi 0),(vi 0),(vu 0),(vs ⟨#[]⟩),(vb false)]) (st_set (want0 rfl) (xo p2 [(vi 0),(vi 0),(vu 0),(vs ⟨#[]⟩),(vb false)] (Tryz.sizeOf35 _) (hb.k0 0 5 gZ)) ?_))
 intro w2 hn2
 obtain ⟨hs,hb⟩:=hb.s0 (l':=[(p2,[(vi 0),(vi 0),(vu 0),(vs ⟨#[]⟩),(vb false)],35)]) 0 [(vi 0),(vi 0),(vu 0),(vs ⟨#[]⟩),(vb false)] hs hn2 gZ
 refine q0 (vb false) (q0 (vi 7) (ln (er (th_r ?_))))
 have h:=h H1 w2 hs
 have hs:=hs.here
 refine resG (.inl rfl) (vs:=[(.agg #[(vi 0),(vi 0),(vu 0),(vs ⟨#[]⟩),(vb false)]),(vb false),(vi 7)]) (v:=(.tuple #[(.agg #[(vi 0),(vi 0),(vu 0),(vs ⟨#[]⟩),(vb false)]),(vb false),(vi 7)])) Tryz.results90 ⟨(rA (Tryz.isAgg35 _) (Tryz.sizeOf35 _) (hb.r0 0 5 gZ)),(rvT (by kernel_rfl)),(rvT (by kernel_rfl)),trivial⟩ (by kernel_rfl) ?_
 exact ⟨0,0,0,⟨#[]⟩,false,false,7,rfl,h⟩
 have h:=h.2 hc1
 refine wpE_skip (th_n (wpE_seq (wpE_seq ?_)))
 refine wpE_joinT (fun ρ w=>∃x1:Bool,∃H:NP,Has ρ [(0,(vp p1)),(1,(vi a1)),(2,(vi b1)),(6,(vp (some p2))),(26,(vb x1))]∧Hst w0 H w H w∧HB H w [(p2,[(vi 0),(vi 0),(vu 0),(vs ⟨#[]⟩),(vb false)],35)]∧m_V_j1 p1 a1 b1 x1 w0 H w K) ?_ ?_
 rintro ρ w ⟨x1,H,hH,hs,hb,h⟩
 unfold m_V_j1 at h
 refine wpE_has hH ?_
 refine wpE_cond (t:=x1) (by kernel_rfl) (fun hc2=>?_) (fun hc2=>?_)
 have h:=h.1 hc2
 refine eg (q0 (.agg #[(vi 0),(vi 0),(vu 0),(vs ⟨#[]⟩),(vb false)]) (st_set (want0 rfl) (xo p2 [(vi 0),(vi 0),(vu 0),(vs ⟨#[]⟩),(vb false)] (Tryz.sizeOf35 _) (hb.k0 0 5 gZ)) ?_))
 intro w3 hn3
 obtain ⟨hs,hb⟩:=hb.s0 (l':=[(p2,[(vi 0),(vi 0),(vu 0),(vs ⟨#[]⟩),(vb false)],35)]) 0 [(vi 0),(vi 0),(vu 0),(vs ⟨#[]⟩),(vb false)] hs hn3 gZ
 refine q0 (vb false) (q0 (vi 51) (ln (er (th_r ?_))))
 have h:=h w3 hs
 have hs:=hs.here
 refine resG (.inl rfl) (vs:=[(.agg #[(vi 0),(vi 0),(vu 0),(vs ⟨#[]⟩),(vb false)]),(vb false),(vi 51)]) (v:=(.tuple #[(.agg #[(vi 0),(vi 0),(vu 0),(vs ⟨#[]⟩),(vb false)]),(vb false),(vi 51)])) Tryz.results90 ⟨(rA (Tryz.isAgg35 _) (Tryz.sizeOf35 _) (hb.r0 0 5 gZ)),(rvT (by kernel_rfl)),(rvT (by kernel_rfl)),trivial⟩ (by kernel_rfl) ?_
 exact ⟨0,0,0,⟨#[]⟩,false,false,51,rfl,h⟩
 have h:=h.2 hc2
 refine wpE_skip (th_n (eg (q0 (vp p1) (q0 (vi a1) ?_))))
 refine sc Tryz.call51 (h.mono ?_)
 rintro e w4 ⟨aA,aD,aC,aE,aB,r1,rfl,hk,h⟩
 refine ⟨_,rfl,?_⟩
 obtain ⟨hs,hb⟩:=hk.hh hs hb
 refine q0 (.tuple #[(.agg #[(vi aA),(vi aD),(vu aC),(vs aE),(vb aB)]),(vb r1)]) (q0 (.agg #[(vi aA),(vi aD),(vu aC),(vs aE),(vb aB)]) (q0 (vb r1) (sn (O:=(.cells #[(vi 0),(vi 0),(vu 0),(vs ⟨#[]⟩),(vb false)] 35)) (x_alloc (Tryz.zeroValue35 _) rfl) ?_)))
 intro p3 w5 hn4
 obtain ⟨H2,hs,hb⟩:=hs.alloc hb hn4
 refine st_set (want0 rfl) (xo p3 [(vi aA),(vi aD),(vu aC),(vs aE),(vb aB)] (Tryz.sizeOf35 _) (hb.k0 0 5 gZ)) ?_
 intro w6 hn5
 obtain ⟨hs,hb⟩:=hb.s0 (l':=[(p3,[(vi aA),(vi aD),(vu aC),(vs aE),(vb aB)],35),(p2,[(vi 0),(vi 0),(vu 0),(vs ⟨#[]⟩),(vb false)],35)]) 0 [(vi aA),(vi aD),(vu aC),(vs aE),(vb aB)] hs hn5 gZ
 refine q0 (vb r1) (ln (eg (q0 (vp p1) (q0 (vi b1) ?_))))
 have h:=h H2 w6 hs
 have hs:=hs.here
 refine sc Tryz.call51 (h.mono ?_)
 rintro e w7 ⟨aL,aS,aK,aT,aJ,r2,rfl,hk,h⟩
 refine ⟨_,rfl,?_⟩
 obtain ⟨hs,hb⟩:=hk.hh hs hb
 refine q0 (.tuple #[(.agg #[(vi aL),(vi aS),(vu aK),(vs aT),(vb aJ)]),(vb r2)]) (q0 (.agg #[(vi aL),(vi aS),(vu aK),(vs aT),(vb aJ)]) (q0 (vb r2) (sn (O:=(.cells #[(vi 0),(vi 0),(vu 0),(vs ⟨#[]⟩),(vb false)] 35)) (x_alloc (Tryz.zeroValue35 _) rfl) ?_)))
 intro p4 w8 hn6
 obtain ⟨H3,hs,hb⟩:=hs.alloc hb hn6
 refine st_set (want0 rfl) (xo p4 [(vi aL),(vi aS),(vu aK),(vs aT),(vb aJ)] (Tryz.sizeOf35 _) (hb.k0 0 5 gZ)) ?_
 intro w9 hn7
 obtain ⟨hs,hb⟩:=hb.s0 (l':=[(p4,[(vi aL),(vi aS),(vu aK),(vs aT),(vb aJ)],35),(p3,[(vi aA),(vi aD),(vu aC),(vs aE),(vb aB)],35),(p2,[(vi 0),(vi 0),(vu 0),(vs ⟨#[]⟩),(vb false)],35)]) 0 [(vi aL),(vi aS),(vu aK),(vs aT),(vb aJ)] hs hn7 gZ
 refine q0 (vb r2) (ln (wpE_seq (wpE_seq ?_)))
 refine wpE_via (fun ρ wJ=>∃b2'0:Bool,∃HJ:NP,((aA != 1)=b2'0)∧Hst w0 H2 w7 HJ wJ∧HB HJ wJ [(p4,[(vi aL),(vi aS),(vu aK),(vs aT),(vb aJ)],35),(p3,[(vi aA),(vi aD),(vu aC),(vs aE),(vb aB)],35),(p2,[(vi 0),(vi 0),(vu 0),(vs ⟨#[]⟩),(vb false)],35)]∧Has ρ [(6,(vp (some p2))),(9,(vp (some p3))),(11,(vp (some p4))),(47,(vb (b2'0 || (aL != 1))))]) ?_ ?_
 refine rg (q0 (vp (some p3)) (q2 (vi aA) (xl (Tryz.isAgg3 _) (hb.c0 1 (gS gZ))) (q0 (vb (aA != 1)) (q0 (vb (aA != 1)) ?_))))
 rcases Bool.eq_false_or_eq_true (aA != 1) with hg2 | hg2
 refine sk (yD 43 hg2) (sk (yD 43 hg2) (sk (yD 43 hg2) (q2 (vb true) (xT hg2) (ln ?_))))
 exact ⟨true,_,hg2,hs,hb,hm⟩
 refine q1 (vp (some p4)) (wy 43 hg2) (stp (v:=(vi aL)) (wy 43 hg2) (xl (Tryz.isAgg3 _) (hb.c0 0 gZ)) (q1 (vb (aL != 1)) (wy 43 hg2) (q2 (vb (aL != 1)) (xF hg2) (ln ?_))))
 exact ⟨false,_,hg2,hs,hb,hm⟩
 rintro ρ w10 ⟨b2'0,H4,he0,hs,hb,hH⟩
 subst he0
 refine norm_has hH ?_
 refine th_n ?_
 refine wpE_cond (t:=((aA != 1) || (aL != 1))) (by kernel_rfl) (fun hc3=>?_) (fun hc3=>?_)
 have h:=h.1 hc3
 refine eg (q0 (.agg #[(vi 0),(vi 0),(vu 0),(vs ⟨#[]⟩),(vb false)]) (st_set (want0 rfl) (xo p2 [(vi 0),(vi 0),(vu 0),(vs ⟨#[]⟩),(vb false)] (Tryz.sizeOf35 _) (hb.k0 2 5 (gS (gS gZ)))) ?_))
 intro w11 hn8
 obtain ⟨hs,hb⟩:=hb.s0 (l':=[(p4,[(vi aL),(vi aS),(vu aK),(vs aT),(vb aJ)],35),(p3,[(vi aA),(vi aD),(vu aC),(vs aE),(vb aB)],35),(p2,[(vi 0),(vi 0),(vu 0),(vs ⟨#[]⟩),(vb false)],35)]) 2 [(vi 0),(vi 0),(vu 0),(vs ⟨#[]⟩),(vb false)] hs hn8 (gS (gS gZ))
 refine q0 (vb false) (q0 (vi 120) (ln (er (th_r ?_))))
 have h:=h H4 w11 hs
 have hs:=hs.here
 refine resG (.inl rfl) (vs:=[(.agg #[(vi 0),(vi 0),(vu 0),(vs ⟨#[]⟩),(vb false)]),(vb false),(vi 120)]) (v:=(.tuple #[(.agg #[(vi 0),(vi 0),(vu 0),(vs ⟨#[]⟩),(vb false)]),(vb false),(vi 120)])) Tryz.results90 ⟨(rA (Tryz.isAgg35 _) (Tryz.sizeOf35 _) (hb.r0 2 5 (gS (gS gZ)))),(rvT (by kernel_rfl)),(rvT (by kernel_rfl)),trivial⟩ (by kernel_rfl) ?_
 exact ⟨0,0,0,⟨#[]⟩,false,false,120,rfl,h⟩
 have h:=h.2 hc3
 refine wpE_skip (th_n (wpE_seq ?_))
 refine wpE_via (fun ρ wJ=>∃HJ:NP,Hst w0 H2 w7 HJ wJ∧HB HJ wJ [(p4,[(vi aL),(vi aS),(vu aK),(vs aT),(vb aJ)],35),(p3,[(vi aA),(vi aD),(vu aC),(vs aE),(vb aB)],35),(p2,[(vi 0),(vi 0),(vu 0),(vs ⟨#[]⟩),(vb false)],35)]∧Has ρ [(6,(vp (some p2))),(9,(vp (some p3))),(11,(vp (some p4))),(13,(vb (aB || aJ)))]) ?_ ?_
 refine rg (q0 (vp (some (p3.add 4))) (q2 (vb aB) (xl (Tryz.isAgg4 _) (hb.c 1 4 (gS gZ))) (q0 (vb aB) ?_)))
 refine wpL_join 3 (fun ρ wJ=>∃b5'0:Bool,∃HJ:NP,(aB=b5'0)∧Hst w0 H2 w7 HJ wJ∧HB HJ wJ [(p4,[(vi aL),(vi aS),(vu aK),(vs aT),(vb aJ)],35),(p3,[(vi aA),(vi aD),(vu aC),(vs aE),(vb aB)],35),(p2,[(vi 0),(vi 0),(vu 0),(vs ⟨#[]⟩),(vb false)],35)]∧Has ρ [(6,(vp (some p2))),(9,(vp (some p3))),(11,(vp (some p4))),(54,(vb (b5'0 || aJ)))]) ?_ ?_
 rintro ρ w14 ⟨b5'0,H7,he0,hs,hb,hH⟩
 subst he0
 refine wpL_has hH ?_
 refine q0 (vb (aB || aJ)) (ln ?_)
 exact ⟨_,hs,hb,hm⟩
 rcases Bool.eq_false_or_eq_true aB with hg6 | hg6
 refine sk (yD 51 hg6) (sk (yD 51 hg6) (q2 (vb true) (xT hg6) (wpL_nil ?_)))
 exact ⟨true,_,hg6,hs,hb,hm⟩
 refine q1 (vp (some (p4.add 4))) (wy 51 hg6) (stp (v:=(vb aJ)) (wy 51 hg6) (xl (Tryz.isAgg4 _) (hb.c 0 4 gZ)) (q2 (vb aJ) (xF hg6) (wpL_nil ?_)))
 exact ⟨false,_,hg6,hs,hb,hm⟩
 rintro ρ w13 ⟨H6,hs,hb,hH⟩
 refine norm_has hH ?_
 refine th_n (wpE_seq (wpE_seq ?_))
 refine wpE_via (fun ρ wJ=>∃b8'0 y1:Bool,∃HJ:NP,((((aD != 0) || (aS != 1)) || (aC != aK))=b8'0)∧(y1=(b8'0 || (!(decide (aE=aT)))))∧Hst w0 H2 w7 HJ wJ∧HB HJ wJ [(p4,[(vi aL),(vi aS),(vu aK),(vs aT),(vb aJ)],35),(p3,[(vi aA),(vi aD),(vu aC),(vs aE),(vb aB)],35),(p2,[(vi 0),(vi 0),(vu 0),(vs ⟨#[]⟩),(vb false)],35)]∧Has ρ [(6,(vp (some p2))),(9,(vp (some p3))),(13,(vb (aB || aJ))),(76,(vb y1))]) ?_ ?_
 refine rg (q0 (vp (some (p3.add 1))) (q2 (vi aD) (xl (Tryz.isAgg3 _) (hb.c 1 1 (gS gZ))) (q0 (vb (aD != 0)) (q0 (vb (aD != 0)) ?_))))
 refine wpL_join 4 (fun ρ wJ=>∃b9'0:Bool,∃HJ:NP,((aD != 0)=b9'0)∧Hst w0 H2 w7 HJ wJ∧HB HJ wJ [(p4,[(vi aL),(vi aS),(vu aK),(vs aT),(vb aJ)],35),(p3,[(vi aA),(vi aD),(vu aC),(vs aE),(vb aB)],35),(p2,[(vi 0),(vi 0),(vu 0),(vs ⟨#[]⟩),(vb false)],35)]∧Has ρ [(6,(vp (some p2))),(9,(vp (some p3))),(11,(vp (some p4))),(13,(vb (aB || aJ))),(62,(vb (b9'0 || (aS != 1))))]) ?_ ?_
 rintro ρ w18 ⟨b9'0,H11,he0,hs,hb,hH⟩
 subst he0
 refine wpL_has hH ?_
 refine q0 (vb ((aD != 0) || (aS != 1))) ?_
 refine wpL_join 6 (fun ρ wJ=>∃b10'0:Bool,∃HJ:NP,(((aD != 0) || (aS != 1))=b10'0)∧Hst w0 H2 w7 HJ wJ∧HB HJ wJ [(p4,[(vi aL),(vi aS),(vu aK),(vs aT),(vb aJ)],35),(p3,[(vi aA),(vi aD),(vu aC),(vs aE),(vb aB)],35),(p2,[(vi 0),(vi 0),(vu 0),(vs ⟨#[]⟩),(vb false)],35)]∧Has ρ [(6,(vp (some p2))),(9,(vp (some p3))),(11,(vp (some p4))),(13,(vb (aB || aJ))),(69,(vb (b10'0 || (aC != aK))))]) ?_ ?_
 rintro ρ w19 ⟨b10'0,H12,he0,hs,hb,hH⟩
 subst he0
 refine wpL_has hH ?_
 refine q0 (vb (((aD != 0) || (aS != 1)) || (aC != aK))) ?_
 rcases Bool.eq_false_or_eq_true (((aD != 0) || (aS != 1)) || (aC != aK)) with hg16 | hg16
 refine sk (yD 70 hg16) (sk (yD 70 hg16) (sk (yD 70 hg16) (sk (yD 70 hg16) (sk (yD 70 hg16) (q2 (vb true) (xT hg16) (ln ?_))))))
 exact ⟨true,_,_,hg16,rfl,hs,hb,hm⟩
 refine q1 (vp (some (p3.add 3))) (wy 70 hg16) (stp (v:=(vs aE)) (wy 70 hg16) (xl (Tryz.isAgg9 _) (hb.c 1 3 (gS gZ))) (q1 (vp (some (p4.add 3))) (wy 70 hg16) (stp (v:=(vs aT)) (wy 70 hg16) (xl (Tryz.isAgg9 _) (hb.c 0 3 gZ)) (stp (v:=(vb (!(decide (aE=aT))))) (wy 70 hg16) (x_strneq (by kernel_rfl) (by kernel_rfl)) (q2 (vb (!(decide (aE=aT)))) (xF hg16) (ln ?_))))))
 exact ⟨false,_,_,hg16,rfl,hs,hb,hm⟩
 rcases Bool.eq_false_or_eq_true ((aD != 0) || (aS != 1)) with hg15 | hg15
 refine sk (yD 63 hg15) (sk (yD 63 hg15) (sk (yD 63 hg15) (sk (yD 63 hg15) (sk (yD 63 hg15) (q2 (vb true) (xT hg15) (wpL_nil ?_))))))
 exact ⟨true,_,hg15,hs,hb,hm⟩
 refine q1 (vp (some (p3.add 2))) (wy 63 hg15) (stp (v:=(vu aC)) (wy 63 hg15) (xl (Tryz.isAgg23 _) (hb.c 1 2 (gS gZ))) (q1 (vp (some (p4.add 2))) (wy 63 hg15) (stp (v:=(vu aK)) (wy 63 hg15) (xl (Tryz.isAgg23 _) (hb.c 0 2 gZ)) (q1 (vb (aC != aK)) (wy 63 hg15) (q2 (vb (aC != aK)) (xF hg15) (wpL_nil ?_))))))
 exact ⟨false,_,hg15,hs,hb,hm⟩
 rcases Bool.eq_false_or_eq_true (aD != 0) with hg13 | hg13
 refine sk (yD 58 hg13) (sk (yD 58 hg13) (sk (yD 58 hg13) (q2 (vb true) (xT hg13) (wpL_nil ?_))))
 exact ⟨true,_,hg13,hs,hb,hm⟩
 refine q1 (vp (some (p4.add 1))) (wy 58 hg13) (stp (v:=(vi aS)) (wy 58 hg13) (xl (Tryz.isAgg3 _) (hb.c 0 1 gZ)) (q1 (vb (aS != 1)) (wy 58 hg13) (q2 (vb (aS != 1)) (xF hg13) (wpL_nil ?_))))
 exact ⟨false,_,hg13,hs,hb,hm⟩
 rintro ρ w17 ⟨b8'0,y1,H10,he0,hy1,hs,hb,hH⟩
 subst he0
 have h:=h y1 hy1
 refine norm_has hH ?_
 refine th_n ?_
 refine wpE_cond (t:=y1) (by kernel_rfl) (fun hc4=>?_) (fun hc4=>?_)
 have h:=h.1 hc4
 refine eg (q2 (.agg #[(vi aA),(vi aD),(vu aC),(vs aE),(vb aB)]) (xa p3 [(vi aA),(vi aD),(vu aC),(vs aE),(vb aB)] (Tryz.isAgg35 _) (Tryz.sizeOf35 _) (hb.r0 1 5 (gS gZ))) (q0 (vb (aB || aJ)) (st_set (want0 rfl) (xo p2 [(vi aA),(vi aD),(vu aC),(vs aE),(vb aB)] (Tryz.sizeOf35 _) (hb.k0 2 5 (gS (gS gZ)))) ?_)))
 intro w20 hn9
 obtain ⟨hs,hb⟩:=hb.s0 (l':=[(p4,[(vi aL),(vi aS),(vu aK),(vs aT),(vb aJ)],35),(p3,[(vi aA),(vi aD),(vu aC),(vs aE),(vb aB)],35),(p2,[(vi aA),(vi aD),(vu aC),(vs aE),(vb aB)],35)]) 2 [(vi aA),(vi aD),(vu aC),(vs aE),(vb aB)] hs hn9 (gS (gS gZ))
 refine q0 (vb (aB || aJ)) (q0 (vi 122) (ln (er (th_r ?_))))
 have h:=h H10 w20 hs
 have hs:=hs.here
 refine resG (.inl rfl) (vs:=[(.agg #[(vi aA),(vi aD),(vu aC),(vs aE),(vb aB)]),(vb (aB || aJ)),(vi 122)]) (v:=(.tuple #[(.agg #[(vi aA),(vi aD),(vu aC),(vs aE),(vb aB)]),(vb (aB || aJ)),(vi 122)])) Tryz.results90 ⟨(rA (Tryz.isAgg35 _) (Tryz.sizeOf35 _) (hb.r0 2 5 (gS (gS gZ)))),(rvT (by kernel_rfl)),(rvT (by kernel_rfl)),trivial⟩ (by kernel_rfl) ?_
 exact ⟨aA,aD,aC,aE,aB,(aB || aJ),122,rfl,h⟩
 have h:=h.2 hc4
 refine wpE_skip (th_n (eg (q2 (.agg #[(vi aA),(vi aD),(vu aC),(vs aE),(vb aB)]) (xa p3 [(vi aA),(vi aD),(vu aC),(vs aE),(vb aB)] (Tryz.isAgg35 _) (Tryz.sizeOf35 _) (hb.r0 1 5 (gS gZ))) (q0 (vb (aB || aJ)) (st_set (want0 rfl) (xo p2 [(vi aA),(vi aD),(vu aC),(vs aE),(vb aB)] (Tryz.sizeOf35 _) (hb.k0 2 5 (gS (gS gZ)))) ?_)))))
 intro w21 hn10
 obtain ⟨hs,hb⟩:=hb.s0 (l':=[(p4,[(vi aL),(vi aS),(vu aK),(vs aT),(vb aJ)],35),(p3,[(vi aA),(vi aD),(vu aC),(vs aE),(vb aB)],35),(p2,[(vi aA),(vi aD),(vu aC),(vs aE),(vb aB)],35)]) 2 [(vi aA),(vi aD),(vu aC),(vs aE),(vb aB)] hs hn10 (gS (gS gZ))
 refine q0 (vb (aB || aJ)) (q0 (vi 0) (ln (er ?_)))
 have h:=h H10 w21 hs
 have hs:=hs.here
 refine resG (.inl rfl) (vs:=[(.agg #[(vi aA),(vi aD),(vu aC),(vs aE),(vb aB)]),(vb (aB || aJ)),(vi 0)]) (v:=(.tuple #[(.agg #[(vi aA),(vi aD),(vu aC),(vs aE),(vb aB)]),(vb (aB || aJ)),(vi 0)])) Tryz.results90 ⟨(rA (Tryz.isAgg35 _) (Tryz.sizeOf35 _) (hb.r0 2 5 (gS (gS gZ)))),(rvT (by kernel_rfl)),(rvT (by kernel_rfl)),trivial⟩ (by kernel_rfl) ?_
 exact ⟨aA,aD,aC,aE,aB,(aB || aJ),0,rfl,h⟩
 refine rg (q0 (vp p1) (q0 (vi a1) ?_))
 have h:=h H1 w1 hs
 have hs:=hs.here
 refine sc Tryz.call160 (h.mono ?_)
 rintro e w22 ⟨r3,rfl,hk,h⟩
 refine ⟨_,rfl,?_⟩
 obtain ⟨hs,hb⟩:=hk.hh hs hb
 refine q0 (vb (r3 == 0)) (q0 (vb (r3 == 0)) ?_)
 rcases Bool.eq_false_or_eq_true (r3 == 0) with hg17 | hg17
 have h:=h.1 hg17
 refine sk (yD 21 hg17) (sk (yD 21 hg17) (sk (yD 21 hg17) (sk (yD 21 hg17) (q2 (vb true) (xT hg17) (ln ?_)))))
 exact ⟨true,H1,hm,hs,hb,h⟩
 have h:=h.2 hg17
 refine q1 (vp p1) (wy 21 hg17) (q1 (vi b1) (wy 21 hg17) ?_)
 refine st_call (wy 21 hg17) (xc Tryz.call160) (h.mono ?_)
 rintro e w23 ⟨r4,rfl,hk,h⟩
 refine ⟨_,rfl,?_⟩
 obtain ⟨hs,hb⟩:=hk.hh hs hb
 refine q1 (vb (r4 == 0)) (wy 21 hg17) (q2 (vb (r4 == 0)) (xF hg17) (ln ?_))
 exact ⟨(r4 == 0),H1,hm,hs,hb,h⟩
def m_S2 (p1:Option Addr) (a1 b1:Int) (w0:World) (K:Int→Int→WP):Prop :=
 Calls Tryz.prog 90 #[(vp p1),(vi a1),(vi b1)] w0 (fun e w1=>∃aA aD aC:Int,∃aE:ByteArray,∃aB r1:Bool,∃r2:Int,e=.returned (.tuple #[(.agg #[(vi aA),(vi aD),(vu aC),(vs aE),(vb aB)]),(vb r1),(vi r2)])∧
  Kept None w0 w1 ∧
  Br (((cond r1 121 r2):Int) != 0)
   (∀(H2:NP) (w4:World),Hst w0 None w1 H2 w4 →
   K 0 (cond r1 121 r2) w4)
   (∀(H2:NP) (w4:World),Hst w0 None w1 H2 w4 →
   Calls Tryz.prog 76 #[(vp p1),(.agg #[(vi 6),(vi 0),(vu aC),(vs aE),(vb false)])] w4 (fun e w5=>∃r3 r4:Int,e=.returned (.tuple #[(vi r3),(vi r4)])∧
    Kept H2 w4 w5 ∧
    K r3 r4 w5)))
theorem w_S2 (p1 : Option Addr) (a1 b1 : Int) (w0 : World) (K : Int → Int → WP) (h : m_S2 p1 a1 b1 w0 K) :
  Calls Tryz.prog 32 #[(vp p1),(vi a1),(vi b1)] w0 (fun e w'=>∃r5 r6:Int,e=.returned (.tuple #[(vi r5),(vi r6)])∧K r5 r6 w'):=by
 unfold m_S2 at h
 refine cw (args:=[(vp p1),(vi a1),(vi b1)]) Tryz.func32 Tryz.ntmps32 ?_
 have hs:=Hst.start w0
 have hb:=HB.nil None w0
 refine eg (q0 (vi 0) (q0 (vi 0) (ln (eg (q0 (vp p1) (q0 (vi a1) (q0 (vi b1) ?_)))))))
 refine sc Tryz.call90 (h.mono ?_)
 rintro e w1 ⟨aA,aD,aC,aE,aB,r1,r2,rfl,hk,h⟩
 refine ⟨_,rfl,?_⟩
 obtain ⟨hs,hb⟩:=hk.hh hs hb
 refine q0 (.tuple #[(.agg #[(vi aA),(vi aD),(vu aC),(vs aE),(vb aB)]),(vb r1),(vi r2)]) (q0 (.agg #[(vi aA),(vi aD),(vu aC),(vs aE),(vb aB)]) (q0 (vb r1) (q0 (vi r2) (sn (O:=(.cells #[(vi 0),(vi 0),(vu 0),(vs ⟨#[]⟩),(vb false)] 35)) (x_alloc (Tryz.zeroValue35 _) rfl) ?_))))
 intro p2 w2 hn1
 obtain ⟨H1,hs,hb⟩:=hs.alloc hb hn1
 refine st_set (want0 rfl) (xo p2 [(vi aA),(vi aD),(vu aC),(vs aE),(vb aB)] (Tryz.sizeOf35 _) (hb.k0 0 5 gZ)) ?_
 intro w3 hn2
 obtain ⟨hs,hb⟩:=hb.s0 (l':=[(p2,[(vi aA),(vi aD),(vu aC),(vs aE),(vb aB)],35)]) 0 [(vi aA),(vi aD),(vu aC),(vs aE),(vb aB)] hs hn2 gZ
 refine q0 (vb r1) (q0 (vi r2) (ln (wpE_seq (eg (q0 (vb r1) (ln ?_))))))
 refine wpE_via (fun ρ wJ=>∃b2'0:Bool,∃HJ:NP,(r1=b2'0)∧Hst w0 None w1 HJ wJ∧HB HJ wJ [(p2,[(vi aA),(vi aD),(vu aC),(vs aE),(vb aB)],35)]∧Has ρ [(0,(vp p1)),(8,(vp (some p2))),(10,(vi (cond b2'0 121 r2)))]) ?_ ?_
 refine wpE_cond (t:=r1) (by kernel_rfl) (fun hc2=>?_) (fun hc2=>?_)
 refine rg (q0 (vi 121) (ln ?_))
 exact ⟨true,_,hc2,hs,hb,hm⟩
 refine wpE_skip (th_n ?_)
 exact ⟨false,_,hc2,hs,hb,hm⟩
 rintro ρ w4 ⟨b2'0,H2,he0,hs,hb,hH⟩
 subst he0
 refine norm_has hH ?_
 refine th_n (wpE_seq (eg (q0 (vi (cond r1 121 r2)) (q0 (vb (((cond r1 121 r2):Int) != 0)) (ln ?_)))))
 refine wpE_cond (t:=(((cond r1 121 r2):Int) != 0)) (by kernel_rfl) (fun hc3=>?_) (fun hc3=>?_)
 have h:=h.1 hc3
 refine eg (q0 (vi (cond r1 121 r2)) (q0 (vi 0) (q0 (vi (cond r1 121 r2)) (ln (er (th_r ?_))))))
 have h:=h H2 w4 hs
 have hs:=hs.here
 refine res2 (.inl rfl) Tryz.results32 (v:=(vi 0)) (by kernel_rfl) (v':=(vi (cond r1 121 r2))) (by kernel_rfl) ?_
 exact ⟨0,(cond r1 121 r2),rfl,h⟩
 have h:=h.2 hc3
 refine wpE_skip (th_n (eg (q0 (vp p1) (q0 (vp (some (p2.add 2))) (q2 (vu aC) (xl (Tryz.isAgg23 _) (hb.c 0 2 gZ)) (q0 (vp (some (p2.add 3))) (q2 (vs aE) (xl (Tryz.isAgg9 _) (hb.c 0 3 gZ)) (q0 (.agg #[(vi 6),(vi 0),(vu aC),(vs aE),(vb false)]) ?_))))))))
 have h:=h H2 w4 hs
 have hs:=hs.here
 refine sc Tryz.call76 (h.mono ?_)
 rintro e w5 ⟨r3,r4,rfl,hk,h⟩
 refine ⟨_,rfl,?_⟩
 obtain ⟨hs,hb⟩:=hk.hh hs hb
 refine q0 (vi r3) (q0 (vi r4) (q0 (vi r3) (q0 (vi r4) (ln (er (res2 (.inl rfl) Tryz.results32 (v:=(vi r3)) (by kernel_rfl) (v':=(vi r4)) (by kernel_rfl) ?_))))))
 exact ⟨r3,r4,rfl,h⟩
def m_T2 (p1:Option Addr) (who1 a1 b1:Int) (w0:World) (K:Int→Int→WP):Prop :=
 Br ((who1 != 0) && (who1 != 1))
  (∀(H1:NP) (w1:World),Hst w0 None w0 H1 w1 →
  K 0 2 w1)
  (∀(H1:NP) (w1:World),Hst w0 None w0 H1 w1 →
  Calls Tryz.prog 90 #[(vp p1),(vi a1),(vi b1)] w1 (fun e w2=>∃aA aD aC:Int,∃aE:ByteArray,∃aB r1:Bool,∃r2:Int,e=.returned (.tuple #[(.agg #[(vi aA),(vi aD),(vu aC),(vs aE),(vb aB)]),(vb r1),(vi r2)])∧
   Kept H1 w1 w2 ∧
   Br (r2 != 0)
    (∀(H2:NP) (w4:World),Hst w0 H1 w2 H2 w4 →
    K 0 r2 w4)
    (∀(H2:NP) (w4:World),Hst w0 H1 w2 H2 w4 →
    Calls Tryz.prog 91 #[(vp p1),(vi a1),(vi b1)] w4 (fun e w5=>∃r3 r4:Int,e=.returned (.tuple #[(vi r3),(vi r4)])∧
     Kept H2 w4 w5 ∧
     Br (r4 != 0)
      (K 0 r4 w5)
      (Calls Tryz.prog 92 #[(vp p1),(vs (⟨#[114,101,115,111,108,118,101]⟩:ByteArray))] w5 (fun e w6=>∃r5 r6:Int,e=.returned (.tuple #[(vi r5),(vi r6)])∧
       Kept H2 w5 w6 ∧
       Br (r6 != 0)
        (K 0 r6 w6)
        (Calls Tryz.prog 91 #[(vp p1),(vi r5),(vi r3)] w6 (fun e w7=>∃r7 r8:Int,e=.returned (.tuple #[(vi r7),(vi r8)])∧
         Kept H2 w6 w7 ∧
         Br (r8 != 0)
          (K 0 r8 w7)
          (Calls Tryz.prog 93 #[(vp p1),(vi who1),(vi r7)] w7 (fun e w8=>∃r9 r10:Int,e=.returned (.tuple #[(vi r9),(vi r10)])∧
           Kept H2 w7 w8 ∧
           K r9 r10 w8))))))))))
theorem w_T2 (p1 : Option Addr) (who1 a1 b1 : Int) (w0 : World) (K : Int → Int → WP) (h : m_T2 p1 who1 a1 b1 w0 K) :
  Calls Tryz.prog 33 #[(vp p1),(vi who1),(vi a1),(vi b1)] w0 (fun e w'=>∃r11 r12:Int,e=.returned (.tuple #[(vi r11),(vi r12)])∧K r11 r12 w'):=by
 unfold m_T2 at h
 refine cw (args:=[(vp p1),(vi who1),(vi a1),(vi b1)]) Tryz.func33 Tryz.ntmps33 ?_
 have hs:=Hst.start w0
 have hb:=HB.nil None w0
 refine eg (q0 (vi 0) (q0 (vi 0) (ln (wpE_seq (wpE_seq ?_)))))
 refine wpE_via (fun ρ wJ=>∃b2'0:Bool,∃HJ:NP,((who1 != 0)=b2'0)∧Hst w0 None w0 HJ wJ∧HB HJ wJ []∧Has ρ [(0,(vp p1)),(1,(vi who1)),(2,(vi a1)),(3,(vi b1)),(21,(vb (b2'0 && (who1 != 1))))]) ?_ ?_
 refine rg (q0 (vi who1) (q0 (vb (who1 != 0)) (q0 (vb (who1 != 0)) ?_)))
 rcases Bool.eq_false_or_eq_true (who1 != 0) with hg2 | hg2
 refine q1 (vi who1) (wy 18 hg2) (q1 (vb (who1 != 1)) (wy 18 hg2) (q2 (vb (who1 != 1)) (xT hg2) (ln ?_)))
 exact ⟨true,_,hg2,hs,hb,hm⟩
 refine sk (yD 18 hg2) (sk (yD 18 hg2) (q2 (vb false) (xF hg2) (ln ?_)))
 exact ⟨false,_,hg2,hs,hb,hm⟩
 rintro ρ w1 ⟨b2'0,H1,he0,hs,hb,hH⟩
 subst he0
 refine norm_has hH ?_
 refine th_n ?_
 refine wpE_cond (t:=((who1 != 0) && (who1 != 1))) (by kernel_rfl) (fun hc1=>?_) (fun hc1=>?_)
 have h:=h.1 hc1
 refine eg (q0 (vi 0) (q0 (vi 2) (ln (er (th_r ?_)))))
 have h:=h H1 w1 hs
 have hs:=hs.here
 refine res2 (.inl rfl) Tryz.results33 (v:=(vi 0)) (by kernel_rfl) (v':=(vi 2)) (by kernel_rfl) ?_
 exact ⟨0,2,rfl,h⟩
 have h:=h.2 hc1
 refine wpE_skip (th_n (wpE_seq (eg (q0 (vp p1) (q0 (vi a1) (q0 (vi b1) ?_))))))
 have h:=h H1 w1 hs
 have hs:=hs.here
 refine sc Tryz.call90 (h.mono ?_)
 rintro e w2 ⟨aA,aD,aC,aE,aB,r1,r2,rfl,hk,h⟩
 refine ⟨_,rfl,?_⟩
 obtain ⟨hs,hb⟩:=hk.hh hs hb
 refine q0 (.tuple #[(.agg #[(vi aA),(vi aD),(vu aC),(vs aE),(vb aB)]),(vb r1),(vi r2)]) (q0 (.agg #[(vi aA),(vi aD),(vu aC),(vs aE),(vb aB)]) (q0 (vb r1) (q0 (vi r2) (sn (O:=(.cells #[(vi 0),(vi 0),(vu 0),(vs ⟨#[]⟩),(vb false)] 35)) (x_alloc (Tryz.zeroValue35 _) rfl) ?_))))
 intro p2 w3 hn1
 obtain ⟨H2,hs,hb⟩:=hs.alloc hb hn1
 refine st_set (want0 rfl) (xo p2 [(vi aA),(vi aD),(vu aC),(vs aE),(vb aB)] (Tryz.sizeOf35 _) (hb.k0 0 5 gZ)) ?_
 intro w4 hn2
 obtain ⟨hs,hb⟩:=hb.s0 (l':=[(p2,[(vi aA),(vi aD),(vu aC),(vs aE),(vb aB)],35)]) 0 [(vi aA),(vi aD),(vu aC),(vs aE),(vb aB)] hs hn2 gZ
 refine q0 (vb r1) (q0 (vi r2) (ln (eg (q0 (vi r2) (q0 (vb (r2 != 0)) (ln ?_))))))
 refine wpE_cond (t:=(r2 != 0)) (by kernel_rfl) (fun hc2=>?_) (fun hc2=>?_)
 have h:=h.1 hc2
 refine eg (q0 (vi r2) (q0 (vi 0) (q0 (vi r2) (ln (er (th_r ?_))))))
 have h:=h H2 w4 hs
 have hs:=hs.here
 refine res2 (.inl rfl) Tryz.results33 (v:=(vi 0)) (by kernel_rfl) (v':=(vi r2)) (by kernel_rfl) ?_
 exact ⟨0,r2,rfl,h⟩
 have h:=h.2 hc2
 refine wpE_skip (th_n (eg (q0 (vp p1) (q0 (vi a1) (q0 (vi b1) ?_)))))
 have h:=h H2 w4 hs
 have hs:=hs.here
 refine sc Tryz.call91 (h.mono ?_)
 rintro e w5 ⟨r3,r4,rfl,hk,h⟩
 refine ⟨_,rfl,?_⟩
 obtain ⟨hs,hb⟩:=hk.hh hs hb
 refine q0 (.tuple #[(vi r3),(vi r4)]) (q0 (vi r3) (q0 (vi r4) (q0 (vi r3) (q0 (vi r4) (ln (wpE_seq (eg (q0 (vi r4) (q0 (vb (r4 != 0)) ?_)))))))))
 refine ln ?_
 refine wpE_cond (t:=(r4 != 0)) (by kernel_rfl) (fun hc3=>?_) (fun hc3=>?_)
 have h:=h.1 hc3
 refine eg (q0 (vi r4) (q0 (vi 0) (q0 (vi r4) (ln (er (th_r (res2 (.inl rfl) Tryz.results33 (v:=(vi 0)) (by kernel_rfl) (v':=(vi r4)) (by kernel_rfl) ?_)))))))
 exact ⟨0,r4,rfl,h⟩
 have h:=h.2 hc3
 refine wpE_skip (th_n (eg (q0 (vp p1) ?_)))
 refine sc Tryz.call92 (h.mono ?_)
 rintro e w6 ⟨r5,r6,rfl,hk,h⟩
 refine ⟨_,rfl,?_⟩
 obtain ⟨hs,hb⟩:=hk.hh hs hb
 refine q0 (.tuple #[(vi r5),(vi r6)]) (q0 (vi r5) (q0 (vi r6) (q0 (vi r5) (q0 (vi r6) (ln (wpE_seq (eg (q0 (vi r6) (q0 (vb (r6 != 0)) ?_)))))))))
 refine ln ?_
 refine wpE_cond (t:=(r6 != 0)) (by kernel_rfl) (fun hc4=>?_) (fun hc4=>?_)
 have h:=h.1 hc4
 refine eg (q0 (vi r6) (q0 (vi 0) (q0 (vi r6) (ln (er (th_r (res2 (.inl rfl) Tryz.results33 (v:=(vi 0)) (by kernel_rfl) (v':=(vi r6)) (by kernel_rfl) ?_)))))))
 exact ⟨0,r6,rfl,h⟩
 have h:=h.2 hc4
 refine wpE_skip (th_n (wpE_seq (eg (q0 (vp p1) (q0 (vi r5) (q0 (vi r3) ?_))))))
 refine sc Tryz.call91 (h.mono ?_)
 rintro e w7 ⟨r7,r8,rfl,hk,h⟩
 refine ⟨_,rfl,?_⟩
 obtain ⟨hs,hb⟩:=hk.hh hs hb
 refine q0 (.tuple #[(vi r7),(vi r8)]) (q0 (vi r7) (q0 (vi r8) (q0 (vi r7) (q0 (vi r8) (ln (eg (q0 (vi r8) (q0 (vb (r8 != 0)) (wpL_nil ?_)))))))))
 refine th_n ?_
 refine wpE_cond (t:=(r8 != 0)) (by kernel_rfl) (fun hc5=>?_) (fun hc5=>?_)
 have h:=h.1 hc5
 refine eg (q0 (vi r8) (q0 (vi 0) (q0 (vi r8) (ln (er (th_r (res2 (.inl rfl) Tryz.results33 (v:=(vi 0)) (by kernel_rfl) (v':=(vi r8)) (by kernel_rfl) ?_)))))))
 exact ⟨0,r8,rfl,h⟩
 have h:=h.2 hc5
 refine wpE_skip (th_n (eg (q0 (vp p1) (q0 (vi who1) (q0 (vi r7) ?_)))))
 refine sc Tryz.call93 (h.mono ?_)
 rintro e w8 ⟨r9,r10,rfl,hk,h⟩
 refine ⟨_,rfl,?_⟩
 obtain ⟨hs,hb⟩:=hk.hh hs hb
 refine q0 (vi r9) (q0 (vi r10) (q0 (vi r9) (q0 (vi r10) (ln (er (res2 (.inl rfl) Tryz.results33 (v:=(vi r9)) (by kernel_rfl) (v':=(vi r10)) (by kernel_rfl) ?_))))))
 exact ⟨r9,r10,rfl,h⟩
def s_N1 (e1:Int):Int :=
 e1
theorem pw_N1 (e1 : Int) (w0 : World) :
  Calls Tryz.prog 36 #[(vi e1)] w0 (fun e w'=>(e=.returned (vi e1))∧Pure w0 w'):=by
 refine cw (args:=[(vi e1)]) Tryz.func36 Tryz.ntmps36 (eg (q0 (vi 0) (ln (eg (q0 (vi e1) (q0 (vi e1) (ln ?_)))))))
 refine er (rs1 Tryz.results36 (v:=(vi e1)) ?_)
 exact ⟨by kernel_rfl,Ext.refl _⟩
theorem p_N1 (e1:Int) (w0:World):Calls Tryz.prog 36 #[(.int .i64 e1)] w0 (fun e w'=>e=.returned (.int .i64 (s_N1 e1))∧Pure w0 w'):=pw_N1 e1 w0
def m_Z1 (bM bN bO:Int) (bP:ByteArray) (bQ:Bool) (w0:World) (K:Sl→WP):Prop :=
 ∀(p1:Addr) (w1:World),New w0 (.cells #[(vi bM),(vi bN),(vu bO),(vs bP),(vb bQ)] 35) p1 w1 →
 ∃v1:Int,w1.cell? p1=some (vi v1) ∧
 Br (v1 == 1)
  (∃v2:Bool,w1.cell? (p1.add 4)=some (vb v2) ∧
  Br v2
   (K Sl.nil w1)
   (∃v3:Int,w1.cell? (p1.add 1)=some (vi v3) ∧
   Calls Tryz.prog 162 #[(vi 1),(vi v3),(vp (some p1))] w1 (fun e w2=>∃aA bL aC:Int,∃aE:ByteArray,e=.returned (.agg #[(vi aA),(vi bL),(vu aC),(vs aE)])∧
    ∀(p2:Addr) (w3:World),New w2 (.cells #[(vi aA),(vi bL),(vu aC),(vs aE)] 75) p2 w3 →
    K (Sl.mk (some p2) 1 1) w3)))
  (Br (v1 == 2)
   (∃v4:Int,w1.cell? (p1.add 1)=some (vi v4) ∧
   Calls Tryz.prog 162 #[(vi 2),(vi v4),(vp (some p1))] w1 (fun e w4=>∃aL bR aK:Int,∃aT:ByteArray,e=.returned (.agg #[(vi aL),(vi bR),(vu aK),(vs aT)])∧
    ∀(p3:Addr) (w5:World),New w4 (.cells #[(vi aL),(vi bR),(vu aK),(vs aT)] 75) p3 w5 →
    K (Sl.mk (some p3) 1 1) w5))
   (Br (v1 == 3)
    (Calls Tryz.prog 162 #[(vi 3),(vi 0),(vp (some p1))] w1 (fun e w6=>∃bI bS bJ:Int,∃bK:ByteArray,e=.returned (.agg #[(vi bI),(vi bS),(vu bJ),(vs bK)])∧
     ∀(p4:Addr) (w7:World),New w6 (.cells #[(vi bI),(vi bS),(vu bJ),(vs bK)] 75) p4 w7 →
     K (Sl.mk (some p4) 1 1) w7))
    (Br (v1 == 4)
     (∃v5:Int,w1.cell? (p1.add 1)=some (vi v5) ∧
     Calls Tryz.prog 162 #[(vi 4),(vi v5),(vp (some p1))] w1 (fun e w8=>∃bT bU bV:Int,∃bW:ByteArray,e=.returned (.agg #[(vi bT),(vi bU),(vu bV),(vs bW)])∧
      ∀(p5:Addr) (w9:World),New w8 (.cells #[(vi bT),(vi bU),(vu bV),(vs bW)] 75) p5 w9 →
      ∃v6:Bool,w9.cell? (p1.add 4)=some (vb v6) ∧
      Br (!v6)
       (Calls Tryz.prog 162 #[(vi 1),(vi 0),(vp (some p1))] w9 (fun e w10=>∃bX bY bZ:Int,∃cA:ByteArray,e=.returned (.agg #[(vi bX),(vi bY),(vu bZ),(vs cA)])∧
        Calls Tryz.prog 162 #[(vi 1),(vi 1),(vp (some p1))] w10 (fun e w11=>∃cB cC cD:Int,∃cE:ByteArray,e=.returned (.agg #[(vi cB),(vi cC),(vu cD),(vs cE)])∧
         ∀(p6:Addr) (w12:World),New w11 (.cells #[(vi bX),(vi bY),(vu bZ),(vs cA),(vi cB),(vi cC),(vu cD),(vs cE)] 75) p6 w12 →
         ∃s1:Sl,∃w13:World,(Builtin.append_ #[71,71] 71 #[(Sl.mk (some p5) 1 1).v,(Sl.mk (some p6) 2 2).v]).run Tryz.prog w12=.ok s1.v w13 ∧
         K s1 w13)))
       (K (Sl.mk (some p5) 1 1) w9)))
     (Br (v1 == 5)
      (Calls Tryz.prog 162 #[(vi 5),(vi 2),(vp (some p1))] w1 (fun e w14=>∃cF cG cH:Int,∃cI:ByteArray,e=.returned (.agg #[(vi cF),(vi cG),(vu cH),(vs cI)])∧
       ∀(p7:Addr) (w15:World),New w14 (.cells #[(vi cF),(vi cG),(vu cH),(vs cI)] 75) p7 w15 →
       K (Sl.mk (some p7) 1 1) w15))
      (Br (v1 == 6)
       (Calls Tryz.prog 162 #[(vi 6),(vi 2),(vp (some p1))] w1 (fun e w16=>∃cJ cK cL:Int,∃cM:ByteArray,e=.returned (.agg #[(vi cJ),(vi cK),(vu cL),(vs cM)])∧
        Calls Tryz.prog 162 #[(vi 2),(vi 0),(vp (some p1))] w16 (fun e w17=>∃cN cO cP:Int,∃cQ:ByteArray,e=.returned (.agg #[(vi cN),(vi cO),(vu cP),(vs cQ)])∧
         Calls Tryz.prog 162 #[(vi 2),(vi 1),(vp (some p1))] w17 (fun e w18=>∃cR cS cT:Int,∃cU:ByteArray,e=.returned (.agg #[(vi cR),(vi cS),(vu cT),(vs cU)])∧
          ∀(p8:Addr) (w19:World),New w18 (.cells #[(vi cJ),(vi cK),(vu cL),(vs cM),(vi cN),(vi cO),(vu cP),(vs cQ),(vi cR),(vi cS),(vu cT),(vs cU)] 75) p8 w19 →
          K (Sl.mk (some p8) 3 3) w19))))
       (K Sl.nil w1))))))
theorem w_Z1 (bM bN bO : Int) (bP : ByteArray) (bQ : Bool) (w0 : World) (K : Sl → WP) (h : m_Z1 bM bN bO bP bQ w0 K) :
  Calls Tryz.prog 94 #[(.agg #[(vi bM),(vi bN),(vu bO),(vs bP),(vb bQ)])] w0 (fun e w'=>∃r1:Sl,e=.returned r1.v∧K r1 w'):=by
 unfold m_Z1 at h
 refine cw (args:=[(.agg #[(vi bM),(vi bN),(vu bO),(vs bP),(vb bQ)])]) Tryz.func94 Tryz.ntmps94 (eg (sn (O:=(.cells #[(vi bM),(vi bN),(vu bO),(vs bP),(vb bQ)] 35)) xb ?_))
 intro p1 w1 hn8
 have h:=h p1 w1 hn8
 refine q0 Sl.nil.v (ln (eg (q0 (.func (.func 162) #[] #[(vp (some p1))]) (q0 (.func (.func 162) #[] #[(vp (some p1))]) (ln (wpE_seq (eg ?_)))))))
 refine q0 (vp (some p1)) ?_
 obtain ⟨v1,hv7,h⟩:=h
 refine q2 (vi v1) (xl (Tryz.isAgg3 _) hv7) (ln (wpE_block (eg (q0 (vb (v1 == 1)) (q0 (vb (v1 == 1)) (ln ?_))))))
 refine wpE_cond (t:=(v1 == 1)) (by kernel_rfl) (fun hc1=>?_) (fun hc1=>?_)
 have h:=h.1 hc1
 refine wpE_seq (eg (q0 (vp (some (p1.add 4))) ?_))
 obtain ⟨v2,hv2,h⟩:=h
 refine q2 (vb v2) (xl (Tryz.isAgg4 _) hv2) (ln ?_)
 refine wpE_cond (t:=v2) (by kernel_rfl) (fun hc2=>?_) (fun hc2=>?_)
 have h:=h.1 hc2
 refine eg (q0 Sl.nil.v (ln (er (th_r (bl_r (th_r (rs1 Tryz.results94 (v:=Sl.nil.v) ?_)))))))
 exact ⟨Sl.nil,rfl,h⟩
 have h:=h.2 hc2
 refine wpE_skip (th_n (eg (q0 (.func (.func 162) #[] #[(vp (some p1))]) (q0 (vp (some (p1.add 1))) ?_))))
 obtain ⟨v3,hv1,h⟩:=h
 refine q2 (vi v3) (xl (Tryz.isAgg3 _) hv1) ?_
 refine st_call (want0 rfl) (x_callm (fs:=#[]) (caps:=#[(vp (some p1))]) (args:=#[(vi 1),(vi v3)]) (args':=#[(vi 1),(vi v3),(vp (some p1))]) (by kernel_rfl) Tryz.call162 (by kernel_rfl) (by kernel_rfl)) (h.mono ?_)
 rintro e w2 ⟨aA,bL,aC,aE,rfl,h⟩
 refine ⟨_,rfl,?_⟩
 refine st_new (O:=(.cells #[(vi aA),(vi bL),(vu aC),(vs aE)] 75)) (fun p=>(Sl.mk (some p) 1 1).v) (want0 rfl) (x_buildSlice (vs:=#[(0,(.agg #[(vi aA),(vi bL),(vu aC),(vs aE)]))]) (by kernel_rfl) (by kernel_rfl)) ?_
 intro p2 w3 hn1
 have h:=h p2 w3 hn1
 refine q0 ((Sl.mk (some p2) 1 1).v) (ln (er (bl_r (th_r (rs1 Tryz.results94 (v:=(Sl.mk (some p2) 1 1).v) ?_)))))
 exact ⟨(Sl.mk (some p2) 1 1),rfl,h⟩
 have h:=h.2 hc1
 refine eg (q0 (vb (v1 == 2)) (q0 (vb (v1 == 2)) (ln ?_)))
 refine wpE_cond (t:=(v1 == 2)) (by kernel_rfl) (fun hc3=>?_) (fun hc3=>?_)
 have h:=h.1 hc3
 refine eg (q0 (.func (.func 162) #[] #[(vp (some p1))]) (q0 (vp (some (p1.add 1))) ?_))
 obtain ⟨v4,hv3,h⟩:=h
 refine q2 (vi v4) (xl (Tryz.isAgg3 _) hv3) ?_
 refine st_call (want0 rfl) (x_callm (fs:=#[]) (caps:=#[(vp (some p1))]) (args:=#[(vi 2),(vi v4)]) (args':=#[(vi 2),(vi v4),(vp (some p1))]) (by kernel_rfl) Tryz.call162 (by kernel_rfl) (by kernel_rfl)) (h.mono ?_)
 rintro e w4 ⟨aL,bR,aK,aT,rfl,h⟩
 refine ⟨_,rfl,?_⟩
 refine st_new (O:=(.cells #[(vi aL),(vi bR),(vu aK),(vs aT)] 75)) (fun p=>(Sl.mk (some p) 1 1).v) (want0 rfl) (x_buildSlice (vs:=#[(0,(.agg #[(vi aL),(vi bR),(vu aK),(vs aT)]))]) (by kernel_rfl) (by kernel_rfl)) ?_
 intro p3 w5 hn2
 have h:=h p3 w5 hn2
 refine q0 ((Sl.mk (some p3) 1 1).v) (ln (er (bl_r (th_r (rs1 Tryz.results94 (v:=(Sl.mk (some p3) 1 1).v) ?_)))))
 exact ⟨(Sl.mk (some p3) 1 1),rfl,h⟩
 have h:=h.2 hc3
 refine eg (q0 (vb (v1 == 3)) (q0 (vb (v1 == 3)) (ln ?_)))
 refine wpE_cond (t:=(v1 == 3)) (by kernel_rfl) (fun hc4=>?_) (fun hc4=>?_)
 have h:=h.1 hc4
 refine eg (q0 (.func (.func 162) #[] #[(vp (some p1))]) ?_)
 refine st_call (want0 rfl) (x_callm (fs:=#[]) (caps:=#[(vp (some p1))]) (args:=#[(vi 3),(vi 0)]) (args':=#[(vi 3),(vi 0),(vp (some p1))]) (by kernel_rfl) Tryz.call162 (by kernel_rfl) (by kernel_rfl)) (h.mono ?_)
 rintro e w6 ⟨bI,bS,bJ,bK,rfl,h⟩
 refine ⟨_,rfl,?_⟩
 refine st_new (O:=(.cells #[(vi bI),(vi bS),(vu bJ),(vs bK)] 75)) (fun p=>(Sl.mk (some p) 1 1).v) (want0 rfl) (x_buildSlice (vs:=#[(0,(.agg #[(vi bI),(vi bS),(vu bJ),(vs bK)]))]) (by kernel_rfl) (by kernel_rfl)) ?_
 intro p4 w7 hn3
 have h:=h p4 w7 hn3
 refine q0 ((Sl.mk (some p4) 1 1).v) (ln (er (bl_r (th_r (rs1 Tryz.results94 (v:=(Sl.mk (some p4) 1 1).v) ?_)))))
 exact ⟨(Sl.mk (some p4) 1 1),rfl,h⟩
 have h:=h.2 hc4
 refine eg (q0 (vb (v1 == 4)) (q0 (vb (v1 == 4)) (ln ?_)))
 refine wpE_cond (t:=(v1 == 4)) (by kernel_rfl) (fun hc5=>?_) (fun hc5=>?_)
 have h:=h.1 hc5
 refine eg (q0 (.func (.func 162) #[] #[(vp (some p1))]) (q0 (vp (some (p1.add 1))) ?_))
 obtain ⟨v5,hv6,h⟩:=h
 refine q2 (vi v5) (xl (Tryz.isAgg3 _) hv6) ?_
 refine st_call (want0 rfl) (x_callm (fs:=#[]) (caps:=#[(vp (some p1))]) (args:=#[(vi 4),(vi v5)]) (args':=#[(vi 4),(vi v5),(vp (some p1))]) (by kernel_rfl) Tryz.call162 (by kernel_rfl) (by kernel_rfl)) (h.mono ?_)
 rintro e w8 ⟨bT,bU,bV,bW,rfl,h⟩
 refine ⟨_,rfl,?_⟩
 refine st_new (O:=(.cells #[(vi bT),(vi bU),(vu bV),(vs bW)] 75)) (fun p=>(Sl.mk (some p) 1 1).v) (want0 rfl) (x_buildSlice (vs:=#[(0,(.agg #[(vi bT),(vi bU),(vu bV),(vs bW)]))]) (by kernel_rfl) (by kernel_rfl)) ?_
 intro p5 w9 hn5
 have h:=h p5 w9 hn5
 refine q0 ((Sl.mk (some p5) 1 1).v) (ln (wpE_seq (eg (q0 (vp (some (p1.add 4))) ?_))))
 obtain ⟨v6,hv5,h⟩:=h
 refine q2 (vb v6) (xl (Tryz.isAgg4 _) hv5) (q0 (vb (!v6)) (ln ?_))
 refine wpE_cond (t:=(!v6)) (by kernel_rfl) (fun hc6=>?_) (fun hc6=>?_)
 have h:=h.1 hc6
 refine rg (q0 ((Sl.mk (some p5) 1 1).v) (q0 (.func (.func 162) #[] #[(vp (some p1))]) ?_))
 refine st_call (want0 rfl) (x_callm (fs:=#[]) (caps:=#[(vp (some p1))]) (args:=#[(vi 1),(vi 0)]) (args':=#[(vi 1),(vi 0),(vp (some p1))]) (by kernel_rfl) Tryz.call162 (by kernel_rfl) (by kernel_rfl)) (h.mono ?_)
 rintro e w10 ⟨bX,bY,bZ,cA,rfl,h⟩
 refine ⟨_,rfl,?_⟩
 refine q0 (.func (.func 162) #[] #[(vp (some p1))]) ?_
 refine st_call (want0 rfl) (x_callm (fs:=#[]) (caps:=#[(vp (some p1))]) (args:=#[(vi 1),(vi 1)]) (args':=#[(vi 1),(vi 1),(vp (some p1))]) (by kernel_rfl) Tryz.call162 (by kernel_rfl) (by kernel_rfl)) (h.mono ?_)
 rintro e w11 ⟨cB,cC,cD,cE,rfl,h⟩
 refine ⟨_,rfl,?_⟩
 refine st_new (O:=(.cells #[(vi bX),(vi bY),(vu bZ),(vs cA),(vi cB),(vi cC),(vu cD),(vs cE)] 75)) (fun p=>(Sl.mk (some p) 2 2).v) (want0 rfl) (x_buildSlice (vs:=#[(0,(.agg #[(vi bX),(vi bY),(vu bZ),(vs cA)])),(1,(.agg #[(vi cB),(vi cC),(vu cD),(vs cE)]))]) (by kernel_rfl) (by kernel_rfl)) ?_
 intro p6 w12 hn4
 have h:=h p6 w12 hn4
 obtain ⟨s1,w13,hv4,h⟩:=h
 refine st (v:=s1.v) (want0 rfl) (x_builtin (args:=#[(Sl.mk (some p5) 1 1).v,(Sl.mk (some p6) 2 2).v]) (by kernel_rfl) (fun _=>rfl) hv4) (q0 s1.v (ln (eg (q0 s1.v (q0 s1.v (ln (er (bl_r ?_))))))))
 refine th_r (rs1 Tryz.results94 (v:=s1.v) ?_)
 exact ⟨s1,rfl,h⟩
 have h:=h.2 hc6
 refine wpE_skip (th_n (eg (q0 ((Sl.mk (some p5) 1 1).v) (q0 ((Sl.mk (some p5) 1 1).v) (ln (er (bl_r (th_r (rs1 Tryz.results94 (v:=(Sl.mk (some p5) 1 1).v) ?_)))))))))
 exact ⟨(Sl.mk (some p5) 1 1),rfl,h⟩
 have h:=h.2 hc5
 refine eg (q0 (vb (v1 == 5)) (q0 (vb (v1 == 5)) (ln ?_)))
 refine wpE_cond (t:=(v1 == 5)) (by kernel_rfl) (fun hc7=>?_) (fun hc7=>?_)
 have h:=h.1 hc7
 refine eg (q0 (.func (.func 162) #[] #[(vp (some p1))]) ?_)
 refine st_call (want0 rfl) (x_callm (fs:=#[]) (caps:=#[(vp (some p1))]) (args:=#[(vi 5),(vi 2)]) (args':=#[(vi 5),(vi 2),(vp (some p1))]) (by kernel_rfl) Tryz.call162 (by kernel_rfl) (by kernel_rfl)) (h.mono ?_)
 rintro e w14 ⟨cF,cG,cH,cI,rfl,h⟩
 refine ⟨_,rfl,?_⟩
 refine st_new (O:=(.cells #[(vi cF),(vi cG),(vu cH),(vs cI)] 75)) (fun p=>(Sl.mk (some p) 1 1).v) (want0 rfl) (x_buildSlice (vs:=#[(0,(.agg #[(vi cF),(vi cG),(vu cH),(vs cI)]))]) (by kernel_rfl) (by kernel_rfl)) ?_
 intro p7 w15 hn6
 have h:=h p7 w15 hn6
 refine q0 ((Sl.mk (some p7) 1 1).v) (ln (er (bl_r (th_r (rs1 Tryz.results94 (v:=(Sl.mk (some p7) 1 1).v) ?_)))))
 exact ⟨(Sl.mk (some p7) 1 1),rfl,h⟩
 have h:=h.2 hc7
 refine eg (q0 (vb (v1 == 6)) (q0 (vb (v1 == 6)) (ln ?_)))
 refine wpE_cond (t:=(v1 == 6)) (by kernel_rfl) (fun hc8=>?_) (fun hc8=>?_)
 have h:=h.1 hc8
 refine eg (q0 (.func (.func 162) #[] #[(vp (some p1))]) ?_)
 refine st_call (want0 rfl) (x_callm (fs:=#[]) (caps:=#[(vp (some p1))]) (args:=#[(vi 6),(vi 2)]) (args':=#[(vi 6),(vi 2),(vp (some p1))]) (by kernel_rfl) Tryz.call162 (by kernel_rfl) (by kernel_rfl)) (h.mono ?_)
 rintro e w16 ⟨cJ,cK,cL,cM,rfl,h⟩
 refine ⟨_,rfl,?_⟩
 refine q0 (.func (.func 162) #[] #[(vp (some p1))]) ?_
 refine st_call (want0 rfl) (x_callm (fs:=#[]) (caps:=#[(vp (some p1))]) (args:=#[(vi 2),(vi 0)]) (args':=#[(vi 2),(vi 0),(vp (some p1))]) (by kernel_rfl) Tryz.call162 (by kernel_rfl) (by kernel_rfl)) (h.mono ?_)
 rintro e w17 ⟨cN,cO,cP,cQ,rfl,h⟩
 refine ⟨_,rfl,?_⟩
 refine q0 (.func (.func 162) #[] #[(vp (some p1))]) ?_
 refine st_call (want0 rfl) (x_callm (fs:=#[]) (caps:=#[(vp (some p1))]) (args:=#[(vi 2),(vi 1)]) (args':=#[(vi 2),(vi 1),(vp (some p1))]) (by kernel_rfl) Tryz.call162 (by kernel_rfl) (by kernel_rfl)) (h.mono ?_)
 rintro e w18 ⟨cR,cS,cT,cU,rfl,h⟩
 refine ⟨_,rfl,?_⟩
 refine st_new (O:=(.cells #[(vi cJ),(vi cK),(vu cL),(vs cM),(vi cN),(vi cO),(vu cP),(vs cQ),(vi cR),(vi cS),(vu cT),(vs cU)] 75)) (fun p=>(Sl.mk (some p) 3 3).v) (want0 rfl) (x_buildSlice (vs:=#[(0,(.agg #[(vi cJ),(vi cK),(vu cL),(vs cM)])),(1,(.agg #[(vi cN),(vi cO),(vu cP),(vs cQ)])),(2,(.agg #[(vi cR),(vi cS),(vu cT),(vs cU)]))]) (by kernel_rfl) (by kernel_rfl)) ?_
 intro p8 w19 hn7
 have h:=h p8 w19 hn7
 refine q0 ((Sl.mk (some p8) 3 3).v) (ln (er (bl_r (th_r (rs1 Tryz.results94 (v:=(Sl.mk (some p8) 3 3).v) ?_)))))
 exact ⟨(Sl.mk (some p8) 3 3),rfl,h⟩
 have h:=h.2 hc8
 refine wpE_skip (bl_n (th_n (eg (q0 Sl.nil.v (ln (er (rs1 Tryz.results94 (v:=Sl.nil.v) ?_)))))))
 exact ⟨Sl.nil,rfl,h⟩
theorem eqt_evidence_Why_eql_75 (a0 a1 a2:Int) (a3:ByteArray) (b0 b1 b2:Int) (b3:ByteArray) (w:World):(Go.binOp .eql 75 (.agg #[(.int .i64 a0),(.int .i64 a1),(.int .u64 a2),(.string a3)]) (.agg #[(.int .i64 b0),(.int .i64 b1),(.int .u64 b2),(.string b3)])).run Tryz.prog w=.ok (.bool ((a0 == b0) && ((a1 == b1) && ((a2 == b2) && (decide (a3=b3)))))) w:=by
 simp [Go.binOp,Op.equal,Op.maxDepth,go_sem,streq,bne]
 repeat' split
 all_goals simp_all
def m_D1_l1 (who1 c1:Int) (text1:ByteArray) (r2:Sl) (why1 x1:Int) (w0:World) (Hl1:NP) (wl1:World) (Kc1:Int→Int→NP→WP) (K:Int→WP):Prop :=
 Br (decide (x1<(r2.len:Int)))
  (∃a1:Addr,At r2 x1 4 a1 ∧
  ∃aF aH aI:Int,∃aG:ByteArray,Row wl1 a1 [(vi aF),(vi aH),(vu aI),(vs aG)] ∧
  Br (aF != 2)
   (∀(H3:NP) (w8:World),Hst w0 Hl1 wl1 H3 w8 →
   Kc1 why1 (q6.wrap (x1+1)) H3 w8)
   (Br ((aF == 2) && ((aH == who1) && ((aI == c1) && (decide (aG=text1)))))
    (∀(H3:NP) (w8:World),Hst w0 Hl1 wl1 H3 w8 →
    K 0 w8)
    (Br (aH != who1)
     (∀(H3:NP) (w8:World),Hst w0 Hl1 wl1 H3 w8 →
     ∃z1:Int,(Builtin.max_ #[3,3] 3 #[(vi why1),(vi 3)]).run Tryz.prog w8=.ok (vi z1) w8 ∧
     Kc1 z1 (q6.wrap (x1+1)) H3 w8)
     (Br (aI != c1)
      (∀(H3:NP) (w8:World),Hst w0 Hl1 wl1 H3 w8 →
      ∃z2:Int,(Builtin.max_ #[3,3] 3 #[(vi why1),(vi 4)]).run Tryz.prog w8=.ok (vi z2) w8 ∧
      Kc1 z2 (q6.wrap (x1+1)) H3 w8)
      (∀(H3:NP) (w8:World),Hst w0 Hl1 wl1 H3 w8 →
      ∃z3:Int,(Builtin.max_ #[3,3] 3 #[(vi why1),(vi 5)]).run Tryz.prog w8=.ok (vi z3) w8 ∧
      Kc1 z3 (q6.wrap (x1+1)) H3 w8)))))
  (K why1 wl1)
def m_D1 (p1:Option Addr) (t1 who1 c1:Int) (text1:ByteArray) (w0:World) (K:Int→WP):Prop :=
 Calls Tryz.prog 51 #[(vp p1),(vi t1)] w0 (fun e w1=>∃aA aD aC:Int,∃aE:ByteArray,∃aB r1:Bool,e=.returned (.tuple #[(.agg #[(vi aA),(vi aD),(vu aC),(vs aE),(vb aB)]),(vb r1)])∧
  Kept None w0 w1 ∧
  Br (!r1)
   (∀(H1:NP) (w3:World),Hst w0 None w1 H1 w3 →
   K 1 w3)
   (∀(H2:NP) (w5:World),Hst w0 None w1 H2 w5 →
   Calls Tryz.prog 94 #[(.agg #[(vi aA),(vi aD),(vu aC),(vs aE),(vb aB)])] w5 (fun e w6=>∃r2:Sl,e=.returned r2.v∧
    Kept H2 w5 w6 ∧
    ∃(I1:Int→Int→NP→WP) (mu1:Int→Int→World→Nat),I1 2 0 H2 w6 ∧
     ∀(why1 x1:Int) (Hl1:NP) (wl1:World),Hst w0 Hl1 wl1 Hl1 wl1→I1 why1 x1 Hl1 wl1→m_D1_l1 who1 c1 text1 r2 why1 x1 w0 Hl1 wl1 (fun y'0 y'1 H' w'=>I1 y'0 y'1 H' w'∧mu1 y'0 y'1 w'<mu1 why1 x1 wl1) K)))
theorem w_D1 (p1 : Option Addr) (t1 who1 c1 : Int) (text1 : ByteArray) (w0 : World) (K : Int → WP) (h : m_D1 p1 t1 who1 c1 text1 w0 K) :
  Calls Tryz.prog 35 #[(vp p1),(vi t1),(vi who1),(vu c1),(vs text1)] w0 (fun e w'=>∃r3:Int,e=.returned (vi r3)∧K r3 w'):=by
 unfold m_D1 at h
 refine cw (args:=[(vp p1),(vi t1),(vi who1),(vu c1),(vs text1)]) Tryz.func35 Tryz.ntmps35 ?_
 have hs:=Hst.start w0
 have hb:=HB.nil None w0
 refine eg (q0 (vi 0) (ln (eg (q0 (vp p1) (q0 (vi t1) ?_)))))
 refine sc Tryz.call51 (h.mono ?_)
 rintro e w1 ⟨aA,aD,aC,aE,aB,r1,rfl,hk,h⟩
 refine ⟨_,rfl,?_⟩
 obtain ⟨hs,hb⟩:=hk.hh hs hb
 refine q0 (.tuple #[(.agg #[(vi aA),(vi aD),(vu aC),(vs aE),(vb aB)]),(vb r1)]) (q0 (.agg #[(vi aA),(vi aD),(vu aC),(vs aE),(vb aB)]) (q0 (vb r1) (sn (O:=(.cells #[(vi 0),(vi 0),(vu 0),(vs ⟨#[]⟩),(vb false)] 35)) (x_alloc (Tryz.zeroValue35 _) rfl) ?_)))
 intro p2 w2 hn1
 obtain ⟨H1,hs,hb⟩:=hs.alloc hb hn1
 refine st_set (want0 rfl) (xo p2 [(vi aA),(vi aD),(vu aC),(vs aE),(vb aB)] (Tryz.sizeOf35 _) (hb.k0 0 5 gZ)) ?_
 intro w3 hn2
 obtain ⟨hs,hb⟩:=hb.s0 (l':=[(p2,[(vi aA),(vi aD),(vu aC),(vs aE),(vb aB)],35)]) 0 [(vi aA),(vi aD),(vu aC),(vs aE),(vb aB)] hs hn2 gZ
 refine q0 (vb r1) (ln (wpE_seq (eg (q0 (vb r1) (q0 (vb (!r1)) (ln ?_))))))
 refine wpE_cond (t:=(!r1)) (by kernel_rfl) (fun hc1=>?_) (fun hc1=>?_)
 have h:=h.1 hc1
 refine eg (q0 (vi 1) (ln (er (th_r ?_))))
 have h:=h H1 w3 hs
 have hs:=hs.here
 refine rs1 Tryz.results35 (v:=(vi 1)) ?_
 exact ⟨1,rfl,h⟩
 have h:=h.2 hc1
 refine wpE_skip (th_n (eg (q0 (vi who1) (q0 (vu c1) (q0 (vs text1) (q0 (.agg #[(vi 2),(vi who1),(vu c1),(vs text1)]) (sn (O:=(.cells #[(vi 0),(vi 0),(vu 0),(vs ⟨#[]⟩)] 75)) (x_alloc (Tryz.zeroValue75 _) rfl) ?_)))))))
 intro p3 w4 hn3
 obtain ⟨H2,hs,hb⟩:=hs.alloc hb hn3
 refine st_set (want0 rfl) (xo p3 [(vi 2),(vi who1),(vu c1),(vs text1)] (Tryz.sizeOf75 _) (hb.k0 0 4 gZ)) ?_
 intro w5 hn4
 obtain ⟨hs,hb⟩:=hb.s0 (l':=[(p3,[(vi 2),(vi who1),(vu c1),(vs text1)],75),(p2,[(vi aA),(vi aD),(vu aC),(vs aE),(vb aB)],35)]) 0 [(vi 2),(vi who1),(vu c1),(vs text1)] hs hn4 gZ
 refine ln (eg (q0 (vi 2) (ln (wpE_seq (eg (q2 (.agg #[(vi aA),(vi aD),(vu aC),(vs aE),(vb aB)]) (xa p2 [(vi aA),(vi aD),(vu aC),(vs aE),(vb aB)] (Tryz.isAgg35 _) (Tryz.sizeOf35 _) (hb.r0 1 5 (gS gZ))) ?_))))))
 have h:=h H2 w5 hs
 have hs:=hs.here
 refine sc Tryz.call94 (h.mono ?_)
 rintro e w6 ⟨r2,rfl,hk,h⟩
 refine ⟨_,rfl,?_⟩
 obtain ⟨hs,hb⟩:=hk.hh hs hb
 refine q0 (vi (r2.len:Int)) (q0 (vi 0) (ln (wpE_block ?_)))
 obtain ⟨I1,mu1,h0,hr⟩:=h
 refine wpE_loop (σ:=Int×Int×NP×World) (fun s ρ w=>w=s.2.2.2∧Has ρ [(2,(vi who1)),(3,(vu c1)),(13,(vp (some p3))),(14,(vi s.1)),(30,r2.v),(31,(vi (r2.len:Int))),(32,(vi s.2.1))]∧Hst w0 s.2.2.1 w s.2.2.1 w∧HB s.2.2.1 w [(p3,[(vi 2),(vi who1),(vu c1),(vs text1)],75),(p2,[(vi aA),(vi aD),(vu aC),(vs aE),(vb aB)],35)]∧I1 s.1 s.2.1 s.2.2.1 s.2.2.2) (fun s=>mu1 s.1 s.2.1 s.2.2.2) (2,0,H2,w6) ⟨rfl,hm,hs,hb,h0⟩ ?_
 rintro ⟨why1,x1,Hl1,wl1⟩ ρ w ⟨hw,hH,hs,hb,hI⟩
 obtain rfl:wl1=w:=(show w=wl1 from hw).symm
 have hH:Has ρ [(2,(vi who1)),(3,(vu c1)),(13,(vp (some p3))),(14,(vi why1)),(30,r2.v),(31,(vi (r2.len:Int))),(32,(vi x1))]:=hH
 have hs:Hst w0 Hl1 wl1 Hl1 wl1:=hs
 have hb:HB Hl1 wl1 [(p3,[(vi 2),(vi who1),(vu c1),(vs text1)],75),(p2,[(vi aA),(vi aD),(vu aC),(vs aE),(vb aB)],35)]:=hb
 have h:=hr why1 x1 Hl1 wl1 hs hI
 unfold m_D1_l1 at h
 refine wpE_has hH ?_
 refine eg (q0 (vb (decide (x1<(r2.len:Int)))) (ln (wpE_seq ?_)))
 refine wpE_cond (t:=(decide (x1<(r2.len:Int)))) (by kernel_rfl) (fun hc2=>?_) (fun hc2=>?_)
 have h:=h.1 hc2
 refine wpE_skip (th_n (wpE_seq (wpE_block (eg ?_))))
 obtain ⟨a1,hv5,h⟩:=h
 refine q2 (vp (some a1)) (xi (Tryz.runUnderlying71 _) (Tryz.sizeOf75 _) hv5) ?_
 obtain ⟨aF,aH,aI,aG,hv4,h⟩:=h
 refine q2 (.agg #[(vi aF),(vi aH),(vu aI),(vs aG)]) (xa a1 [(vi aF),(vi aH),(vu aI),(vs aG)] (Tryz.isAgg75 _) (Tryz.sizeOf75 _) hv4) (sn (O:=(.cells #[(vi 0),(vi 0),(vu 0),(vs ⟨#[]⟩)] 75)) (x_alloc (Tryz.zeroValue75 _) rfl) ?_)
 intro p4 w7 hn5
 obtain ⟨H3,hs,hb⟩:=hs.alloc hb hn5
 refine st_set (want0 rfl) (xo p4 [(vi aF),(vi aH),(vu aI),(vs aG)] (Tryz.sizeOf75 _) (hb.k0 0 4 gZ)) ?_
 intro w8 hn6
 obtain ⟨hs,hb⟩:=hb.s0 (l':=[(p4,[(vi aF),(vi aH),(vu aI),(vs aG)],75),(p3,[(vi 2),(vi who1),(vu c1),(vs text1)],75),(p2,[(vi aA),(vi aD),(vu aC),(vs aE),(vb aB)],35)]) 0 [(vi aF),(vi aH),(vu aI),(vs aG)] hs hn6 gZ
 refine ln (wpE_block (eg (q0 (vp (some p4)) (q2 (vi aF) (xl (Tryz.isAgg3 _) (hb.c0 0 gZ)) (q0 (vb (aF != 2)) (q0 (vb (aF != 2)) (ln ?_)))))))
 refine wpE_cond (t:=(aF != 2)) (by kernel_rfl) (fun hc3=>?_) (fun hc3=>?_)
 have h:=h.1 hc3
 refine wpE_skip (bl_n (bl_n (th_n (rg (q0 (vi (q6.wrap (x1+1))) (q0 (vi (q6.wrap (x1+1))) (wpL_nil ?_)))))))
 have h:=h H3 w8 hs
 have hs:=hs.here
 refine th_n ?_
 exact ⟨(why1,(q6.wrap (x1+1)),H3,w8),⟨rfl,hm,hs,hb.drop 1,h.1⟩,h.2⟩
 have h:=h.2 hc3
 refine eg (q2 (.agg #[(vi aF),(vi aH),(vu aI),(vs aG)]) (xa p4 [(vi aF),(vi aH),(vu aI),(vs aG)] (Tryz.isAgg75 _) (Tryz.sizeOf75 _) (hb.r0 0 4 gZ)) (q2 (.agg #[(vi 2),(vi who1),(vu c1),(vs text1)]) (xa p3 [(vi 2),(vi who1),(vu c1),(vs text1)] (Tryz.isAgg75 _) (Tryz.sizeOf75 _) (hb.r0 1 4 (gS gZ))) (q2 (vb ((aF == 2) && ((aH == who1) && ((aI == c1) && (decide (aG=text1)))))) (x_aggeq (by kernel_rfl) (by kernel_rfl) (by kernel_rfl) (eqt_evidence_Why_eql_75 aF aH aI aG 2 who1 c1 text1 _)) (q0 (vb ((aF == 2) && ((aH == who1) && ((aI == c1) && (decide (aG=text1)))))) (ln ?_)))))
 refine wpE_cond (t:=((aF == 2) && ((aH == who1) && ((aI == c1) && (decide (aG=text1)))))) (by kernel_rfl) (fun hc4=>?_) (fun hc4=>?_)
 have h:=h.1 hc4
 refine eg (q0 (vi 0) (ln (er (bl_r (bl_r (th_r (th_r (bl_r (th_r ?_)))))))))
 have h:=h H3 w8 hs
 have hs:=hs.here
 refine rs1 Tryz.results35 (v:=(vi 0)) ?_
 exact ⟨0,rfl,h⟩
 have h:=h.2 hc4
 refine eg (q0 (vp (some (p4.add 1))) (q2 (vi aH) (xl (Tryz.isAgg3 _) (hb.c 0 1 gZ)) (q0 (vi who1) (q0 (vb (aH != who1)) (q0 (vb (aH != who1)) (ln ?_))))))
 refine wpE_cond (t:=(aH != who1)) (by kernel_rfl) (fun hc5=>?_) (fun hc5=>?_)
 have h:=h.1 hc5
 refine rg (q0 (vi why1) ?_)
 have h:=h H3 w8 hs
 have hs:=hs.here
 obtain ⟨z1,hv1,h⟩:=h
 refine q2 (vi z1) (x_builtin (args:=#[(vi why1),(vi 3)]) (by kernel_rfl) (fun _=>rfl) hv1) (q0 (vi z1) (wpL_nil (bl_n (bl_n (th_n (rg (q0 (vi (q6.wrap (x1+1))) (q0 (vi (q6.wrap (x1+1))) (ln ?_)))))))))
 exact ⟨(z1,(q6.wrap (x1+1)),H3,w8),⟨rfl,hm,hs,hb.drop 1,h.1⟩,h.2⟩
 have h:=h.2 hc5
 refine eg (q0 (vp (some (p4.add 2))) (q2 (vu aI) (xl (Tryz.isAgg23 _) (hb.c 0 2 gZ)) (q0 (vu c1) (q0 (vb (aI != c1)) (q0 (vb (aI != c1)) (ln ?_))))))
 refine wpE_cond (t:=(aI != c1)) (by kernel_rfl) (fun hc6=>?_) (fun hc6=>?_)
 have h:=h.1 hc6
 refine rg (q0 (vi why1) ?_)
 have h:=h H3 w8 hs
 have hs:=hs.here
 obtain ⟨z2,hv2,h⟩:=h
 refine q2 (vi z2) (x_builtin (args:=#[(vi why1),(vi 4)]) (by kernel_rfl) (fun _=>rfl) hv2) (q0 (vi z2) (wpL_nil (bl_n (bl_n (th_n (rg (q0 (vi (q6.wrap (x1+1))) (q0 (vi (q6.wrap (x1+1))) (ln ?_)))))))))
 exact ⟨(z2,(q6.wrap (x1+1)),H3,w8),⟨rfl,hm,hs,hb.drop 1,h.1⟩,h.2⟩
 have h:=h.2 hc6
 refine rg (q0 (vi why1) ?_)
 have h:=h H3 w8 hs
 have hs:=hs.here
 obtain ⟨z3,hv3,h⟩:=h
 refine q2 (vi z3) (x_builtin (args:=#[(vi why1),(vi 5)]) (by kernel_rfl) (fun _=>rfl) hv3) (q0 (vi z3) (wpL_nil (bl_n (bl_n (th_n (rg (q0 (vi (q6.wrap (x1+1))) (q0 (vi (q6.wrap (x1+1))) (ln ?_)))))))))
 exact ⟨(z3,(q6.wrap (x1+1)),H3,w8),⟨rfl,hm,hs,hb.drop 1,h.1⟩,h.2⟩
 have h:=h.2 hc2
 refine wpE_exit (th_x (th_x (bl_eq (th_n (eg (q0 (vi why1) (q0 (vi why1) (ln (er ?_)))))))))
 refine rs1 Tryz.results35 (v:=(vi why1)) ?_
 exact ⟨why1,rfl,h⟩
def m_U2 (p1:Option Addr) (t1 who1 c1:Int) (text1:ByteArray) (w0:World) (K:Bool→WP):Prop :=
 Calls Tryz.prog 35 #[(vp p1),(vi t1),(vi who1),(vu c1),(vs text1)] w0 (fun e w1=>∃r1:Int,e=.returned (vi r1)∧
  K (r1 == 0) w1)
theorem w_U2 (p1 : Option Addr) (t1 who1 c1 : Int) (text1 : ByteArray) (w0 : World) (K : Bool → WP) (h : m_U2 p1 t1 who1 c1 text1 w0 K) :
  Calls Tryz.prog 45 #[(vp p1),(vi t1),(vi who1),(vu c1),(vs text1)] w0 (fun e w'=>∃r2:Bool,e=.returned (vb r2)∧K r2 w'):=by
 unfold m_U2 at h
 refine cw (args:=[(vp p1),(vi t1),(vi who1),(vu c1),(vs text1)]) Tryz.func45 Tryz.ntmps45 (eg (q0 (vb false) (ln (eg (q0 (vp p1) (q0 (vi t1) (q0 (vi who1) (q0 (vu c1) ?_))))))))
 refine q0 (vs text1) ?_
 refine sc Tryz.call35 (h.mono ?_)
 rintro e w1 ⟨r1,rfl,h⟩
 refine ⟨_,rfl,?_⟩
 refine q0 (vb (r1 == 0)) (q0 (vb (r1 == 0)) (ln (er (rs1 Tryz.results45 (v:=(vb (r1 == 0))) ?_))))
 exact ⟨(r1 == 0),rfl,h⟩
def m_V2 (p1:Option Addr) (t1:Int) (w0:World) (K:Sl→WP):Prop :=
 Calls Tryz.prog 51 #[(vp p1),(vi t1)] w0 (fun e w1=>∃aA aD aC:Int,∃aE:ByteArray,∃aB r1:Bool,e=.returned (.tuple #[(.agg #[(vi aA),(vi aD),(vu aC),(vs aE),(vb aB)]),(vb r1)])∧
  Kept None w0 w1 ∧
  Br (!r1)
   (∀(H1:NP) (w3:World),Hst w0 None w1 H1 w3 →
   K Sl.nil w3)
   (∀(H1:NP) (w3:World),Hst w0 None w1 H1 w3 →
   Calls Tryz.prog 94 #[(.agg #[(vi aA),(vi aD),(vu aC),(vs aE),(vb aB)])] w3 (fun e w4=>∃r2:Sl,e=.returned r2.v∧
    Kept H1 w3 w4 ∧
    K r2 w4)))
theorem w_V2 (p1 : Option Addr) (t1 : Int) (w0 : World) (K : Sl → WP) (h : m_V2 p1 t1 w0 K) :
  Calls Tryz.prog 34 #[(vp p1),(vi t1)] w0 (fun e w'=>∃r3:Sl,e=.returned r3.v∧K r3 w'):=by
 unfold m_V2 at h
 refine cw (args:=[(vp p1),(vi t1)]) Tryz.func34 Tryz.ntmps34 ?_
 have hs:=Hst.start w0
 have hb:=HB.nil None w0
 refine eg (q0 Sl.nil.v (ln (eg (q0 (vp p1) (q0 (vi t1) ?_)))))
 refine sc Tryz.call51 (h.mono ?_)
 rintro e w1 ⟨aA,aD,aC,aE,aB,r1,rfl,hk,h⟩
 refine ⟨_,rfl,?_⟩
 obtain ⟨hs,hb⟩:=hk.hh hs hb
 refine q0 (.tuple #[(.agg #[(vi aA),(vi aD),(vu aC),(vs aE),(vb aB)]),(vb r1)]) (q0 (.agg #[(vi aA),(vi aD),(vu aC),(vs aE),(vb aB)]) (q0 (vb r1) (sn (O:=(.cells #[(vi 0),(vi 0),(vu 0),(vs ⟨#[]⟩),(vb false)] 35)) (x_alloc (Tryz.zeroValue35 _) rfl) ?_)))
 intro p2 w2 hn1
 obtain ⟨H1,hs,hb⟩:=hs.alloc hb hn1
 refine st_set (want0 rfl) (xo p2 [(vi aA),(vi aD),(vu aC),(vs aE),(vb aB)] (Tryz.sizeOf35 _) (hb.k0 0 5 gZ)) ?_
 intro w3 hn2
 obtain ⟨hs,hb⟩:=hb.s0 (l':=[(p2,[(vi aA),(vi aD),(vu aC),(vs aE),(vb aB)],35)]) 0 [(vi aA),(vi aD),(vu aC),(vs aE),(vb aB)] hs hn2 gZ
 refine q0 (vb r1) (ln (wpE_seq (eg (q0 (vb r1) (q0 (vb (!r1)) (ln ?_))))))
 refine wpE_cond (t:=(!r1)) (by kernel_rfl) (fun hc1=>?_) (fun hc1=>?_)
 have h:=h.1 hc1
 refine eg (q0 Sl.nil.v (ln (er (th_r ?_))))
 have h:=h H1 w3 hs
 have hs:=hs.here
 refine rs1 Tryz.results34 (v:=Sl.nil.v) ?_
 exact ⟨Sl.nil,rfl,h⟩
 have h:=h.2 hc1
 refine wpE_skip (th_n (eg (q2 (.agg #[(vi aA),(vi aD),(vu aC),(vs aE),(vb aB)]) (xa p2 [(vi aA),(vi aD),(vu aC),(vs aE),(vb aB)] (Tryz.isAgg35 _) (Tryz.sizeOf35 _) (hb.r0 0 5 gZ)) ?_)))
 have h:=h H1 w3 hs
 have hs:=hs.here
 refine sc Tryz.call94 (h.mono ?_)
 rintro e w4 ⟨r2,rfl,hk,h⟩
 refine ⟨_,rfl,?_⟩
 obtain ⟨hs,hb⟩:=hk.hh hs hb
 refine q0 r2.v (ln (er (rs1 Tryz.results34 (v:=r2.v) ?_)))
 exact ⟨r2,rfl,h⟩
def m_S_l2 (p1:Option Addr) (r3 out1:Sl) (x2:Int) (wl2:World) (Kc2:Sl→Int→WP) (K:Sl→WP):Prop :=
 Br (decide (x2<(r3.len:Int)))
  (∃a2:Addr,At r3 x2 1 a2 ∧
  ∃v2:Int,wl2.cell? a2=some (vi v2) ∧
  Calls Tryz.prog 34 #[(vp p1),(vi v2)] wl2 (fun e w4=>∃r4:Sl,e=.returned r4.v∧
   ∃s1:Sl,∃w5:World,(Builtin.append_ #[71,71] 71 #[out1.v,r4.v]).run Tryz.prog w4=.ok s1.v w5 ∧
   Kc2 s1 (q6.wrap (x2+1)) w5))
  (Calls Tryz.prog 81 #[out1.v,(.func (.func 28) #[] #[])] wl2 (fun e w6=>e=.returned (.tuple #[])∧
   Calls Tryz.prog 82 #[out1.v] w6 (fun e w7=>∃r5:Sl,e=.returned r5.v∧
    K r5 w7)))
def m_S_l1 (p1:Option Addr) (l1:Sl) (r1:Option Addr) (x1:Int) (wl1:World) (Kc1:Int→WP) (K:Sl→WP):Prop :=
 Br (decide (x1<(l1.len:Int)))
  (∃a1:Addr,At l1 x1 1 a1 ∧
  ∃v1:Int,wl1.cell? a1=some (vi v1) ∧
  Calls Tryz.prog 79 #[(vp r1),(vi v1)] wl1 (fun e w2=>∃r2:Int,e=.returned (vi r2)∧
   Kc1 (q6.wrap (x1+1)) w2))
  (Calls Tryz.prog 80 #[(vp r1)] wl1 (fun e w3=>∃r3:Sl,e=.returned r3.v∧
   ∃(I2:Sl→Int→WP) (mu2:Sl→Int→World→Nat),I2 Sl.nil 0 w3 ∧
    ∀(out1:Sl) (x2:Int) (wl2:World),I2 out1 x2 wl2→m_S_l2 p1 r3 out1 x2 wl2 (fun y'0 y'1 w'=>I2 y'0 y'1 w'∧mu2 y'0 y'1 w'<mu2 out1 x2 wl2) K))
def m_S (p1:Option Addr) (l1:Sl) (w0:World) (K:Sl→WP):Prop :=
 Calls Tryz.prog 62 #[(vp p1)] w0 (fun e w1=>∃r1:Option Addr,e=.returned (vp r1)∧
  ∃(I1:Int→WP) (mu1:Int→World→Nat),I1 0 w1 ∧
   ∀(x1:Int) (wl1:World),I1 x1 wl1→m_S_l1 p1 l1 r1 x1 wl1 (fun y'0 w'=>I1 y'0 w'∧mu1 y'0 w'<mu1 x1 wl1) K)
theorem w_S (p1 : Option Addr) (l1 : Sl) (w0 : World) (K : Sl → WP) (h : m_S p1 l1 w0 K) :
  Calls Tryz.prog 26 #[(vp p1),l1.v] w0 (fun e w'=>∃r6:Sl,e=.returned r6.v∧K r6 w'):=by
 unfold m_S at h
 refine cw (args:=[(vp p1),l1.v]) Tryz.func26 Tryz.ntmps26 (eg (q0 Sl.nil.v (ln (eg (q0 (vp p1) ?_)))))
 refine sc Tryz.call62 (h.mono ?_)
 rintro e w1 ⟨r1,rfl,h⟩
 refine ⟨_,rfl,?_⟩
 refine q0 (vp r1) (ln (wpE_seq (eg (q0 l1.v (q0 (vi (l1.len:Int)) (q0 (vi 0) (ln (wpE_block ?_))))))))
 obtain ⟨I1,mu1,h0,hr⟩:=h
 refine wpE_loop (σ:=Int×World) (fun s ρ w=>w=s.2∧Has ρ [(0,(vp p1)),(5,(vp r1)),(13,l1.v),(14,(vi (l1.len:Int))),(15,(vi s.1))]∧I1 s.1 s.2) (fun s=>mu1 s.1 s.2) (0,w1) ⟨rfl,hm,h0⟩ ?_
 rintro ⟨x1,wl1⟩ ρ w ⟨hw,hH,hI⟩
 obtain rfl:wl1=w:=(show w=wl1 from hw).symm
 have hH:Has ρ [(0,(vp p1)),(5,(vp r1)),(13,l1.v),(14,(vi (l1.len:Int))),(15,(vi x1))]:=hH
 have h:=hr x1 wl1 hI
 unfold m_S_l1 at h
 refine wpE_has hH ?_
 refine eg (q0 (vb (decide (x1<(l1.len:Int)))) (ln (wpE_seq ?_)))
 refine wpE_cond (t:=(decide (x1<(l1.len:Int)))) (by kernel_rfl) (fun hc1=>?_) (fun hc1=>?_)
 have h:=h.1 hc1
 refine wpE_skip (th_n (wpE_seq (wpE_block (eg ?_))))
 obtain ⟨a1,hv2,h⟩:=h
 refine q2 (vp (some a1)) (xi (Tryz.runUnderlying46 _) (Tryz.sizeOf78 _) hv2) ?_
 obtain ⟨v1,hv1,h⟩:=h
 refine q2 (vi v1) (xl (Tryz.isAgg78 _) hv1) (q0 (vi v1) (ln (rg (q0 (vp r1) (q0 (vi v1) ?_)))))
 refine sc Tryz.call79 (h.mono ?_)
 rintro e w2 ⟨r2,rfl,h⟩
 refine ⟨_,rfl,?_⟩
 refine wpL_nil (bl_n (th_n (rg (q0 (vi (q6.wrap (x1+1))) (q0 (vi (q6.wrap (x1+1))) (ln ?_))))))
 exact ⟨((q6.wrap (x1+1)),w2),⟨rfl,hm,h.1⟩,h.2⟩
 have h:=h.2 hc1
 refine wpE_exit (th_x (th_x (bl_eq (th_n (eg (q0 Sl.nil.v (ln (wpE_seq (wpE_seq ?_)))))))))
 refine rg (q0 (vp r1) ?_)
 refine sc Tryz.call80 (h.mono ?_)
 rintro e w3 ⟨r3,rfl,h⟩
 refine ⟨_,rfl,?_⟩
 refine q0 (vi (r3.len:Int)) (q0 (vi 0) (ln (wpE_block ?_)))
 obtain ⟨I2,mu2,h0,hr⟩:=h
 refine wpE_loop (σ:=Sl×Int×World) (fun s ρ w=>w=s.2.2∧Has ρ [(0,(vp p1)),(8,s.1.v),(24,r3.v),(25,(vi (r3.len:Int))),(26,(vi s.2.1))]∧I2 s.1 s.2.1 s.2.2) (fun s=>mu2 s.1 s.2.1 s.2.2) (Sl.nil,0,w3) ⟨rfl,hm,h0⟩ ?_
 rintro ⟨out1,x2,wl2⟩ ρ w ⟨hw,hH,hI⟩
 obtain rfl:wl2=w:=(show w=wl2 from hw).symm
 have hH:Has ρ [(0,(vp p1)),(8,out1.v),(24,r3.v),(25,(vi (r3.len:Int))),(26,(vi x2))]:=hH
 have h:=hr out1 x2 wl2 hI
 unfold m_S_l2 at h
 refine wpE_has hH ?_
 refine eg (q0 (vb (decide (x2<(r3.len:Int)))) (ln (wpE_seq ?_)))
 refine wpE_cond (t:=(decide (x2<(r3.len:Int)))) (by kernel_rfl) (fun hc2=>?_) (fun hc2=>?_)
 have h:=h.1 hc2
 refine wpE_skip (th_n (wpE_seq (wpE_block (eg ?_))))
 obtain ⟨a2,hv5,h⟩:=h
 refine q2 (vp (some a2)) (xi (Tryz.runUnderlying46 _) (Tryz.sizeOf78 _) hv5) ?_
 obtain ⟨v2,hv4,h⟩:=h
 refine q2 (vi v2) (xl (Tryz.isAgg78 _) hv4) (q0 (vi v2) (ln (rg (q0 out1.v (q0 (vp p1) (q0 (vi v2) ?_))))))
 refine sc Tryz.call34 (h.mono ?_)
 rintro e w4 ⟨r4,rfl,h⟩
 refine ⟨_,rfl,?_⟩
 obtain ⟨s1,w5,hv3,h⟩:=h
 refine st (v:=s1.v) (want0 rfl) (x_builtin (args:=#[out1.v,r4.v]) (by kernel_rfl) (fun _=>rfl) hv3) (q0 s1.v (wpL_nil (bl_n (th_n (rg (q0 (vi (q6.wrap (x2+1))) (q0 (vi (q6.wrap (x2+1))) (ln ?_))))))))
 exact ⟨(s1,(q6.wrap (x2+1)),w5),⟨rfl,hm,h.1⟩,h.2⟩
 have h:=h.2 hc2
 refine wpE_exit (th_x (th_x (bl_eq (th_n (eg (q0 out1.v ?_))))))
 refine sc Tryz.call81 (h.mono ?_)
 rintro e w6 ⟨rfl,h⟩
 refine ⟨_,rfl,?_⟩
 refine ln (eg (q0 out1.v ?_))
 refine sc Tryz.call82 (h.mono ?_)
 rintro e w7 ⟨r5,rfl,h⟩
 refine ⟨_,rfl,?_⟩
 refine q0 r5.v (ln (er (rs1 Tryz.results26 (v:=r5.v) ?_)))
 exact ⟨r5,rfl,h⟩
def m_I_j4 (r1:Option Addr) (r12:Int) (x4:Bool) (H:NP) (w:World) (K:Bool→WP):Prop :=
 Br x4
  (∀(p2:Addr) (w24:World),New w (.cells #[(vi r12)] 78) p2 w24 →
  Calls Tryz.prog 26 #[(vp r1),(Sl.mk (some p2) 1 1).v] w24 (fun e w25=>∃r15:Sl,e=.returned r15.v∧
   Kept H w24 w25 ∧
   K (((r15.len:Int):Int) == 3) w25))
  (K false w)
def m_I_j3 (r1:Option Addr) (r6 r12:Int) (x3:Bool) (H:NP) (w:World) (K:Bool→WP):Prop :=
 Br x3
  (Calls Tryz.prog 34 #[(vp r1),(vi r6)] w (fun e w26=>∃r16:Sl,e=.returned r16.v∧
   Kept H w w26 ∧
   m_I_j4 r1 r12 (((r16.len:Int):Int) == 3) H w26 K))
  (m_I_j4 r1 r12 false H w K)
def m_I_j2 (r1:Option Addr) (r2 r6 r12:Int) (x2:Bool) (H:NP) (w:World) (K:Bool→WP):Prop :=
 Br x2
  (Calls Tryz.prog 35 #[(vp r1),(vi r2),(vi 0),(vu 7),(vs (⟨#[120]⟩:ByteArray))] w (fun e w27=>∃r17:Int,e=.returned (vi r17)∧
   Kept H w w27 ∧
   m_I_j3 r1 r6 r12 (r17 == 2) H w27 K))
  (m_I_j3 r1 r6 r12 false H w K)
def m_I_j1 (r1:Option Addr) (r2 r6 r12:Int) (x1:Bool) (H:NP) (w:World) (K:Bool→WP):Prop :=
 Br x1
  (Calls Tryz.prog 45 #[(vp r1),(vi r2),(vi 0),(vu 7),(vs (⟨#[120]⟩:ByteArray))] w (fun e w28=>∃r18:Bool,e=.returned (vb r18)∧
   Kept H w w28 ∧
   m_I_j2 r1 r2 r6 r12 (!r18) H w28 K))
  (m_I_j2 r1 r2 r6 r12 false H w K)
def m_I  (w0:World) (K:Bool→WP):Prop :=
 Calls Tryz.prog 61 #[] w0 (fun e w1=>∃r1:Option Addr,e=.returned (vp r1)∧
  Kept None w0 w1 ∧
  Br (Option.isNone r1)
   (K false w1)
   (Calls Tryz.prog 76 #[(vp r1),(.agg #[(vi 1),(vi 0),(vu 7),(vs (⟨#[120]⟩:ByteArray)),(vb false)])] w1 (fun e w2=>∃r2 r3:Int,e=.returned (.tuple #[(vi r2),(vi r3)])∧
    Kept None w1 w2 ∧
    Calls Tryz.prog 76 #[(vp r1),(.agg #[(vi 1),(vi 1),(vu 7),(vs (⟨#[120]⟩:ByteArray)),(vb false)])] w2 (fun e w3=>∃r4 r5:Int,e=.returned (.tuple #[(vi r4),(vi r5)])∧
     Kept None w2 w3 ∧
     Calls Tryz.prog 32 #[(vp r1),(vi r2),(vi r4)] w3 (fun e w4=>∃r6 r7:Int,e=.returned (.tuple #[(vi r6),(vi r7)])∧
      Kept None w3 w4 ∧
      Calls Tryz.prog 32 #[(vp r1),(vi r2),(vi r2)] w4 (fun e w5=>∃r8 r9:Int,e=.returned (.tuple #[(vi r8),(vi r9)])∧
       Kept None w4 w5 ∧
       Calls Tryz.prog 32 #[(vp r1),(vi r2),(vi r6)] w5 (fun e w6=>∃r10 r11:Int,e=.returned (.tuple #[(vi r10),(vi r11)])∧
        Kept None w5 w6 ∧
        Calls Tryz.prog 33 #[(vp r1),(vi 1),(vi r2),(vi r4)] w6 (fun e w7=>∃r12 r13:Int,e=.returned (.tuple #[(vi r12),(vi r13)])∧
         Kept None w6 w7 ∧
         Calls Tryz.prog 51 #[(vp r1),(vi r12)] w7 (fun e w8=>∃aA aD aC:Int,∃aE:ByteArray,∃aB r14:Bool,e=.returned (.tuple #[(.agg #[(vi aA),(vi aD),(vu aC),(vs aE),(vb aB)]),(vb r14)])∧
          Kept None w7 w8 ∧
          ∀y1:Bool,y1=((((r7 == 0) && (r9 == 122)) && (r11 == 120)) && (r13 == 0)) →
          Br (((y1 && r14) && (aA == 4)) && (aD == 1))
           (∀(H7:NP) (w23:World),Hst w0 None w8 H7 w23 →
           Calls Tryz.prog 45 #[(vp r1),(vi r6),(vi 0),(vu 7),(vs (⟨#[120]⟩:ByteArray))] w23 (fun e w29=>∃r19:Bool,e=.returned (vb r19)∧
            Kept H7 w23 w29 ∧
            m_I_j1 r1 r2 r6 r12 r19 H7 w29 K))
           (∀(H7:NP) (w23:World),Hst w0 None w8 H7 w23 →
           m_I_j1 r1 r2 r6 r12 false H7 w23 K))))))))))
theorem w_I  (w0 : World) (K : Bool → WP) (h : m_I  w0 K) :
  Calls Tryz.prog 24 #[] w0 (fun e w'=>∃r20:Bool,e=.returned (vb r20)∧K r20 w'):=by
 unfold m_I at h
 refine cw (args:=[]) Tryz.func24 Tryz.ntmps24 ?_
 have hs:=Hst.start w0
 have hb:=HB.nil None w0
 refine eg (q0 (vb false) (ln (eg ?_)))
 refine sc Tryz.call61 (h.mono ?_)
 rintro e w1 ⟨r1,rfl,hk,h⟩
 refine ⟨_,rfl,?_⟩
 obtain ⟨hs,hb⟩:=hk.hh hs hb
 refine q0 (vp r1) (ln (wpE_seq (eg (q0 (vp r1) (q2 (vb (Option.isNone r1)) (x_ptreq (by kernel_rfl) rfl Tryz.underlying68) (ln ?_))))))
 refine wpE_cond (t:=(Option.isNone r1)) (by kernel_rfl) (fun hc1=>?_) (fun hc1=>?_)
 have h:=h.1 hc1
 refine eg (q0 (vb false) (ln (er (th_r (rs1 Tryz.results24 (v:=(vb false)) ?_)))))
 exact ⟨false,rfl,h⟩
 have h:=h.2 hc1
 refine wpE_skip (th_n (eg (q0 (vp r1) (q0 (.agg #[(vi 1),(vi 0),(vu 7),(vs (⟨#[120]⟩:ByteArray)),(vb false)]) ?_))))
 refine sc Tryz.call76 (h.mono ?_)
 rintro e w2 ⟨r2,r3,rfl,hk,h⟩
 refine ⟨_,rfl,?_⟩
 obtain ⟨hs,hb⟩:=hk.hh hs hb
 refine q0 (.tuple #[(vi r2),(vi r3)]) (q0 (vi r2) (q0 (vi r3) (q0 (vi r2) (q0 (vi r3) (ln (eg (q0 (vp r1) (q0 (.agg #[(vi 1),(vi 1),(vu 7),(vs (⟨#[120]⟩:ByteArray)),(vb false)]) ?_))))))))
 refine sc Tryz.call76 (h.mono ?_)
 rintro e w3 ⟨r4,r5,rfl,hk,h⟩
 refine ⟨_,rfl,?_⟩
 obtain ⟨hs,hb⟩:=hk.hh hs hb
 refine q0 (.tuple #[(vi r4),(vi r5)]) (q0 (vi r4) (q0 (vi r5) (q0 (vi r4) (q0 (vi r5) (ln (eg (q0 (vp r1) (q0 (vi r2) (q0 (vi r4) ?_)))))))))
 refine sc Tryz.call32 (h.mono ?_)
 rintro e w4 ⟨r6,r7,rfl,hk,h⟩
 refine ⟨_,rfl,?_⟩
 obtain ⟨hs,hb⟩:=hk.hh hs hb
 refine q0 (.tuple #[(vi r6),(vi r7)]) (q0 (vi r6) (q0 (vi r7) (q0 (vi r6) (q0 (vi r7) (ln (eg (q0 (vp r1) (q0 (vi r2) (q0 (vi r2) ?_)))))))))
 refine sc Tryz.call32 (h.mono ?_)
 rintro e w5 ⟨r8,r9,rfl,hk,h⟩
 refine ⟨_,rfl,?_⟩
 obtain ⟨hs,hb⟩:=hk.hh hs hb
 refine q0 (.tuple #[(vi r8),(vi r9)]) (q0 (vi r8) (q0 (vi r9) (q0 (vi r8) (q0 (vi r9) (ln (eg (q0 (vp r1) (q0 (vi r2) (q0 (vi r6) ?_)))))))))
 refine sc Tryz.call32 (h.mono ?_)
 rintro e w6 ⟨r10,r11,rfl,hk,h⟩
 refine ⟨_,rfl,?_⟩
 obtain ⟨hs,hb⟩:=hk.hh hs hb
 refine q0 (.tuple #[(vi r10),(vi r11)]) (q0 (vi r10) (q0 (vi r11) (q0 (vi r10) (q0 (vi r11) (ln (eg (q0 (vp r1) (q0 (vi r2) (q0 (vi r4) ?_)))))))))
 refine sc Tryz.call33 (h.mono ?_)
 rintro e w7 ⟨r12,r13,rfl,hk,h⟩
 refine ⟨_,rfl,?_⟩
 obtain ⟨hs,hb⟩:=hk.hh hs hb
 refine q0 (.tuple #[(vi r12),(vi r13)]) (q0 (vi r12) (q0 (vi r13) (q0 (vi r12) (q0 (vi r13) (ln (eg (q0 (vp r1) (q0 (vi r12) ?_))))))))
 refine sc Tryz.call51 (h.mono ?_)
 rintro e w8 ⟨aA,aD,aC,aE,aB,r14,rfl,hk,h⟩
 refine ⟨_,rfl,?_⟩
 obtain ⟨hs,hb⟩:=hk.hh hs hb
 refine q0 (.tuple #[(.agg #[(vi aA),(vi aD),(vu aC),(vs aE),(vb aB)]),(vb r14)]) (q0 (.agg #[(vi aA),(vi aD),(vu aC),(vs aE),(vb aB)]) (q0 (vb r14) (sn (O:=(.cells #[(vi 0),(vi 0),(vu 0),(vs ⟨#[]⟩),(vb false)] 35)) (x_alloc (Tryz.zeroValue35 _) rfl) ?_)))
 intro p1 w9 hn1
 obtain ⟨H1,hs,hb⟩:=hs.alloc hb hn1
 refine st_set (want0 rfl) (xo p1 [(vi aA),(vi aD),(vu aC),(vs aE),(vb aB)] (Tryz.sizeOf35 _) (hb.k0 0 5 gZ)) ?_
 intro w10 hn2
 obtain ⟨hs,hb⟩:=hb.s0 (l':=[(p1,[(vi aA),(vi aD),(vu aC),(vs aE),(vb aB)],35)]) 0 [(vi aA),(vi aD),(vu aC),(vs aE),(vb aB)] hs hn2 gZ
 refine q0 (vb r14) (ln (eg (q0 (vi r7) ?_)))
 refine sc Tryz.call36 ((p_N1 r7 w10).mono ?_)
 rintro e w11 ⟨he,hE⟩
 refine ⟨(vi r7),he.trans (by kernel_rfl),?_⟩
 have hs:=hs.pure hE
 have hb:=hb.pure hE
 refine q0 (vb (r7 == 0)) (q0 (vb (r7 == 0)) ?_)
 refine wpL_join 4 (fun ρ wJ=>∃b1'0:Bool,∃HJ:NP,((r7 == 0)=b1'0)∧Hst w0 None w8 HJ wJ∧HB HJ wJ [(p1,[(vi aA),(vi aD),(vu aC),(vs aE),(vb aB)],35)]∧Has ρ [(1,(vp r1)),(2,(vi r2)),(6,(vi r6)),(11,(vi r11)),(12,(vi r12)),(13,(vi r13)),(14,(vp (some p1))),(15,(vb r14)),(72,(vb (b1'0 && (r9 == 122))))]) ?_ ?_
 rintro ρ w13 ⟨b1'0,H2,he0,hs,hb,hH⟩
 subst he0
 refine wpL_has hH ?_
 refine q0 (vb ((r7 == 0) && (r9 == 122))) ?_
 refine wpL_join 4 (fun ρ wJ=>∃b2'0:Bool,∃HJ:NP,(((r7 == 0) && (r9 == 122))=b2'0)∧Hst w0 None w8 HJ wJ∧HB HJ wJ [(p1,[(vi aA),(vi aD),(vu aC),(vs aE),(vb aB)],35)]∧Has ρ [(1,(vp r1)),(2,(vi r2)),(6,(vi r6)),(12,(vi r12)),(13,(vi r13)),(14,(vp (some p1))),(15,(vb r14)),(77,(vb (b2'0 && (r11 == 120))))]) ?_ ?_
 rintro ρ w16 ⟨b2'0,H3,he0,hs,hb,hH⟩
 subst he0
 refine wpL_has hH ?_
 refine q0 (vb (((r7 == 0) && (r9 == 122)) && (r11 == 120))) ?_
 refine wpL_join 4 (fun ρ wJ=>∃b3'0 y1:Bool,∃HJ:NP,((((r7 == 0) && (r9 == 122)) && (r11 == 120))=b3'0)∧(y1=(b3'0 && (r13 == 0)))∧Hst w0 None w8 HJ wJ∧HB HJ wJ [(p1,[(vi aA),(vi aD),(vu aC),(vs aE),(vb aB)],35)]∧Has ρ [(1,(vp r1)),(2,(vi r2)),(6,(vi r6)),(12,(vi r12)),(14,(vp (some p1))),(15,(vb r14)),(82,(vb y1))]) ?_ ?_
 rintro ρ w19 ⟨b3'0,y1,H4,he0,hy1,hs,hb,hH⟩
 subst he0
 have h:=h y1 hy1
 refine wpL_has hH ?_
 refine q0 (vb y1) ?_
 refine wpL_join 2 (fun ρ wJ=>∃b4'0:Bool,∃HJ:NP,(y1=b4'0)∧Hst w0 None w8 HJ wJ∧HB HJ wJ [(p1,[(vi aA),(vi aD),(vu aC),(vs aE),(vb aB)],35)]∧Has ρ [(1,(vp r1)),(2,(vi r2)),(6,(vi r6)),(12,(vi r12)),(14,(vp (some p1))),(85,(vb (b4'0 && r14)))]) ?_ ?_
 rintro ρ w21 ⟨b4'0,H5,he0,hs,hb,hH⟩
 subst he0
 refine wpL_has hH ?_
 refine q0 (vb (y1 && r14)) ?_
 refine wpL_join 4 (fun ρ wJ=>∃b5'0:Bool,∃HJ:NP,((y1 && r14)=b5'0)∧Hst w0 None w8 HJ wJ∧HB HJ wJ [(p1,[(vi aA),(vi aD),(vu aC),(vs aE),(vb aB)],35)]∧Has ρ [(1,(vp r1)),(2,(vi r2)),(6,(vi r6)),(12,(vi r12)),(14,(vp (some p1))),(90,(vb (b5'0 && (aA == 4))))]) ?_ ?_
 rintro ρ w22 ⟨b5'0,H6,he0,hs,hb,hH⟩
 subst he0
 refine wpL_has hH ?_
 refine q0 (vb ((y1 && r14) && (aA == 4))) ?_
 refine wpL_join 4 (fun ρ wJ=>∃b6'0:Bool,∃HJ:NP,(((y1 && r14) && (aA == 4))=b6'0)∧Hst w0 None w8 HJ wJ∧HB HJ wJ [(p1,[(vi aA),(vi aD),(vu aC),(vs aE),(vb aB)],35)]∧Has ρ [(1,(vp r1)),(2,(vi r2)),(6,(vi r6)),(12,(vi r12)),(95,(vb (b6'0 && (aD == 1))))]) ?_ ?_
 rintro ρ w23 ⟨b6'0,H7,he0,hs,hb,hH⟩
 subst he0
 refine wpL_has hH ?_
 refine q0 (vb (((y1 && r14) && (aA == 4)) && (aD == 1))) ?_
 refine wpL_join 4 (fun ρ w=>∃x1:Bool,∃H:NP,Has ρ [(1,(vp r1)),(2,(vi r2)),(6,(vi r6)),(12,(vi r12)),(100,(vb x1))]∧Hst w0 H w H w∧HB H w [(p1,[(vi aA),(vi aD),(vu aC),(vs aE),(vb aB)],35)]∧m_I_j1 r1 r2 r6 r12 x1 H w K) ?_ ?_
 rintro ρ w ⟨x1,H,hH,hs,hb,h⟩
 unfold m_I_j1 at h
 refine wpL_has hH ?_
 refine q0 (vb x1) ?_
 refine wpL_join 5 (fun ρ w=>∃x2:Bool,∃H:NP,Has ρ [(1,(vp r1)),(2,(vi r2)),(6,(vi r6)),(12,(vi r12)),(106,(vb x2))]∧Hst w0 H w H w∧HB H w [(p1,[(vi aA),(vi aD),(vu aC),(vs aE),(vb aB)],35)]∧m_I_j2 r1 r2 r6 r12 x2 H w K) ?_ ?_
 rintro ρ w ⟨x2,H,hH,hs,hb,h⟩
 unfold m_I_j2 at h
 refine wpL_has hH ?_
 refine q0 (vb x2) ?_
 refine wpL_join 5 (fun ρ w=>∃x3:Bool,∃H:NP,Has ρ [(1,(vp r1)),(6,(vi r6)),(12,(vi r12)),(112,(vb x3))]∧Hst w0 H w H w∧HB H w [(p1,[(vi aA),(vi aD),(vu aC),(vs aE),(vb aB)],35)]∧m_I_j3 r1 r6 r12 x3 H w K) ?_ ?_
 rintro ρ w ⟨x3,H,hH,hs,hb,h⟩
 unfold m_I_j3 at h
 refine wpL_has hH ?_
 refine q0 (vb x3) ?_
 refine wpL_join 6 (fun ρ w=>∃x4:Bool,∃H:NP,Has ρ [(1,(vp r1)),(12,(vi r12)),(119,(vb x4))]∧Hst w0 H w H w∧HB H w [(p1,[(vi aA),(vi aD),(vu aC),(vs aE),(vb aB)],35)]∧m_I_j4 r1 r12 x4 H w K) ?_ ?_
 rintro ρ w ⟨x4,H,hH,hs,hb,h⟩
 unfold m_I_j4 at h
 refine wpL_has hH ?_
 refine q0 (vb x4) ?_
 rcases Bool.eq_false_or_eq_true x4 with hg13 | hg13
 have h:=h.1 hg13
 refine q1 (vp r1) (wy 120 hg13) (q1 (vi r12) (wy 120 hg13) (st_new (O:=(.cells #[(vi r12)] 78)) (fun p=>(Sl.mk (some p) 1 1).v) (wy 120 hg13) (x_buildSlice (vs:=#[(0,(vi r12))]) (by kernel_rfl) (by kernel_rfl)) ?_))
 intro p2 w24 hn3
 have h:=h p2 w24 hn3
 have hs:=hs.again (Ext.new (F:=None) hn3).keptP
 have hb:=hb.kept (Ext.new (F:=None) hn3).keptP
 refine st_call (wy 120 hg13) (xc Tryz.call26) (h.mono ?_)
 rintro e w25 ⟨r15,rfl,hk,h⟩
 refine ⟨_,rfl,?_⟩
 obtain ⟨hs,hb⟩:=hk.hh hs hb
 refine q1 (vi (r15.len:Int)) (wy 120 hg13) (q1 (vb (((r15.len:Int):Int) == 3)) (wy 120 hg13) (q2 (vb (((r15.len:Int):Int) == 3)) (xT hg13) (q0 (vb (((r15.len:Int):Int) == 3)) (ln (er (rs1 Tryz.results24 (v:=(vb (((r15.len:Int):Int) == 3))) ?_))))))
 exact ⟨(((r15.len:Int):Int) == 3),rfl,h⟩
 have h:=h.2 hg13
 refine sk (yD 120 hg13) (sk (yD 120 hg13) (sk (yD 120 hg13) (sk (yD 120 hg13) (sk (yD 120 hg13) (sk (yD 120 hg13) (q2 (vb false) (xF hg13) (q0 (vb false) (ln (er (rs1 Tryz.results24 (v:=(vb false)) ?_))))))))))
 exact ⟨false,rfl,h⟩
 rcases Bool.eq_false_or_eq_true x3 with hg14 | hg14
 have h:=h.1 hg14
 refine q1 (vp r1) (wy 113 hg14) (q1 (vi r6) (wy 113 hg14) ?_)
 refine st_call (wy 113 hg14) (xc Tryz.call34) (h.mono ?_)
 rintro e w26 ⟨r16,rfl,hk,h⟩
 refine ⟨_,rfl,?_⟩
 obtain ⟨hs,hb⟩:=hk.hh hs hb
 refine q1 (vi (r16.len:Int)) (wy 113 hg14) (q1 (vb (((r16.len:Int):Int) == 3)) (wy 113 hg14) (q2 (vb (((r16.len:Int):Int) == 3)) (xT hg14) (wpL_nil ?_)))
 exact ⟨(((r16.len:Int):Int) == 3),H,hm,hs,hb,h⟩
 have h:=h.2 hg14
 refine sk (yD 113 hg14) (sk (yD 113 hg14) (sk (yD 113 hg14) (sk (yD 113 hg14) (sk (yD 113 hg14) (q2 (vb false) (xF hg14) (wpL_nil ?_))))))
 exact ⟨false,H,hm,hs,hb,h⟩
 rcases Bool.eq_false_or_eq_true x2 with hg15 | hg15
 have h:=h.1 hg15
 refine q1 (vp r1) (wy 107 hg15) (q1 (vi r2) (wy 107 hg15) ?_)
 refine st_call (wy 107 hg15) (xc Tryz.call35) (h.mono ?_)
 rintro e w27 ⟨r17,rfl,hk,h⟩
 refine ⟨_,rfl,?_⟩
 obtain ⟨hs,hb⟩:=hk.hh hs hb
 refine q1 (vb (r17 == 2)) (wy 107 hg15) (q2 (vb (r17 == 2)) (xT hg15) (wpL_nil ?_))
 exact ⟨(r17 == 2),H,hm,hs,hb,h⟩
 have h:=h.2 hg15
 refine sk (yD 107 hg15) (sk (yD 107 hg15) (sk (yD 107 hg15) (sk (yD 107 hg15) (q2 (vb false) (xF hg15) (wpL_nil ?_)))))
 exact ⟨false,H,hm,hs,hb,h⟩
 rcases Bool.eq_false_or_eq_true x1 with hg16 | hg16
 have h:=h.1 hg16
 refine q1 (vp r1) (wy 101 hg16) (q1 (vi r2) (wy 101 hg16) ?_)
 refine st_call (wy 101 hg16) (xc Tryz.call45) (h.mono ?_)
 rintro e w28 ⟨r18,rfl,hk,h⟩
 refine ⟨_,rfl,?_⟩
 obtain ⟨hs,hb⟩:=hk.hh hs hb
 refine q1 (vb (!r18)) (wy 101 hg16) (q2 (vb (!r18)) (xT hg16) (wpL_nil ?_))
 exact ⟨(!r18),H,hm,hs,hb,h⟩
 have h:=h.2 hg16
 refine sk (yD 101 hg16) (sk (yD 101 hg16) (sk (yD 101 hg16) (sk (yD 101 hg16) (q2 (vb false) (xF hg16) (wpL_nil ?_)))))
 exact ⟨false,H,hm,hs,hb,h⟩
 rcases Bool.eq_false_or_eq_true (((y1 && r14) && (aA == 4)) && (aD == 1)) with hg17 | hg17
 have h:=h.1 hg17
 refine q1 (vp r1) (wy 96 hg17) (q1 (vi r6) (wy 96 hg17) ?_)
 have h:=h H7 w23 hs
 have hs:=hs.here
 refine st_call (wy 96 hg17) (xc Tryz.call45) (h.mono ?_)
 rintro e w29 ⟨r19,rfl,hk,h⟩
 refine ⟨_,rfl,?_⟩
 obtain ⟨hs,hb⟩:=hk.hh hs hb
 refine q2 (vb r19) (xT hg17) (wpL_nil ?_)
 exact ⟨r19,H7,hm,hs,hb,h⟩
 have h:=h.2 hg17
 refine sk (yD 96 hg17) (sk (yD 96 hg17) (sk (yD 96 hg17) (q2 (vb false) (xF hg17) (wpL_nil ?_))))
 have h:=h H7 w23 hs
 have hs:=hs.here
 exact ⟨false,H7,hm,hs,hb,h⟩
 rcases Bool.eq_false_or_eq_true ((y1 && r14) && (aA == 4)) with hg12 | hg12
 refine q1 (vp (some (p1.add 1))) (wy 91 hg12) (stp (v:=(vi aD)) (wy 91 hg12) (xl (Tryz.isAgg3 _) (hb.c 0 1 gZ)) (q1 (vb (aD == 1)) (wy 91 hg12) (q2 (vb (aD == 1)) (xT hg12) (wpL_nil ?_))))
 exact ⟨true,_,hg12,hs,hb,hm⟩
 refine sk (yD 91 hg12) (sk (yD 91 hg12) (sk (yD 91 hg12) (q2 (vb false) (xF hg12) (wpL_nil ?_))))
 exact ⟨false,_,hg12,hs,hb,hm⟩
 rcases Bool.eq_false_or_eq_true (y1 && r14) with hg10 | hg10
 refine q1 (vp (some p1)) (wy 86 hg10) (stp (v:=(vi aA)) (wy 86 hg10) (xl (Tryz.isAgg3 _) (hb.c0 0 gZ)) (q1 (vb (aA == 4)) (wy 86 hg10) (q2 (vb (aA == 4)) (xT hg10) (wpL_nil ?_))))
 exact ⟨true,_,hg10,hs,hb,hm⟩
 refine sk (yD 86 hg10) (sk (yD 86 hg10) (sk (yD 86 hg10) (q2 (vb false) (xF hg10) (wpL_nil ?_))))
 exact ⟨false,_,hg10,hs,hb,hm⟩
 rcases Bool.eq_false_or_eq_true y1 with hg8 | hg8
 refine q1 (vb r14) (wy 83 hg8) (q2 (vb r14) (xT hg8) (wpL_nil ?_))
 exact ⟨true,_,hg8,hs,hb,hm⟩
 refine sk (yD 83 hg8) (q2 (vb false) (xF hg8) (wpL_nil ?_))
 exact ⟨false,_,hg8,hs,hb,hm⟩
 rcases Bool.eq_false_or_eq_true (((r7 == 0) && (r9 == 122)) && (r11 == 120)) with hg6 | hg6
 refine q1 (vi r13) (wy 78 hg6) ?_
 refine st_call (wy 78 hg6) (xc Tryz.call36) ((p_N1 r13 w16).mono ?_)
 rintro e w20 ⟨he,hE⟩
 refine ⟨(vi r13),he.trans (by kernel_rfl),?_⟩
 have hs:=hs.pure hE
 have hb:=hb.pure hE
 refine q1 (vb (r13 == 0)) (wy 78 hg6) (q2 (vb (r13 == 0)) (xT hg6) (wpL_nil ?_))
 exact ⟨true,_,_,hg6,rfl,hs,hb,hm⟩
 refine sk (yD 78 hg6) (sk (yD 78 hg6) (sk (yD 78 hg6) (q2 (vb false) (xF hg6) (wpL_nil ?_))))
 exact ⟨false,_,_,hg6,rfl,hs,hb,hm⟩
 rcases Bool.eq_false_or_eq_true ((r7 == 0) && (r9 == 122)) with hg4 | hg4
 refine q1 (vi r11) (wy 73 hg4) ?_
 refine st_call (wy 73 hg4) (xc Tryz.call36) ((p_N1 r11 w13).mono ?_)
 rintro e w17 ⟨he,hE⟩
 refine ⟨(vi r11),he.trans (by kernel_rfl),?_⟩
 have hs:=hs.pure hE
 have hb:=hb.pure hE
 refine q1 (vb (r11 == 120)) (wy 73 hg4) (q2 (vb (r11 == 120)) (xT hg4) (wpL_nil ?_))
 exact ⟨true,_,hg4,hs,hb,hm⟩
 refine sk (yD 73 hg4) (sk (yD 73 hg4) (sk (yD 73 hg4) (q2 (vb false) (xF hg4) (wpL_nil ?_))))
 exact ⟨false,_,hg4,hs,hb,hm⟩
 rcases Bool.eq_false_or_eq_true (r7 == 0) with hg2 | hg2
 refine q1 (vi r9) (wy 68 hg2) ?_
 refine st_call (wy 68 hg2) (xc Tryz.call36) ((p_N1 r9 w11).mono ?_)
 rintro e w14 ⟨he,hE⟩
 refine ⟨(vi r9),he.trans (by kernel_rfl),?_⟩
 have hs:=hs.pure hE
 have hb:=hb.pure hE
 refine q1 (vb (r9 == 122)) (wy 68 hg2) (q2 (vb (r9 == 122)) (xT hg2) (wpL_nil ?_))
 exact ⟨true,_,hg2,hs,hb,hm⟩
 refine sk (yD 68 hg2) (sk (yD 68 hg2) (sk (yD 68 hg2) (q2 (vb false) (xF hg2) (wpL_nil ?_))))
 exact ⟨false,_,hg2,hs,hb,hm⟩
def m_E1_l1 (l1:Sl) (r1:Option Addr) (r2:Option Addr) (i1:Int) (w0:World) (Hl1:NP) (wl1:World) (Kc1:Int→NP→WP) (K:(Option Addr)→(Option Addr)→Bool→WP):Prop :=
 Br (decide (i1<(l1.len:Int)))
  (∃a1:Addr,At l1 i1 6 a1 ∧
  ∃aF bE:Int,∃bF bG:Int,∃aG:ByteArray,∃bH:Sl,Row wl1 a1 [(vi aF),(vi bE),(vi bF),(vu bG),(vs aG),bH.v] ∧
  Calls Tryz.prog 77 #[(vp r1),(.agg #[(vi aF),(vi bE),(vi bF),(vu bG),(vs aG),bH.v])] wl1 (fun e w3=>∃r3 r4:Int,e=.returned (.tuple #[(vi r3),(vi r4)])∧
   Kept Hl1 wl1 w3 ∧
   ∃a2:Addr,At l1 i1 6 a2 ∧
   ∃aW cV:Int,∃cW cX:Int,∃aX:ByteArray,∃cY:Sl,Row w3 a2 [(vi aW),(vi cV),(vi cW),(vu cX),(vs aX),cY.v] ∧
   Calls Tryz.prog 78 #[(vp r2),(.agg #[(vi aW),(vi cV),(vi cW),(vu cX),(vs aX),cY.v])] w3 (fun e w4=>∃r5 r6:Int,e=.returned (.tuple #[(vi r5),(vi r6)])∧
    Kept Hl1 w3 w4 ∧
    Br ((r4 != r6) || (r3 != r5))
     (∀(H1:NP) (w6:World),Hst w0 Hl1 w4 H1 w6 →
     K none none false w6)
     (∀(H1:NP) (w6:World),Hst w0 Hl1 w4 H1 w6 →
     Kc1 (q6.wrap (i1+1)) H1 w6))))
  (K r1 r2 true wl1)
def m_E1 (l1:Sl) (w0:World) (K:(Option Addr)→(Option Addr)→Bool→WP):Prop :=
 Calls Tryz.prog 61 #[] w0 (fun e w1=>∃r1:Option Addr,e=.returned (vp r1)∧
  Kept None w0 w1 ∧
  Calls Tryz.prog 63 #[] w1 (fun e w2=>∃r2:Option Addr,e=.returned (vp r2)∧
   Kept None w1 w2 ∧
   Br (Option.isNone r1)
    (K none none false w2)
    (∃(I1:Int→NP→WP) (mu1:Int→World→Nat),I1 0 None w2 ∧
     ∀(i1:Int) (Hl1:NP) (wl1:World),Hst w0 Hl1 wl1 Hl1 wl1→I1 i1 Hl1 wl1→m_E1_l1 l1 r1 r2 i1 w0 Hl1 wl1 (fun y'0 H' w'=>I1 y'0 H' w'∧mu1 y'0 w'<mu1 i1 wl1) K)))
theorem w_E1 (l1 : Sl) (w0 : World) (K : (Option Addr) → (Option Addr) → Bool → WP) (h : m_E1 l1 w0 K) :
  Calls Tryz.prog 25 #[l1.v] w0 (fun e w'=>∃r7:Option Addr,∃r8:Option Addr,∃r9:Bool,e=.returned (.tuple #[(vp r7),(vp r8),(vb r9)])∧K r7 r8 r9 w'):=by
 unfold m_E1 at h
 refine cw (args:=[l1.v]) Tryz.func25 Tryz.ntmps25 ?_
 have hs:=Hst.start w0
 have hb:=HB.nil None w0
 refine eg (q0 (vp none) (q0 (vp none) (q0 (vb false) (ln (eg ?_)))))
 refine sc Tryz.call61 (h.mono ?_)
 rintro e w1 ⟨r1,rfl,hk,h⟩
 refine ⟨_,rfl,?_⟩
 obtain ⟨hs,hb⟩:=hk.hh hs hb
 refine q0 (vp r1) (ln (eg ?_))
 refine sc Tryz.call63 (h.mono ?_)
 rintro e w2 ⟨r2,rfl,hk,h⟩
 refine ⟨_,rfl,?_⟩
 obtain ⟨hs,hb⟩:=hk.hh hs hb
 refine q0 (vp r2) (ln (wpE_seq (eg (q0 (vp r1) (q2 (vb (Option.isNone r1)) (x_ptreq (by kernel_rfl) rfl Tryz.underlying68) (ln ?_))))))
 refine wpE_cond (t:=(Option.isNone r1)) (by kernel_rfl) (fun hc1=>?_) (fun hc1=>?_)
 have h:=h.1 hc1
 refine eg (q0 (vp none) (q0 (vp none) (q0 (vb false) (ln (er (th_r (res3 (.inl rfl) Tryz.results25 (v:=(vp none)) (by kernel_rfl) (v':=(vp none)) (by kernel_rfl) (v'':=(vb false)) (by kernel_rfl) ?_)))))))
 exact ⟨none,none,false,rfl,h⟩
 have h:=h.2 hc1
 refine wpE_skip (th_n (wpE_seq (eg (q0 (vi 0) (ln (wpE_block ?_))))))
 obtain ⟨I1,mu1,h0,hr⟩:=h
 refine wpE_loop (σ:=Int×NP×World) (fun s ρ w=>w=s.2.2∧Has ρ [(0,l1.v),(5,(vp r1)),(6,(vp r2)),(7,(vi s.1))]∧Hst w0 s.2.1 w s.2.1 w∧HB s.2.1 w []∧I1 s.1 s.2.1 s.2.2) (fun s=>mu1 s.1 s.2.2) (0,None,w2) ⟨rfl,hm,hs,hb,h0⟩ ?_
 rintro ⟨i1,Hl1,wl1⟩ ρ w ⟨hw,hH,hs,hb,hI⟩
 obtain rfl:wl1=w:=(show w=wl1 from hw).symm
 have hH:Has ρ [(0,l1.v),(5,(vp r1)),(6,(vp r2)),(7,(vi i1))]:=hH
 have hs:Hst w0 Hl1 wl1 Hl1 wl1:=hs
 have hb:HB Hl1 wl1 []:=hb
 have h:=hr i1 Hl1 wl1 hs hI
 unfold m_E1_l1 at h
 refine wpE_has hH ?_
 refine wpE_seq (eg (q0 (vi i1) (q0 l1.v (q0 (vi (l1.len:Int)) (q0 (vb (decide (i1<(l1.len:Int)))) (ln ?_))))))
 refine wpE_cond (t:=(decide (i1<(l1.len:Int)))) (by kernel_rfl) (fun hc2=>?_) (fun hc2=>?_)
 have h:=h.1 hc2
 refine wpE_skip (th_n (wpE_seq (wpE_block (eg (q0 (vp r1) (q0 l1.v (q0 (vi i1) ?_)))))))
 obtain ⟨a1,hv4,h⟩:=h
 refine q2 (vp (some a1)) (xi (Tryz.runUnderlying66 _) (Tryz.sizeOf107 _) hv4) ?_
 obtain ⟨aF,bE,bF,bG,aG,bH,hv3,h⟩:=h
 refine q2 (.agg #[(vi aF),(vi bE),(vi bF),(vu bG),(vs aG),bH.v]) (xa a1 [(vi aF),(vi bE),(vi bF),(vu bG),(vs aG),bH.v] (Tryz.isAgg107 _) (Tryz.sizeOf107 _) hv3) ?_
 refine sc Tryz.call77 (h.mono ?_)
 rintro e w3 ⟨r3,r4,rfl,hk,h⟩
 refine ⟨_,rfl,?_⟩
 obtain ⟨hs,hb⟩:=hk.hh hs hb
 refine q0 (.tuple #[(vi r3),(vi r4)]) (q0 (vi r3) (q0 (vi r4) (q0 (vi r3) (q0 (vi r4) (ln (eg (q0 (vp r2) (q0 l1.v (q0 (vi i1) ?_)))))))))
 obtain ⟨a2,hv2,h⟩:=h
 refine q2 (vp (some a2)) (xi (Tryz.runUnderlying66 _) (Tryz.sizeOf107 _) hv2) ?_
 obtain ⟨aW,cV,cW,cX,aX,cY,hv1,h⟩:=h
 refine q2 (.agg #[(vi aW),(vi cV),(vi cW),(vu cX),(vs aX),cY.v]) (xa a2 [(vi aW),(vi cV),(vi cW),(vu cX),(vs aX),cY.v] (Tryz.isAgg107 _) (Tryz.sizeOf107 _) hv1) ?_
 refine sc Tryz.call78 (h.mono ?_)
 rintro e w4 ⟨r5,r6,rfl,hk,h⟩
 refine ⟨_,rfl,?_⟩
 obtain ⟨hs,hb⟩:=hk.hh hs hb
 refine q0 (.tuple #[(vi r5),(vi r6)]) (q0 (vi r5) (q0 (vi r6) (q0 (vi r5) (q0 (vi r6) (ln (wpE_seq ?_))))))
 refine wpE_via (fun ρ wJ=>∃b1'0:Bool,∃HJ:NP,((r4 != r6)=b1'0)∧Hst w0 Hl1 w4 HJ wJ∧HB HJ wJ []∧Has ρ [(0,l1.v),(5,(vp r1)),(6,(vp r2)),(7,(vi i1)),(48,(vb (b1'0 || (r3 != r5))))]) ?_ ?_
 refine rg (q0 (vi r4) ?_)
 refine sc Tryz.call36 ((p_N1 r4 w4).mono ?_)
 rintro e w7 ⟨he,hE⟩
 refine ⟨(vi r4),he.trans (by kernel_rfl),?_⟩
 have hs:=hs.pure hE
 have hb:=hb.pure hE
 refine q0 (vi r6) (q0 (vb (r4 != r6)) (q0 (vb (r4 != r6)) ?_))
 rcases Bool.eq_false_or_eq_true (r4 != r6) with hg2 | hg2
 refine sk (yD 44 hg2) (sk (yD 44 hg2) (sk (yD 44 hg2) (q2 (vb true) (xT hg2) (ln ?_))))
 exact ⟨true,_,hg2,hs,hb,hm⟩
 refine q1 (vi r3) (wy 44 hg2) (q1 (vi r5) (wy 44 hg2) (q1 (vb (r3 != r5)) (wy 44 hg2) (q2 (vb (r3 != r5)) (xF hg2) (ln ?_))))
 exact ⟨false,_,hg2,hs,hb,hm⟩
 rintro ρ w6 ⟨b1'0,H1,he0,hs,hb,hH⟩
 subst he0
 refine norm_has hH ?_
 refine th_n ?_
 refine wpE_cond (t:=((r4 != r6) || (r3 != r5))) (by kernel_rfl) (fun hc3=>?_) (fun hc3=>?_)
 have h:=h.1 hc3
 refine eg (q0 (vp none) (q0 (vp none) (q0 (vb false) (ln (er (bl_r (th_r (th_r (bl_r ?_)))))))))
 refine th_r ?_
 have h:=h H1 w6 hs
 have hs:=hs.here
 refine res3 (.inl rfl) Tryz.results25 (v:=(vp none)) (by kernel_rfl) (v':=(vp none)) (by kernel_rfl) (v'':=(vb false)) (by kernel_rfl) ?_
 exact ⟨none,none,false,rfl,h⟩
 have h:=h.2 hc3
 refine wpE_skip (bl_n (th_n (rg (q0 (vi i1) (q0 (vi (q6.wrap (i1+1))) (q0 (vi (q6.wrap (i1+1))) (wpL_nil ?_)))))))
 have h:=h H1 w6 hs
 have hs:=hs.here
 refine th_n ?_
 exact ⟨((q6.wrap (i1+1)),H1,w6),⟨rfl,hm,hs,hb,h.1⟩,h.2⟩
 have h:=h.2 hc2
 refine wpE_exit (th_x (th_x (bl_eq (th_n (eg (q0 (vp r1) (q0 (vp r2) (q0 (vp r1) (q0 (vp r2) (q0 (vb true) ?_))))))))))
 refine ln (er (res3 (.inl rfl) Tryz.results25 (v:=(vp r1)) (by kernel_rfl) (v':=(vp r2)) (by kernel_rfl) (v'':=(vb true)) (by kernel_rfl) ?_))
 exact ⟨r1,r2,true,rfl,h⟩
theorem eqt_ref12_Has_eql_75 (a0 a1 a2:Int) (a3:ByteArray) (b0 b1 b2:Int) (b3:ByteArray) (w:World):(Go.binOp .eql 75 (.agg #[(.int .i64 a0),(.int .i64 a1),(.int .u64 a2),(.string a3)]) (.agg #[(.int .i64 b0),(.int .i64 b1),(.int .u64 b2),(.string b3)])).run Tryz.prog w=.ok (.bool ((a0 == b0) && ((a1 == b1) && ((a2 == b2) && (decide (a3=b3)))))) w:=by
 simp [Go.binOp,Op.equal,Op.maxDepth,go_sem,streq,bne]
 repeat' split
 all_goals simp_all
def m_F1_l1 (l1:Sl) (aY aZ bA:Int) (bB:ByteArray) (i1:Int) (w0:World) (Hl1:NP) (wl1:World) (Kc1:Int→NP→WP) (K:Bool→WP):Prop :=
 Br (decide (i1<(l1.len:Int)))
  (∃a1:Addr,At l1 i1 4 a1 ∧
  ∀(w2:World),Hst w0 Hl1 wl1 Hl1 w2 →
  ∃aF aH aI:Int,∃aG:ByteArray,Row w2 a1 [(vi aF),(vi aH),(vu aI),(vs aG)] ∧
  Br ((aF == aY) && ((aH == aZ) && ((aI == bA) && (decide (aG=bB)))))
   (K true w2)
   (Kc1 (q6.wrap (i1+1)) Hl1 w2))
  (K false wl1)
def m_F1 (l1:Sl) (aY aZ bA:Int) (bB:ByteArray) (w0:World) (K:Bool→WP):Prop :=
 ∀(H1:NP) (w1:World),Hst w0 None w0 H1 w1 →
 ∃(I1:Int→NP→WP) (mu1:Int→World→Nat),I1 0 H1 w1 ∧
  ∀(i1:Int) (Hl1:NP) (wl1:World),Hst w0 Hl1 wl1 Hl1 wl1→I1 i1 Hl1 wl1→m_F1_l1 l1 aY aZ bA bB i1 w0 Hl1 wl1 (fun y'0 H' w'=>I1 y'0 H' w'∧mu1 y'0 w'<mu1 i1 wl1) K
theorem w_F1 (l1 : Sl) (aY aZ bA : Int) (bB : ByteArray) (w0 : World) (K : Bool → WP) (h : m_F1 l1 aY aZ bA bB w0 K) :
  Calls Tryz.prog 27 #[l1.v,(.agg #[(vi aY),(vi aZ),(vu bA),(vs bB)])] w0 (fun e w'=>∃r1:Bool,e=.returned (vb r1)∧K r1 w'):=by
 unfold m_F1 at h
 refine cw (args:=[l1.v,(.agg #[(vi aY),(vi aZ),(vu bA),(vs bB)])]) Tryz.func27 Tryz.ntmps27 ?_
 have hs:=Hst.start w0
 have hb:=HB.nil None w0
 refine eg (sn (O:=(.cells #[(vi aY),(vi aZ),(vu bA),(vs bB)] 75)) xb ?_)
 intro p1 w1 hn1
 obtain ⟨H1,hs,hb⟩:=hs.alloc hb hn1
 refine q0 (vb false) (ln (wpE_seq (eg (q0 (vi 0) (ln (wpE_block ?_))))))
 have h:=h H1 w1 hs
 have hs:=hs.here
 obtain ⟨I1,mu1,h0,hr⟩:=h
 refine wpE_loop (σ:=Int×NP×World) (fun s ρ w=>w=s.2.2∧Has ρ [(0,l1.v),(3,(vp (some p1))),(5,(vi s.1))]∧Hst w0 s.2.1 w s.2.1 w∧HB s.2.1 w [(p1,[(vi aY),(vi aZ),(vu bA),(vs bB)],75)]∧I1 s.1 s.2.1 s.2.2) (fun s=>mu1 s.1 s.2.2) (0,H1,w1) ⟨rfl,hm,hs,hb,h0⟩ ?_
 rintro ⟨i1,Hl1,wl1⟩ ρ w ⟨hw,hH,hs,hb,hI⟩
 obtain rfl:wl1=w:=(show w=wl1 from hw).symm
 have hH:Has ρ [(0,l1.v),(3,(vp (some p1))),(5,(vi i1))]:=hH
 have hs:Hst w0 Hl1 wl1 Hl1 wl1:=hs
 have hb:HB Hl1 wl1 [(p1,[(vi aY),(vi aZ),(vu bA),(vs bB)],75)]:=hb
 have h:=hr i1 Hl1 wl1 hs hI
 unfold m_F1_l1 at h
 refine wpE_has hH ?_
 refine wpE_seq (eg (q0 (vi i1) (q0 l1.v (q0 (vi (l1.len:Int)) (q0 (vb (decide (i1<(l1.len:Int)))) (ln ?_))))))
 refine wpE_cond (t:=(decide (i1<(l1.len:Int)))) (by kernel_rfl) (fun hc1=>?_) (fun hc1=>?_)
 have h:=h.1 hc1
 refine wpE_skip (th_n (wpE_seq (wpE_block (wpE_seq (wpE_drawnQ (by kernel_rfl) (by kernel_rfl) (by kernel_rfl) (by kernel_rfl) ?_)))))
 intro w2 hw2
 have hs:Hst w0 Hl1 wl1 Hl1 w2:=by rw [hw2];exact hs.drew
 have hb:HB Hl1 w2 [(p1,[(vi aY),(vi aZ),(vu bA),(vs bB)],75)]:=by rw [hw2];exact hb.drew
 refine qq 0 l1.v Kp0 (qq 1 (vi i1) Kp1 (qg 2 ?_))
 obtain ⟨a1,hv2,h⟩:=h
 refine sxQ (v:=(vp (some a1))) Kp2 (want0 rfl) rfl (xi (Tryz.runUnderlying71 _) (Tryz.sizeOf75 _) hv2) (qg 3 ?_)
 have h:=h w2 hs
 have hs:=hs.here
 obtain ⟨aF,aH,aI,aG,hv1,h⟩:=h
 refine sxQ (v:=(.agg #[(vi aF),(vi aH),(vu aI),(vs aG)])) Kp3 (want0 rfl) rfl (xa a1 [(vi aF),(vi aH),(vu aI),(vs aG)] (Tryz.isAgg75 _) (Tryz.sizeOf75 _) hv1) (qr 4 (.agg #[(vi aY),(vi aZ),(vu bA),(vs bB)]) Kp4 (xa p1 [(vi aY),(vi aZ),(vu bA),(vs bB)] (Tryz.isAgg75 _) (Tryz.sizeOf75 _) (hb.r0 0 4 gZ)) (qr 5 (vb ((aF == aY) && ((aH == aZ) && ((aI == bA) && (decide (aG=bB)))))) Kp5 (x_aggeq (by kernel_rfl) (by kernel_rfl) (by kernel_rfl) (eqt_ref12_Has_eql_75 aF aH aI aG aY aZ bA bB _)) (wn (th_n ?_))))
 refine wpE_cond (t:=((aF == aY) && ((aH == aZ) && ((aI == bA) && (decide (aG=bB)))))) (by kernel_rfl) (fun hc2=>?_) (fun hc2=>?_)
 have h:=h.1 hc2
 refine eg (q0 (vb true) (ln (er (bl_r (th_r (th_r (bl_r (th_r (rs1 Tryz.results27 (v:=(vb true)) ?_)))))))))
 exact ⟨true,rfl,h⟩
 have h:=h.2 hc2
 refine wpE_skip (bl_n (th_n (rg (q0 (vi i1) (q0 (vi (q6.wrap (i1+1))) (q0 (vi (q6.wrap (i1+1))) (ln ?_)))))))
 exact ⟨((q6.wrap (i1+1)),Hl1,w2),⟨rfl,hm,hs,hb,h.1⟩,h.2⟩
 have h:=h.2 hc1
 refine wpE_exit (th_x (th_x (bl_eq (th_n (eg (q0 (vb false) (ln (er (rs1 Tryz.results27 (v:=(vb false)) ?_)))))))))
 exact ⟨false,rfl,h⟩
def m_W2 (aM aN aO:Int) (aU:ByteArray) (aP aQ aR:Int) (aV:ByteArray) (w0:World) (K:Int→WP):Prop :=
 ∀(H2:NP) (w2:World),Hst w0 None w0 H2 w2 →
 ∃C1:WP,C1 w2.drew∧∀w3,w3=w2.drew →
 Calls Tryz.prog 84 #[(vu aO),(vu aR)] w3 (fun e w4=>∃r1:Int,e=.returned (vi r1)∧C1 w4∧
  Kept H2 w3 w4 ∧
  Calls Tryz.prog 85 #[(vi aM),(vi aP)] w4 (fun e w5=>∃r2:Int,e=.returned (vi r2)∧C1 w5∧
   Kept H2 w4 w5 ∧
   Calls Tryz.prog 85 #[(vi aN),(vi aQ)] w5 (fun e w6=>∃r3:Int,e=.returned (vi r3)∧C1 w6∧
    Kept H2 w5 w6 ∧
    Calls Tryz.prog 86 #[(vs aU),(vs aV)] w6 (fun e w7=>∃r4:Int,e=.returned (vi r4)∧C1 w7∧
     Kept H2 w6 w7 ∧
     ∀(p3:Addr) (w8:World),New w7 (.cells #[(vi r1),(vi r2),(vi r3),(vi r4)] 3) p3 w8→C1 w8 ∧
     Calls Tryz.prog 83 #[(Sl.mk (some p3) 4 4).v] w8 (fun e w9=>∃r5:Int,e=.returned (vi r5)∧C1 w9∧
      Kept H2 w8 w9 ∧
      K r5 w9)))))
theorem w_W2 (aM aN aO : Int) (aU : ByteArray) (aP aQ aR : Int) (aV : ByteArray) (w0 : World) (K : Int → WP) (h : m_W2 aM aN aO aU aP aQ aR aV w0 K) :
  Calls Tryz.prog 28 #[(.agg #[(vi aM),(vi aN),(vu aO),(vs aU)]),(.agg #[(vi aP),(vi aQ),(vu aR),(vs aV)])] w0 (fun e w'=>∃r6:Int,e=.returned (vi r6)∧K r6 w'):=by
 unfold m_W2 at h
 refine cw (args:=[(.agg #[(vi aM),(vi aN),(vu aO),(vs aU)]),(.agg #[(vi aP),(vi aQ),(vu aR),(vs aV)])]) Tryz.func28 Tryz.ntmps28 ?_
 have hs:=Hst.start w0
 have hb:=HB.nil None w0
 refine eg (sn (O:=(.cells #[(vi aM),(vi aN),(vu aO),(vs aU)] 75)) xb ?_)
 intro p1 w1 hn1
 obtain ⟨H1,hs,hb⟩:=hs.alloc hb hn1
 refine sn (O:=(.cells #[(vi aP),(vi aQ),(vu aR),(vs aV)] 75)) xb ?_
 intro p2 w2 hn2
 obtain ⟨H2,hs,hb⟩:=hs.alloc hb hn2
 refine q0 (vi 0) (ln (wpE_seq ?_))
 have h:=h H2 w2 hs
 have hs:=hs.here
 obtain ⟨C1,hC,h⟩:=h
 refine wpE_drawnC (fun x=>C1 x∧HB H2 x [(p2,[(vi aP),(vi aQ),(vu aR),(vs aV)],75),(p1,[(vi aM),(vi aN),(vu aO),(vs aU)],75)]) [4,9,14,19,20,21] [] (by kernel_rfl) (by kernel_rfl) (by kernel_rfl) (by kernel_rfl) ⟨hC,hb.drew⟩ ?_
 intro w3 hw3
 have h:=h w3 hw3
 have hs:Hst w0 H2 w2 H2 w3:=by rw [hw3];exact hs.drew
 have hb:HB H2 w3 [(p2,[(vi aP),(vi aQ),(vu aR),(vs aV)],75),(p1,[(vi aM),(vi aN),(vu aO),(vs aU)],75)]:=by rw [hw3];exact hb.drew
 have hs:=hs.here
 refine qx 0 (vp (some (p1.add 2))) Kp0 (qz 1 (vu aO) Kp1 (fun w' hw'=>(xl (Tryz.isAgg23 _) (hw'.2.cell 1 2 (gS gZ) (by kernel_rfl)))) (qx 2 (vp (some (p2.add 2))) Kp2 (qz 3 (vu aR) Kp3 (fun w' hw'=>(xl (Tryz.isAgg23 _) (hw'.2.cell 0 2 gZ (by kernel_rfl)))) (qx 5 (vp (some p1)) Kp5 (qz 6 (vi aM) Kp6 (fun w' hw'=>(xl (Tryz.isAgg3 _) (hw'.2.cell0 1 (gS gZ) (by kernel_rfl)))) (qx 7 (vp (some p2)) Kp7 (qz 8 (vi aP) Kp8 (fun w' hw'=>(xl (Tryz.isAgg3 _) (hw'.2.cell0 0 gZ (by kernel_rfl)))) (qx 10 (vp (some (p1.add 1))) (pickA (S8 (pickS (pickS pickZ)))) (qz 11 (vi aN) (pickA (S8 (pickS (pickS (pickS pickZ))))) (fun w' hw'=>(xl (Tryz.isAgg3 _) (hw'.2.cell 1 1 (gS gZ) (by kernel_rfl)))) (qx 12 (vp (some (p2.add 1))) (pickA (S8 (S4 pickZ))) (qz 13 (vi aQ) (pickA (S8 (S4 (pickS pickZ)))) (fun w' hw'=>(xl (Tryz.isAgg3 _) (hw'.2.cell 0 1 gZ (by kernel_rfl)))) ?_)))))))))))
 refine qx 15 (vp (some (p1.add 3))) (pickA (S8 (S4 (pickS (pickS (pickS pickZ)))))) (qz 16 (vs aU) (pickA (S8 (S8 pickZ))) (fun w' hw'=>(xl (Tryz.isAgg9 _) (hw'.2.cell 1 3 (gS gZ) (by kernel_rfl)))) (qx 17 (vp (some (p2.add 3))) (pickA (S8 (S8 (pickS pickZ)))) (qz 18 (vs aV) (pickA (S8 (S8 (pickS (pickS pickZ))))) (fun w' hw'=>(xl (Tryz.isAgg9 _) (hw'.2.cell 0 3 gZ (by kernel_rfl)))) (lg 4 ?_))))
 refine sl_call Kp4 (want0 rfl) (by kernel_rfl) (xc Tryz.call84) (h.mono ?_)
 rintro e w4 ⟨r1,rfl,hC,hk,h⟩
 refine ⟨_,rfl,.inr ⟨hC,hb.kept hk⟩,?_⟩
 obtain ⟨hs,hb⟩:=hk.hh hs hb
 refine lg 9 ?_
 refine sl_call Kp9 (want0 rfl) (by kernel_rfl) (xc Tryz.call85) (h.mono ?_)
 rintro e w5 ⟨r2,rfl,hC,hk,h⟩
 refine ⟨_,rfl,.inr ⟨hC,hb.kept hk⟩,?_⟩
 obtain ⟨hs,hb⟩:=hk.hh hs hb
 refine lg 14 ?_
 refine sl_call (pickA (S8 (S4 (pickS (pickS pickZ))))) (want0 rfl) (by kernel_rfl) (xc Tryz.call85) (h.mono ?_)
 rintro e w6 ⟨r3,rfl,hC,hk,h⟩
 refine ⟨_,rfl,.inr ⟨hC,hb.kept hk⟩,?_⟩
 obtain ⟨hs,hb⟩:=hk.hh hs hb
 refine lg 19 ?_
 refine sl_call (pickA (S8 (S8 (pickS (pickS (pickS pickZ)))))) (want0 rfl) (by kernel_rfl) (xc Tryz.call86) (h.mono ?_)
 rintro e w7 ⟨r4,rfl,hC,hk,h⟩
 refine ⟨_,rfl,.inr ⟨hC,hb.kept hk⟩,?_⟩
 obtain ⟨hs,hb⟩:=hk.hh hs hb
 refine lg 20 (sl_new (O:=(.cells #[(vi r1),(vi r2),(vi r3),(vi r4)] 3)) (fun p=>(Sl.mk (some p) 4 4).v) (pickA (S8 (S8 (S4 pickZ)))) (want0 rfl) (by kernel_rfl) (x_buildSlice (vs:=#[(0,(vi r1)),(1,(vi r2)),(2,(vi r3)),(3,(vi r4))]) (by kernel_rfl) (by kernel_rfl)) ?_)
 intro p3 w8 hn3
 have h:=h p3 w8 hn3
 refine ⟨.inr ⟨h.1,hb.kept (Ext.new (F:=None) hn3).keptP⟩,?_⟩
 have h:=h.2
 have hs:=hs.again (Ext.new (F:=None) hn3).keptP
 have hb:=hb.kept (Ext.new (F:=None) hn3).keptP
 refine lg 21 ?_
 refine sl_call (pickA (S8 (S8 (S4 (pickS pickZ))))) (want0 rfl) (by kernel_rfl) (xc Tryz.call83) (h.mono ?_)
 rintro e w9 ⟨r5,rfl,hC,hk,h⟩
 refine ⟨_,rfl,.inr ⟨hC,hb.kept hk⟩,?_⟩
 obtain ⟨hs,hb⟩:=hk.hh hs hb
 refine qx 22 (vi r5) (pickA (S8 (S8 (S4 (pickS (pickS pickZ)))))) (wn (th_n (er (rs1 Tryz.results28 (v:=(vi r5)) ?_))))
 exact ⟨r5,rfl,h⟩
theorem eqt_ref12_Same_neq_75 (a0 a1 a2:Int) (a3:ByteArray) (b0 b1 b2:Int) (b3:ByteArray) (w:World):(Go.binOp .neq 75 (.agg #[(.int .i64 a0),(.int .i64 a1),(.int .u64 a2),(.string a3)]) (.agg #[(.int .i64 b0),(.int .i64 b1),(.int .u64 b2),(.string b3)])).run Tryz.prog w=.ok (.bool (!((a0 == b0) && ((a1 == b1) && ((a2 == b2) && (decide (a3=b3))))))) w:=by
 simp [Go.binOp,Op.equal,Op.maxDepth,go_sem,streq,bne]
 repeat' split
 all_goals simp_all
def m_G1_l1 (a1 b1:Sl) (i1:Int) (w0:World) (Hl1:NP) (wl1:World) (Kc1:Int→NP→WP) (K:Bool→WP):Prop :=
 Br (decide (i1<(a1.len:Int)))
  (∃a2:Addr,At a1 i1 4 a2 ∧
  ∀(w1:World),Hst w0 Hl1 wl1 Hl1 w1 →
  ∃aF aH aI:Int,∃aG:ByteArray,Row w1 a2 [(vi aF),(vi aH),(vu aI),(vs aG)] ∧
  ∃a3:Addr,At b1 i1 4 a3 ∧
  ∃aW bC bD:Int,∃aX:ByteArray,Row w1 a3 [(vi aW),(vi bC),(vu bD),(vs aX)] ∧
  Br (!((aF == aW) && ((aH == bC) && ((aI == bD) && (decide (aG=aX))))))
   (K false w1)
   (Kc1 (q6.wrap (i1+1)) Hl1 w1))
  (K true wl1)
def m_G1 (a1 b1:Sl) (w0:World) (K:Bool→WP):Prop :=
 Br (((a1.len:Int):Int) != (b1.len:Int))
  (K false w0)
  (∃(I1:Int→NP→WP) (mu1:Int→World→Nat),I1 0 None w0 ∧
   ∀(i1:Int) (Hl1:NP) (wl1:World),Hst w0 Hl1 wl1 Hl1 wl1→I1 i1 Hl1 wl1→m_G1_l1 a1 b1 i1 w0 Hl1 wl1 (fun y'0 H' w'=>I1 y'0 H' w'∧mu1 y'0 w'<mu1 i1 wl1) K)
theorem w_G1 (a1 b1 : Sl) (w0 : World) (K : Bool → WP) (h : m_G1 a1 b1 w0 K) :
  Calls Tryz.prog 30 #[a1.v,b1.v] w0 (fun e w'=>∃r1:Bool,e=.returned (vb r1)∧K r1 w'):=by
 unfold m_G1 at h
 refine cw (args:=[a1.v,b1.v]) Tryz.func30 Tryz.ntmps30 ?_
 have hs:=Hst.start w0
 have hb:=HB.nil None w0
 refine eg (q0 (vb false) (ln (wpE_seq (eg (q0 a1.v (q0 (vi (a1.len:Int)) (q0 b1.v (q0 (vi (b1.len:Int)) ?_))))))))
 refine q0 (vb (((a1.len:Int):Int) != (b1.len:Int))) (ln ?_)
 refine wpE_cond (t:=(((a1.len:Int):Int) != (b1.len:Int))) (by kernel_rfl) (fun hc1=>?_) (fun hc1=>?_)
 have h:=h.1 hc1
 refine eg (q0 (vb false) (ln (er (th_r (rs1 Tryz.results30 (v:=(vb false)) ?_)))))
 exact ⟨false,rfl,h⟩
 have h:=h.2 hc1
 refine wpE_skip (th_n (wpE_seq (eg (q0 (vi 0) (ln (wpE_block ?_))))))
 obtain ⟨I1,mu1,h0,hr⟩:=h
 refine wpE_loop (σ:=Int×NP×World) (fun s ρ w=>w=s.2.2∧Has ρ [(0,a1.v),(1,b1.v),(5,(vi s.1))]∧Hst w0 s.2.1 w s.2.1 w∧HB s.2.1 w []∧I1 s.1 s.2.1 s.2.2) (fun s=>mu1 s.1 s.2.2) (0,None,w0) ⟨rfl,hm,hs,hb,h0⟩ ?_
 rintro ⟨i1,Hl1,wl1⟩ ρ w ⟨hw,hH,hs,hb,hI⟩
 obtain rfl:wl1=w:=(show w=wl1 from hw).symm
 have hH:Has ρ [(0,a1.v),(1,b1.v),(5,(vi i1))]:=hH
 have hs:Hst w0 Hl1 wl1 Hl1 wl1:=hs
 have hb:HB Hl1 wl1 []:=hb
 have h:=hr i1 Hl1 wl1 hs hI
 unfold m_G1_l1 at h
 refine wpE_has hH ?_
 refine wpE_seq (eg (q0 (vi i1) (q0 a1.v (q0 (vi (a1.len:Int)) (q0 (vb (decide (i1<(a1.len:Int)))) (ln ?_))))))
 refine wpE_cond (t:=(decide (i1<(a1.len:Int)))) (by kernel_rfl) (fun hc2=>?_) (fun hc2=>?_)
 have h:=h.1 hc2
 refine wpE_skip (th_n (wpE_seq (wpE_block (wpE_seq (wpE_drawnQ (by kernel_rfl) (by kernel_rfl) (by kernel_rfl) (by kernel_rfl) ?_)))))
 intro w1 hw1
 have hs:Hst w0 Hl1 wl1 Hl1 w1:=by rw [hw1];exact hs.drew
 have hb:HB Hl1 w1 []:=by rw [hw1];exact hb.drew
 refine qq 0 a1.v Kp0 (qq 1 (vi i1) Kp1 (qg 2 ?_))
 obtain ⟨a2,hv4,h⟩:=h
 refine sxQ (v:=(vp (some a2))) Kp2 (want0 rfl) rfl (xi (Tryz.runUnderlying71 _) (Tryz.sizeOf75 _) hv4) (qg 3 ?_)
 have h:=h w1 hs
 have hs:=hs.here
 obtain ⟨aF,aH,aI,aG,hv3,h⟩:=h
 refine sxQ (v:=(.agg #[(vi aF),(vi aH),(vu aI),(vs aG)])) Kp3 (want0 rfl) rfl (xa a2 [(vi aF),(vi aH),(vu aI),(vs aG)] (Tryz.isAgg75 _) (Tryz.sizeOf75 _) hv3) (qq 4 b1.v Kp4 (qq 5 (vi i1) Kp5 (qg 6 ?_)))
 obtain ⟨a3,hv2,h⟩:=h
 refine sxQ (v:=(vp (some a3))) Kp6 (want0 rfl) rfl (xi (Tryz.runUnderlying71 _) (Tryz.sizeOf75 _) hv2) (qg 7 ?_)
 obtain ⟨aW,bC,bD,aX,hv1,h⟩:=h
 refine sxQ (v:=(.agg #[(vi aW),(vi bC),(vu bD),(vs aX)])) Kp7 (want0 rfl) rfl (xa a3 [(vi aW),(vi bC),(vu bD),(vs aX)] (Tryz.isAgg75 _) (Tryz.sizeOf75 _) hv1) (qr 8 (vb (!((aF == aW) && ((aH == bC) && ((aI == bD) && (decide (aG=aX))))))) Kp8 (x_aggeq (by kernel_rfl) (by kernel_rfl) (by kernel_rfl) (eqt_ref12_Same_neq_75 aF aH aI aG aW bC bD aX _)) (wn (th_n ?_)))
 refine wpE_cond (t:=(!((aF == aW) && ((aH == bC) && ((aI == bD) && (decide (aG=aX))))))) (by kernel_rfl) (fun hc3=>?_) (fun hc3=>?_)
 have h:=h.1 hc3
 refine eg (q0 (vb false) (ln (er (bl_r (th_r (th_r (bl_r (th_r (rs1 Tryz.results30 (v:=(vb false)) ?_)))))))))
 exact ⟨false,rfl,h⟩
 have h:=h.2 hc3
 refine wpE_skip (bl_n (th_n (rg (q0 (vi i1) (q0 (vi (q6.wrap (i1+1))) (q0 (vi (q6.wrap (i1+1))) (ln ?_)))))))
 exact ⟨((q6.wrap (i1+1)),Hl1,w1),⟨rfl,hm,hs,hb,h.1⟩,h.2⟩
 have h:=h.2 hc2
 refine wpE_exit (th_x (th_x (bl_eq (th_n (eg (q0 (vb true) (ln (er (rs1 Tryz.results30 (v:=(vb true)) ?_)))))))))
 exact ⟨true,rfl,h⟩
def m_F_j3 (i1:Int) (H:NP) (w:World) (Kc2:Int→NP→WP) (_K:Bool→WP):Prop :=
 Kc2 (q6.wrap (i1+1)) H w
def m_F_j4 (i1:Int) (x2:Bool) (H:NP) (w:World) (Kc2:Int→NP→WP) (K:Bool→WP):Prop :=
 Br x2
  (K false w)
  (m_F_j3 i1 H w Kc2 K)
def m_F_l5 (ts1:Sl) (r2:Option Addr) (r5:Sl) (p2:Addr) (i2:Int) (Hl2:NP) (wl2:World) (Kc5:Int→NP→WP) (K:Bool→WP):Prop :=
 Br (decide (i2<(ts1.len:Int)))
  (∃a4:Addr,At ts1 i2 1 a4 ∧
  ∃v1:Int,wl2.cell? a4=some (vi v1) ∧
  Calls Tryz.prog 29 #[(vp (some p2)),(vi v1)] wl2 (fun e w12=>∃r9:Int,e=.returned (vi r9)∧
   Kept Hl2 wl2 w12 ∧
   Kc5 (q6.wrap (i2+1)) Hl2 w12))
  (Calls Tryz.prog 31 #[(vp (some p2))] wl2 (fun e w13=>∃r10:Sl,e=.returned r10.v∧
   Kept Hl2 wl2 w13 ∧
   Calls Tryz.prog 26 #[(vp r2),r10.v] w13 (fun e w14=>∃r11:Sl,e=.returned r11.v∧
    Kept Hl2 w13 w14 ∧
    Calls Tryz.prog 30 #[r11.v,r5.v] w14 (fun e w15=>∃r12:Bool,e=.returned (vb r12)∧
     Kept Hl2 w14 w15 ∧
     Br r12
      (Calls Tryz.prog 24 #[] w15 (fun e w16=>∃r13:Bool,e=.returned (vb r13)∧
       Kept Hl2 w15 w16 ∧
       K r13 w16))
      (K false w15)))))
def m_F_l2 (ts1:Sl) (r2:Option Addr) (r3:Option Addr) (r5 r6:Sl) (i1:Int) (w0:World) (Hl1:NP) (wl1:World) (Kc2:Int→NP→WP) (K:Bool→WP):Prop :=
 Br (decide (i1<(r5.len:Int)))
  (∃C1:WP,C1 wl1.drew∧∀w8,w8=wl1.drew →
  ∃a1:Addr,At r5 i1 4 a1 ∧
  ∃aF aH aI:Int,∃aG:ByteArray,Row w8 a1 [(vi aF),(vi aH),(vu aI),(vs aG)] ∧
  Calls Tryz.prog 27 #[r6.v,(.agg #[(vi aF),(vi aH),(vu aI),(vs aG)])] w8 (fun e w9=>∃r7:Bool,e=.returned (vb r7)∧C1 w9∧
   Kept Hl1 w8 w9 ∧
   Br (!r7)
    (m_F_j4 i1 true Hl1 w9 Kc2 K)
    (Br (decide (i1>0))
     (∃a2:Addr,At r5 (q6.wrap (i1 - 1)) 4 a2 ∧
     ∃aW bC bD:Int,∃aX:ByteArray,(∀w',C1 w'→Row w' a2 [(vi aW),(vi bC),(vu bD),(vs aX)]) ∧
     ∃a3:Addr,At r5 i1 4 a3 ∧
     ∃cZ dA dB:Int,∃dC:ByteArray,(∀w',C1 w'→Row w' a3 [(vi cZ),(vi dA),(vu dB),(vs dC)]) ∧
     Calls Tryz.prog 28 #[(.agg #[(vi aW),(vi bC),(vu bD),(vs aX)]),(.agg #[(vi cZ),(vi dA),(vu dB),(vs dC)])] w9 (fun e w10=>∃r8:Int,e=.returned (vi r8)∧C1 w10∧
      Kept Hl1 w9 w10 ∧
      m_F_j4 i1 (decide (r8≥0)) Hl1 w10 Kc2 K))
     (m_F_j4 i1 false Hl1 w9 Kc2 K))))
  (∀(p2:Addr) (w11:World),New wl1 (.cells #[(vp r3),Sl.nil.v] 48) p2 w11 →
  ∃(I2:Int→NP→WP) (mu2:Int→World→Nat),I2 0 Hl1 w11 ∧
   ∀(i2:Int) (Hl2:NP) (wl2:World),Hst w0 Hl2 wl2 Hl2 wl2→I2 i2 Hl2 wl2→m_F_l5 ts1 r2 r5 p2 i2 Hl2 wl2 (fun y'0 H' w'=>I2 y'0 H' w'∧mu2 y'0 w'<mu2 i2 wl2) K)
def m_F_j1 (l1 ts1 more1:Sl) (x1:Bool) (w0:World) (H:NP) (w:World) (K:Bool→WP):Prop :=
 Br x1
  (Calls Tryz.prog 24 #[] w (fun e w1=>∃r1:Bool,e=.returned (vb r1)∧
   Kept H w w1 ∧
   K r1 w1))
  (Calls Tryz.prog 25 #[l1.v] w (fun e w2=>∃r2:Option Addr,∃r3:Option Addr,∃r4:Bool,e=.returned (.tuple #[(vp r2),(vp r3),(vb r4)])∧
   Kept H w w2 ∧
   Br (!r4)
    (K false w2)
    (Calls Tryz.prog 26 #[(vp r2),ts1.v] w2 (fun e w3=>∃r5:Sl,e=.returned r5.v∧
     Kept H w2 w3 ∧
     ∀(p1:Addr) (w4:World),New w3 (.cells #[] 78) p1 w4 →
     ∃s1:Sl,∃w5:World,(Builtin.append_ #[46,46] 46 #[(Sl.mk (some p1) 0 0).v,ts1.v]).run Tryz.prog w4=.ok s1.v w5 ∧
     Kept H w4 w5 ∧
     ∃s2:Sl,∃w6:World,(Builtin.append_ #[46,46] 46 #[s1.v,more1.v]).run Tryz.prog w5=.ok s2.v w6 ∧
     Kept H w5 w6 ∧
     Calls Tryz.prog 26 #[(vp r2),s2.v] w6 (fun e w7=>∃r6:Sl,e=.returned r6.v∧
      Kept H w6 w7 ∧
      ∃(I1:Int→NP→WP) (mu1:Int→World→Nat),I1 0 H w7 ∧
       ∀(i1:Int) (Hl1:NP) (wl1:World),Hst w0 Hl1 wl1 Hl1 wl1→I1 i1 Hl1 wl1→m_F_l2 ts1 r2 r3 r5 r6 i1 w0 Hl1 wl1 (fun y'0 H' w'=>I1 y'0 H' w'∧mu1 y'0 w'<mu1 i1 wl1) K)))))
def m_F (l1 ts1 more1:Sl) (w0:World) (K:Bool→WP):Prop :=
 Calls Tryz.prog 23 #[l1.v] w0 (fun e w17=>∃r14:Bool,e=.returned (vb r14)∧
  Kept None w0 w17 ∧
  ∀(H2:NP) (w19:World),Hst w0 None w17 H2 w19 →
  m_F_j1 l1 ts1 more1 ((r14 || (decide ((ts1.len:Int)>20))) || (decide ((more1.len:Int)>20))) w0 H2 w19 K)
theorem w_F (l1 ts1 more1 : Sl) (w0 : World) (K : Bool → WP) (h : m_F l1 ts1 more1 w0 K) :
  Calls Tryz.prog 4 #[l1.v,ts1.v,more1.v] w0 (fun e w'=>∃r15:Bool,e=.returned (vb r15)∧K r15 w'):=by
 unfold m_F at h
 refine cw (args:=[l1.v,ts1.v,more1.v]) Tryz.func4 Tryz.ntmps4 ?_
 have hs:=Hst.start w0
 have hb:=HB.nil None w0
 refine eg (q0 (vb false) (ln (wpE_seq (wpE_seq ?_))))
 refine wpE_joinT (fun ρ w=>∃x1:Bool,∃H:NP,Has ρ [(0,l1.v),(1,ts1.v),(2,more1.v),(26,(vb x1))]∧Hst w0 H w H w∧HB H w []∧m_F_j1 l1 ts1 more1 x1 w0 H w K) ?_ ?_
 rintro ρ w ⟨x1,H,hH,hs,hb,h⟩
 unfold m_F_j1 at h
 refine wpE_has hH ?_
 refine wpE_cond (t:=x1) (by kernel_rfl) (fun hc1=>?_) (fun hc1=>?_)
 have h:=h.1 hc1
 refine eg ?_
 refine sc Tryz.call24 (h.mono ?_)
 rintro e w1 ⟨r1,rfl,hk,h⟩
 refine ⟨_,rfl,?_⟩
 obtain ⟨hs,hb⟩:=hk.hh hs hb
 refine q0 (vb r1) (ln (er (th_r (rs1 Tryz.results4 (v:=(vb r1)) ?_))))
 exact ⟨r1,rfl,h⟩
 have h:=h.2 hc1
 refine wpE_skip (th_n (eg (q0 l1.v ?_)))
 refine sc Tryz.call25 (h.mono ?_)
 rintro e w2 ⟨r2,r3,r4,rfl,hk,h⟩
 refine ⟨_,rfl,?_⟩
 obtain ⟨hs,hb⟩:=hk.hh hs hb
 refine q0 (.tuple #[(vp r2),(vp r3),(vb r4)]) (q0 (vp r2) (q0 (vp r3) (q0 (vb r4) (q0 (vp r2) (q0 (vp r3) (q0 (vb r4) (ln (wpE_seq (eg ?_)))))))))
 refine q0 (vb r4) (q0 (vb (!r4)) (ln ?_))
 refine wpE_cond (t:=(!r4)) (by kernel_rfl) (fun hc2=>?_) (fun hc2=>?_)
 have h:=h.1 hc2
 refine eg (q0 (vb false) (ln (er (th_r (rs1 Tryz.results4 (v:=(vb false)) ?_)))))
 exact ⟨false,rfl,h⟩
 have h:=h.2 hc2
 refine wpE_skip (th_n (eg (q0 (vp r2) (q0 ts1.v ?_))))
 refine sc Tryz.call26 (h.mono ?_)
 rintro e w3 ⟨r5,rfl,hk,h⟩
 refine ⟨_,rfl,?_⟩
 obtain ⟨hs,hb⟩:=hk.hh hs hb
 refine q0 (vp r2) (st_new (O:=(.cells #[] 78)) (fun p=>(Sl.mk (some p) 0 0).v) (want0 rfl) (x_buildSlice (vs:=#[]) (by kernel_rfl) (by kernel_rfl)) ?_)
 intro p1 w4 hn2
 have h:=h p1 w4 hn2
 have hs:=hs.again (Ext.new (F:=None) hn2).keptP
 have hb:=hb.kept (Ext.new (F:=None) hn2).keptP
 refine q0 ts1.v ?_
 obtain ⟨s1,w5,hv10,hk,h⟩:=h
 refine st (v:=s1.v) (want0 rfl) (x_builtin (args:=#[(Sl.mk (some p1) 0 0).v,ts1.v]) (by kernel_rfl) (fun _=>rfl) hv10) ?_
 obtain ⟨hs,hb⟩:=hk.hh hs hb
 refine q0 more1.v ?_
 obtain ⟨s2,w6,hv9,hk,h⟩:=h
 refine st (v:=s2.v) (want0 rfl) (x_builtin (args:=#[s1.v,more1.v]) (by kernel_rfl) (fun _=>rfl) hv9) ?_
 obtain ⟨hs,hb⟩:=hk.hh hs hb
 refine sc Tryz.call26 (h.mono ?_)
 rintro e w7 ⟨r6,rfl,hk,h⟩
 refine ⟨_,rfl,?_⟩
 obtain ⟨hs,hb⟩:=hk.hh hs hb
 refine q0 r5.v (q0 r6.v (ln (wpE_seq (eg (q0 (vi 0) (ln (wpE_block ?_)))))))
 obtain ⟨I1,mu1,h0,hr⟩:=h
 refine wpE_loop (σ:=Int×NP×World) (fun s ρ w=>w=s.2.2∧Has ρ [(1,ts1.v),(7,(vp r2)),(8,(vp r3)),(10,r5.v),(11,r6.v),(12,(vi s.1))]∧Hst w0 s.2.1 w s.2.1 w∧HB s.2.1 w []∧I1 s.1 s.2.1 s.2.2) (fun s=>mu1 s.1 s.2.2) (0,H,w7) ⟨rfl,hm,hs,hb,h0⟩ ?_
 rintro ⟨i1,Hl1,wl1⟩ ρ w ⟨hw,hH,hs,hb,hI⟩
 obtain rfl:wl1=w:=(show w=wl1 from hw).symm
 have hH:Has ρ [(1,ts1.v),(7,(vp r2)),(8,(vp r3)),(10,r5.v),(11,r6.v),(12,(vi i1))]:=hH
 have hs:Hst w0 Hl1 wl1 Hl1 wl1:=hs
 have hb:HB Hl1 wl1 []:=hb
 have h:=hr i1 Hl1 wl1 hs hI
 unfold m_F_l2 at h
 refine wpE_has hH ?_
 refine wpE_seq (eg (q0 (vi i1) (q0 r5.v (q0 (vi (r5.len:Int)) (q0 (vb (decide (i1<(r5.len:Int)))) (ln ?_))))))
 refine wpE_cond (t:=(decide (i1<(r5.len:Int)))) (by kernel_rfl) (fun hc3=>?_) (fun hc3=>?_)
 have h:=h.1 hc3
 refine wpE_skip (th_n (wpE_seq ?_))
 refine wpE_joinT (fun ρ w=>∃H:NP,Has ρ [(1,ts1.v),(7,(vp r2)),(8,(vp r3)),(10,r5.v),(11,r6.v),(12,(vi i1))]∧Hst w0 H w H w∧HB H w []∧m_F_j3 i1 H w (fun y'0 H' w'=>I1 y'0 H' w'∧mu1 y'0 w'<mu1 i1 wl1) K) ?_ ?_
 rintro ρ w ⟨H,hH,hs,hb,h⟩
 unfold m_F_j3 at h
 refine wpE_has hH ?_
 refine rg (q0 (vi i1) (q0 (vi (q6.wrap (i1+1))) (q0 (vi (q6.wrap (i1+1))) (ln ?_))))
 exact ⟨((q6.wrap (i1+1)),H,w),⟨rfl,hm,hs,hb,h.1⟩,h.2⟩
 refine wpE_block (wpE_seq ?_)
 refine wpE_joinT (fun ρ w=>∃x2:Bool,∃H:NP,Has ρ [(1,ts1.v),(7,(vp r2)),(8,(vp r3)),(10,r5.v),(11,r6.v),(12,(vi i1)),(75,(vb x2))]∧Hst w0 H w H w∧HB H w []∧m_F_j4 i1 x2 H w (fun y'0 H' w'=>I1 y'0 H' w'∧mu1 y'0 w'<mu1 i1 wl1) K) ?_ ?_
 rintro ρ w ⟨x2,H,hH,hs,hb,h⟩
 unfold m_F_j4 at h
 refine wpE_has hH ?_
 refine wpE_cond (t:=x2) (by kernel_rfl) (fun hc4=>?_) (fun hc4=>?_)
 have h:=h.1 hc4
 refine eg (q0 (vb false) (ln (er (bl_r (th_r (th_r (bl_r (th_r (rs1 Tryz.results4 (v:=(vb false)) ?_)))))))))
 exact ⟨false,rfl,h⟩
 have h:=h.2 hc4
 refine wpE_skip (bl_n (th_n ?_))
 exact ⟨H,hm,hs,hb,h⟩
 obtain ⟨C1,hC,h⟩:=h
 refine wpE_drawnC C1 [5,20] [] (by kernel_rfl) (by kernel_rfl) (by kernel_rfl) (by kernel_rfl) hC ?_
 intro w8 hw8
 have h:=h w8 hw8
 have hs:Hst w0 Hl1 wl1 Hl1 w8:=by rw [hw8];exact hs.drew
 have hb:HB Hl1 w8 []:=by rw [hw8];exact hb.drew
 have hs:=hs.here
 refine qx 0 r6.v Kp0 (qx 1 r5.v Kp1 (qx 2 (vi i1) Kp2 (qg 3 ?_)))
 obtain ⟨a1,hv6,h⟩:=h
 refine sy (v:=(vp (some a1))) Kp3 (fun _ _=>(xi (Tryz.runUnderlying71 _) (Tryz.sizeOf75 _) hv6)) (qg 4 ?_)
 obtain ⟨aF,aH,aI,aG,hv5,h⟩:=h
 refine sye (v:=(.agg #[(vi aF),(vi aH),(vu aI),(vs aG)])) Kp4 (xa a1 [(vi aF),(vi aH),(vu aI),(vs aG)] (Tryz.isAgg75 _) (Tryz.sizeOf75 _) hv5) (lg 5 ?_)
 refine sl_call Kp5 (want0 rfl) (by kernel_rfl) (xc Tryz.call27) (h.mono ?_)
 rintro e w9 ⟨r7,rfl,hC,hk,h⟩
 refine ⟨_,rfl,.inr hC,?_⟩
 obtain ⟨hs,hb⟩:=hk.hh hs hb
 refine qx 6 (vb (!r7)) Kp6 (qx 7 (vb (!r7)) Kp7 (qg 8 ?_))
 rcases Bool.eq_false_or_eq_true (!r7) with hg1 | hg1
 have h:=h.1 hg1
 refine sx_not Kp8 (unwant rfl (yD 59 hg1) rfl) (qn 9 Kp9 (unwant rfl (yD 59 hg1) rfl) (qn 10 (pickA (S8 (pickS (pickS pickZ)))) (unwant rfl (yD 59 hg1) rfl) (qn 11 (pickA (S8 (pickS (pickS (pickS pickZ))))) (by kernel_rfl) (qn 12 (pickA (S8 (S4 pickZ))) (by kernel_rfl) (qn 13 (pickA (S8 (S4 (pickS pickZ)))) (by kernel_rfl) (qn 14 (pickA (S8 (S4 (pickS (pickS pickZ))))) (by kernel_rfl) (qn 15 (pickA (S8 (S4 (pickS (pickS (pickS pickZ)))))) (by kernel_rfl) (qn 16 (pickA (S8 (S8 pickZ))) (by kernel_rfl) (qn 17 (pickA (S8 (S8 (pickS pickZ)))) (by kernel_rfl) (qn 18 (pickA (S8 (S8 (pickS (pickS pickZ))))) (by kernel_rfl) (qn 19 (pickA (S8 (S8 (pickS (pickS (pickS pickZ)))))) (by kernel_rfl) ?_)))))))))))
 refine lg 20 (sx_not (pickA (S8 (S8 (S4 pickZ)))) (by kernel_rfl) (qn 21 (pickA (S8 (S8 (S4 (pickS pickZ))))) (by kernel_rfl) (qn 22 (pickA (S8 (S8 (S4 (pickS (pickS pickZ)))))) (unwant rfl (yD 59 hg1) rfl) (qz 23 (vb true) (pickA (S8 (S8 (S4 (pickS (pickS (pickS pickZ))))))) (fun _ _=>(xT hg1)) (wn (th_n ?_))))))
 exact ⟨true,Hl1,hm,hs,hb,h⟩
 have h:=h.2 hg1
 refine sz (v:=(vi i1)) Kp8 (wy 59 hg1) (fun _ _=>(by kernel_rfl)) (qw 9 (vb (decide (i1>0))) Kp9 (wy 59 hg1) (qw 10 (vb (decide (i1>0))) (pickA (S8 (pickS (pickS pickZ)))) (wy 59 hg1) (qg 11 ?_)))
 rcases Bool.eq_false_or_eq_true (decide (i1>0)) with hg2 | hg2
 have h:=h.1 hg2
 refine sz (v:=r5.v) (pickA (S8 (pickS (pickS (pickS pickZ))))) (wy 62 hg2) (fun _ _=>(by kernel_rfl)) (qw 12 (vi i1) (pickA (S8 (S4 pickZ))) (wy 62 hg2) (qw 13 (vi (q6.wrap (i1 - 1))) (pickA (S8 (S4 (pickS pickZ)))) (wy 62 hg2) (qg 14 ?_)))
 obtain ⟨a2,hv4,h⟩:=h
 refine sz (v:=(vp (some a2))) (pickA (S8 (S4 (pickS (pickS pickZ))))) (wy 62 hg2) (fun _ _=>(xi (Tryz.runUnderlying71 _) (Tryz.sizeOf75 _) hv4)) (qg 15 ?_)
 obtain ⟨aW,bC,bD,aX,hv3,h⟩:=h
 refine sz (v:=(.agg #[(vi aW),(vi bC),(vu bD),(vs aX)])) (pickA (S8 (S4 (pickS (pickS (pickS pickZ)))))) (wy 62 hg2) (fun w' hw'=>(xa a2 [(vi aW),(vi bC),(vu bD),(vs aX)] (Tryz.isAgg75 _) (Tryz.sizeOf75 _) (hv3 w' hw'))) (qw 16 r5.v (pickA (S8 (S8 pickZ))) (wy 62 hg2) (qw 17 (vi i1) (pickA (S8 (S8 (pickS pickZ)))) (wy 62 hg2) (qg 18 ?_)))
 obtain ⟨a3,hv2,h⟩:=h
 refine sz (v:=(vp (some a3))) (pickA (S8 (S8 (pickS (pickS pickZ))))) (wy 62 hg2) (fun _ _=>(xi (Tryz.runUnderlying71 _) (Tryz.sizeOf75 _) hv2)) (qg 19 ?_)
 obtain ⟨cZ,dA,dB,dC,hv1,h⟩:=h
 refine sz (v:=(.agg #[(vi cZ),(vi dA),(vu dB),(vs dC)])) (pickA (S8 (S8 (pickS (pickS (pickS pickZ)))))) (wy 62 hg2) (fun w' hw'=>(xa a3 [(vi cZ),(vi dA),(vu dB),(vs dC)] (Tryz.isAgg75 _) (Tryz.sizeOf75 _) (hv1 w' hw'))) (lg 20 ?_)
 refine sl_call (pickA (S8 (S8 (S4 pickZ)))) (wy 62 hg2) (by kernel_rfl) (xc Tryz.call28) (h.mono ?_)
 rintro e w10 ⟨r8,rfl,hC,hk,h⟩
 refine ⟨_,rfl,.inr hC,?_⟩
 obtain ⟨hs,hb⟩:=hk.hh hs hb
 refine qw 21 (vb (decide (r8≥0))) (pickA (S8 (S8 (S4 (pickS pickZ))))) (wy 62 hg2) (qg 22 (sz (v:=(vb (decide (r8≥0)))) (pickA (S8 (S8 (S4 (pickS (pickS pickZ)))))) (wy 59 hg1) (fun _ _=>(xT hg2)) (qz 23 (vb (decide (r8≥0))) (pickA (S8 (S8 (S4 (pickS (pickS (pickS pickZ))))))) (fun _ _=>(xF hg1)) (wn (th_n ?_)))))
 exact ⟨(decide (r8≥0)),Hl1,hm,hs,hb,h⟩
 have h:=h.2 hg2
 refine sx_not (pickA (S8 (pickS (pickS (pickS pickZ))))) (unwant rfl (yD 62 hg2) rfl) (qn 12 (pickA (S8 (S4 pickZ))) (unwant rfl (yD 62 hg2) rfl) (qn 13 (pickA (S8 (S4 (pickS pickZ)))) (unwant rfl (yD 62 hg2) rfl) (qn 14 (pickA (S8 (S4 (pickS (pickS pickZ))))) (unwant rfl (yD 62 hg2) rfl) (qn 15 (pickA (S8 (S4 (pickS (pickS (pickS pickZ)))))) (unwant rfl (yD 62 hg2) rfl) (qn 16 (pickA (S8 (S8 pickZ))) (unwant rfl (yD 62 hg2) rfl) (qn 17 (pickA (S8 (S8 (pickS pickZ)))) (unwant rfl (yD 62 hg2) rfl) (qn 18 (pickA (S8 (S8 (pickS (pickS pickZ))))) (unwant rfl (yD 62 hg2) rfl) (qn 19 (pickA (S8 (S8 (pickS (pickS (pickS pickZ)))))) (unwant rfl (yD 62 hg2) rfl) (lg 20 (sx_not (pickA (S8 (S8 (S4 pickZ)))) (unwant rfl (yD 62 hg2) rfl) (qn 21 (pickA (S8 (S8 (S4 (pickS pickZ))))) (unwant rfl (yD 62 hg2) rfl) ?_)))))))))))
 refine qg 22 (sz (v:=(vb false)) (pickA (S8 (S8 (S4 (pickS (pickS pickZ)))))) (wy 59 hg1) (fun _ _=>(xF hg2)) (qz 23 (vb false) (pickA (S8 (S8 (S4 (pickS (pickS (pickS pickZ))))))) (fun _ _=>(xF hg1)) (wn (th_n ?_))))
 exact ⟨false,Hl1,hm,hs,hb,h⟩
 have h:=h.2 hc3
 refine wpE_exit (th_x (th_x (bl_eq (th_n (eg (q0 (vp r3) (q0 (.agg #[(vp r3),Sl.nil.v]) (sn (O:=(.cells #[(vp r3),Sl.nil.v] 48)) xb ?_))))))))
 intro p2 w11 hn1
 have h:=h p2 w11 hn1
 have hs:=hs.again (Ext.new (F:=None) hn1).keptP
 have hb:=hb.kept (Ext.new (F:=None) hn1).keptP
 refine q0 (vp (some p2)) (ln (wpE_seq (eg (q0 (vi 0) (ln (wpE_block ?_))))))
 obtain ⟨I2,mu2,h0,hr⟩:=h
 refine wpE_loop (σ:=Int×NP×World) (fun s ρ w=>w=s.2.2∧Has ρ [(1,ts1.v),(7,(vp r2)),(10,r5.v),(13,(vp (some p2))),(14,(vi s.1))]∧Hst w0 s.2.1 w s.2.1 w∧HB s.2.1 w []∧I2 s.1 s.2.1 s.2.2) (fun s=>mu2 s.1 s.2.2) (0,Hl1,w11) ⟨rfl,hm,hs,hb,h0⟩ ?_
 rintro ⟨i2,Hl2,wl2⟩ ρ w ⟨hw,hH,hs,hb,hI⟩
 obtain rfl:wl2=w:=(show w=wl2 from hw).symm
 have hH:Has ρ [(1,ts1.v),(7,(vp r2)),(10,r5.v),(13,(vp (some p2))),(14,(vi i2))]:=hH
 have hs:Hst w0 Hl2 wl2 Hl2 wl2:=hs
 have hb:HB Hl2 wl2 []:=hb
 have h:=hr i2 Hl2 wl2 hs hI
 unfold m_F_l5 at h
 refine wpE_has hH ?_
 refine wpE_seq (eg (q0 (vi i2) (q0 ts1.v (q0 (vi (ts1.len:Int)) (q0 (vb (decide (i2<(ts1.len:Int)))) (ln ?_))))))
 refine wpE_cond (t:=(decide (i2<(ts1.len:Int)))) (by kernel_rfl) (fun hc5=>?_) (fun hc5=>?_)
 have h:=h.1 hc5
 refine wpE_skip (th_n (wpE_seq (wpE_block (rg (q0 (vp (some p2)) (q0 ts1.v (q0 (vi i2) ?_)))))))
 obtain ⟨a4,hv8,h⟩:=h
 refine q2 (vp (some a4)) (xi (Tryz.runUnderlying46 _) (Tryz.sizeOf78 _) hv8) ?_
 obtain ⟨v1,hv7,h⟩:=h
 refine q2 (vi v1) (xl (Tryz.isAgg78 _) hv7) ?_
 refine sc Tryz.call29 (h.mono ?_)
 rintro e w12 ⟨r9,rfl,hk,h⟩
 refine ⟨_,rfl,?_⟩
 obtain ⟨hs,hb⟩:=hk.hh hs hb
 refine wpL_nil (bl_n (th_n (rg (q0 (vi i2) (q0 (vi (q6.wrap (i2+1))) (q0 (vi (q6.wrap (i2+1))) (ln ?_)))))))
 exact ⟨((q6.wrap (i2+1)),Hl2,w12),⟨rfl,hm,hs,hb,h.1⟩,h.2⟩
 have h:=h.2 hc5
 refine wpE_exit (th_x (th_x (bl_eq (th_n (eg (q0 (vp r2) (q0 (vp (some p2)) ?_)))))))
 refine sc Tryz.call31 (h.mono ?_)
 rintro e w13 ⟨r10,rfl,hk,h⟩
 refine ⟨_,rfl,?_⟩
 obtain ⟨hs,hb⟩:=hk.hh hs hb
 refine sc Tryz.call26 (h.mono ?_)
 rintro e w14 ⟨r11,rfl,hk,h⟩
 refine ⟨_,rfl,?_⟩
 obtain ⟨hs,hb⟩:=hk.hh hs hb
 refine q0 r5.v ?_
 refine sc Tryz.call30 (h.mono ?_)
 rintro e w15 ⟨r12,rfl,hk,h⟩
 refine ⟨_,rfl,?_⟩
 obtain ⟨hs,hb⟩:=hk.hh hs hb
 refine q0 (vb r12) ?_
 rcases Bool.eq_false_or_eq_true r12 with hg3 | hg3
 have h:=h.1 hg3
 refine st_call (wy 97 hg3) (xc Tryz.call24) (h.mono ?_)
 rintro e w16 ⟨r13,rfl,hk,h⟩
 refine ⟨_,rfl,?_⟩
 obtain ⟨hs,hb⟩:=hk.hh hs hb
 refine q2 (vb r13) (xT hg3) (q0 (vb r13) (ln (er (rs1 Tryz.results4 (v:=(vb r13)) ?_))))
 exact ⟨r13,rfl,h⟩
 have h:=h.2 hg3
 refine sk (yD 97 hg3) (q2 (vb false) (xF hg3) (q0 (vb false) (ln (er (rs1 Tryz.results4 (v:=(vb false)) ?_)))))
 exact ⟨false,rfl,h⟩
 refine rg (q0 l1.v ?_)
 refine sc Tryz.call23 (h.mono ?_)
 rintro e w17 ⟨r14,rfl,hk,h⟩
 refine ⟨_,rfl,?_⟩
 obtain ⟨hs,hb⟩:=hk.hh hs hb
 refine q0 (vb r14) ?_
 refine wpL_join 4 (fun ρ wJ=>∃b1'0:Bool,∃HJ:NP,(r14=b1'0)∧Hst w0 None w17 HJ wJ∧HB HJ wJ []∧Has ρ [(0,l1.v),(1,ts1.v),(2,more1.v),(21,(vb (b1'0 || (decide ((ts1.len:Int)>20)))))]) ?_ ?_
 rintro ρ w18 ⟨b1'0,H1,he0,hs,hb,hH⟩
 subst he0
 refine wpL_has hH ?_
 refine q0 (vb (r14 || (decide ((ts1.len:Int)>20)))) ?_
 refine wpL_join 4 (fun ρ wJ=>∃b2'0:Bool,∃HJ:NP,((r14 || (decide ((ts1.len:Int)>20)))=b2'0)∧Hst w0 None w17 HJ wJ∧HB HJ wJ []∧Has ρ [(0,l1.v),(1,ts1.v),(2,more1.v),(26,(vb (b2'0 || (decide ((more1.len:Int)>20)))))]) ?_ ?_
 rintro ρ w19 ⟨b2'0,H2,he0,hs,hb,hH⟩
 subst he0
 refine wpL_has hH ?_
 refine wpL_nil ?_
 have h:=h H2 w19 hs
 have hs:=hs.here
 refine th_n ?_
 exact ⟨((r14 || (decide ((ts1.len:Int)>20))) || (decide ((more1.len:Int)>20))),H2,hm,hs,hb,h⟩
 rcases Bool.eq_false_or_eq_true (r14 || (decide ((ts1.len:Int)>20))) with hg7 | hg7
 refine sk (yD 22 hg7) (sk (yD 22 hg7) (sk (yD 22 hg7) (q2 (vb true) (xT hg7) (wpL_nil ?_))))
 exact ⟨true,_,hg7,hs,hb,hm⟩
 refine q1 more1.v (wy 22 hg7) (q1 (vi (more1.len:Int)) (wy 22 hg7) (q1 (vb (decide ((more1.len:Int)>20))) (wy 22 hg7) (q2 (vb (decide ((more1.len:Int)>20))) (xF hg7) (wpL_nil ?_))))
 exact ⟨false,_,hg7,hs,hb,hm⟩
 rcases Bool.eq_false_or_eq_true r14 with hg5 | hg5
 refine sk (yD 17 hg5) (sk (yD 17 hg5) (sk (yD 17 hg5) (q2 (vb true) (xT hg5) (wpL_nil ?_))))
 exact ⟨true,_,hg5,hs,hb,hm⟩
 refine q1 ts1.v (wy 17 hg5) (q1 (vi (ts1.len:Int)) (wy 17 hg5) (q1 (vb (decide ((ts1.len:Int)>20))) (wy 17 hg5) (q2 (vb (decide ((ts1.len:Int)>20))) (xF hg5) (wpL_nil ?_))))
 exact ⟨false,_,hg5,hs,hb,hm⟩
def m_X2 (kind1 who1:Int) (cap1:Addr) (w0:World) (K:Int→Int→Int→ByteArray→WP):Prop :=
 ∀(H1:NP) (w1:World),Hst w0 None w0 H1 w1 →
 ∃v1:Int,w1.cell? (cap1.add 2)=some (vu v1) ∧
 ∃v2:ByteArray,w1.cell? (cap1.add 3)=some (vs v2) ∧
 ∀(w2:World),Hst w0 H1 w1 H1 w2 →
 K kind1 who1 v1 v2 w2
theorem w_X2 (kind1 who1 : Int) (cap1 : Addr) (w0 : World) (K : Int → Int → Int → ByteArray → WP) (h : m_X2 kind1 who1 cap1 w0 K) :
  Calls Tryz.prog 162 #[(vi kind1),(vi who1),(vp (some cap1))] w0 (fun e w'=>∃aA bL aC:Int,∃aE:ByteArray,e=.returned (.agg #[(vi aA),(vi bL),(vu aC),(vs aE)])∧K aA bL aC aE w'):=by
 unfold m_X2 at h
 refine cw (args:=[(vi kind1),(vi who1),(vp (some cap1))]) Tryz.func162 Tryz.ntmps162 ?_
 have hs:=Hst.start w0
 have hb:=HB.nil None w0
 refine eg (sn (O:=(.cells #[(vi 0),(vi 0),(vu 0),(vs ⟨#[]⟩)] 75)) (x_alloc (Tryz.zeroValue75 _) rfl) ?_)
 intro p1 w1 hn1
 obtain ⟨H1,hs,hb⟩:=hs.alloc hb hn1
 refine ln (eg (q0 (vi kind1) (q0 (vi who1) (q0 (vp (some (cap1.add 2))) ?_))))
 have h:=h H1 w1 hs
 have hs:=hs.here
 obtain ⟨v1,hv2,h⟩:=h
 refine q2 (vu v1) (xl (Tryz.isAgg23 _) hv2) (q0 (vp (some (cap1.add 3))) ?_)
 obtain ⟨v2,hv1,h⟩:=h
 refine q2 (vs v2) (xl (Tryz.isAgg9 _) hv1) (q0 (.agg #[(vi kind1),(vi who1),(vu v1),(vs v2)]) (st_set (want0 rfl) (xo p1 [(vi kind1),(vi who1),(vu v1),(vs v2)] (Tryz.sizeOf75 _) (hb.k0 0 4 gZ)) ?_))
 intro w2 hn2
 obtain ⟨hs,hb⟩:=hb.s0 (l':=[(p1,[(vi kind1),(vi who1),(vu v1),(vs v2)],75)]) 0 [(vi kind1),(vi who1),(vu v1),(vs v2)] hs hn2 gZ
 refine ln (er ?_)
 have h:=h w2 hs
 have hs:=hs.here
 refine resG (.inl rfl) (vs:=[(.agg #[(vi kind1),(vi who1),(vu v1),(vs v2)])]) (v:=(.agg #[(vi kind1),(vi who1),(vu v1),(vs v2)])) Tryz.results162 ⟨(rA (Tryz.isAgg75 _) (Tryz.sizeOf75 _) (hb.r0 0 4 gZ)),trivial⟩ (by kernel_rfl) ?_
 exact ⟨kind1,who1,v1,v2,rfl,h⟩
end Go.Proofs
end
section
open Go
namespace Go.Sp
structure Fact where
 kind:Int
 who:Int
 c:Int
 text:ByteArray
deriving DecidableEq
def cmpI (a b:Int):Int:=if a<b then -1 else if b<a then 1 else 0
def cmpB (a b:ByteArray):Int:=if Op.bytesLess a.toList b.toList=true then -1 else if a=b then 0 else 1
def cmpF (a b:Fact):Int:=if cmpI a.c b.c≠0 then cmpI a.c b.c else if cmpI a.kind b.kind≠0 then cmpI a.kind b.kind else if cmpI a.who b.who≠0 then cmpI a.who b.who else cmpB a.text b.text
theorem toList_inj {a b:ByteArray} (h:a.toList=b.toList):a=b:=by
 rw [Lib.toList_data,Lib.toList_data] at h
 obtain ⟨a⟩:=a;obtain ⟨b⟩:=b
 simp only at h
 congr 1
 exact Array.toList_inj.1 h
def LtF (a b:Fact):Prop:=a.c<b.c∨(a.c=b.c∧(a.kind<b.kind∨(a.kind=b.kind∧(a.who<b.who∨(a.who=b.who∧a.text.toList<b.text.toList)))))
theorem cmpI_zero {a b:Int}:cmpI a b=0↔a=b:=by unfold cmpI;split <;> (try split) <;> omega
theorem cmpI_neg (a b:Int):cmpI b a=- cmpI a b:=by unfold cmpI;split <;> split <;> (try split) <;> omega
theorem less_iff {a b:ByteArray}:Op.bytesLess a.toList b.toList=true↔a.toList<b.toList:=by rw [Go.Proofs.bytesLess_eq];simp
theorem cmpB_zero {a b:ByteArray}:cmpB a b=0↔a=b:=by
 unfold cmpB
 split
 ·rename_i h
  refine ⟨fun h'=>by omega,fun e=>?_⟩
  subst e
  exact absurd (less_iff.1 h) (List.lt_irrefl _)
 ·split <;> simp_all
theorem cmpB_neg (a b:ByteArray):cmpB b a=- cmpB a b:=by
 unfold cmpB
 by_cases h1:a.toList<b.toList
 ·rw [if_pos (less_iff.2 h1),if_neg (fun h=>List.lt_asymm h1 (less_iff.1 h)),if_neg (fun e=>by subst e;exact List.lt_irrefl _ h1)];rfl
 ·rw [if_neg (fun h=>h1 (less_iff.1 h))]
  by_cases h2:b.toList<a.toList
  ·rw [if_pos (less_iff.2 h2),if_neg (fun e=>by subst e;exact List.lt_irrefl _ h2)]
  ·have e:a=b:=toList_inj (List.le_antisymm (List.not_lt.1 h2) (List.not_lt.1 h1))
   subst e
   rw [if_neg (fun h=>h1 (less_iff.1 h))]
   simp
theorem cmpF_zero {a b:Fact}:cmpF a b=0↔a=b:=by
 obtain ⟨k,w,c,x⟩:=a
 obtain ⟨k',w',c',x'⟩:=b
 unfold cmpF
 simp only [Fact.mk.injEq,← cmpI_zero (a:=k),← cmpI_zero (a:=w),← cmpI_zero (a:=c),← cmpB_zero (a:=x)]
 split
 ·omega
 ·split
  ·omega
  ·split <;> omega
theorem cmpF_neg (a b:Fact):cmpF b a=- cmpF a b:=by
 unfold cmpF
 rw [cmpI_neg a.c,cmpI_neg a.kind,cmpI_neg a.who,cmpB_neg a.text]
 repeat' split
 all_goals omega
theorem cmpF_lt {a b:Fact}:cmpF a b<0↔LtF a b:=by
 have hI:∀{x y:Int},cmpI x y<0↔x<y:=fun {x y}=>by unfold cmpI;split <;> (try split) <;> omega
 have hB:∀{x y:ByteArray},cmpB x y<0↔x.toList<y.toList:=fun {x y}=>by
  rw [← less_iff];unfold cmpB;split
  ·simp_all
  ·split <;> simp_all
 unfold cmpF LtF
 rw [← hI (x:=a.c),← hI (x:=a.kind),← hI (x:=a.who),← hB,← cmpI_zero (a:=a.c),← cmpI_zero (a:=a.kind),← cmpI_zero (a:=a.who)]
 split
 ·omega
 ·split
  ·omega
  ·split <;> omega
theorem LtF.trans {a b c:Fact} (h1:LtF a b) (h2:LtF b c):LtF a c:=by
 unfold LtF at *
 rcases h1 with h1 | ⟨e1,h1⟩
 ·left;omega
 rcases h2 with h2 | ⟨e2,h2⟩
 ·left;omega
 refine .inr ⟨by omega,?_⟩
 rcases h1 with h1 | ⟨e1,h1⟩
 ·left;omega
 rcases h2 with h2 | ⟨e2,h2⟩
 ·left;omega
 refine .inr ⟨by omega,?_⟩
 rcases h1 with h1 | ⟨e1,h1⟩
 ·left;omega
 rcases h2 with h2 | ⟨e2,h2⟩
 ·left;omega
 exact .inr ⟨by omega,List.lt_trans h1 h2⟩
theorem LtF.irrefl (a:Fact):¬ LtF a a:=fun h=>by
 have:=cmpF_lt.2 h
 rw [cmpF_zero.2 rfl] at this;omega
theorem LtF.tri (a b:Fact):LtF a b∨a=b∨LtF b a:=by
 rw [← cmpF_lt,← cmpF_lt,← cmpF_zero,cmpF_neg a b];omega
theorem swoF:Go.Sort.SWO (Go.Proofs.ltOf cmpF) where
 irrefl x:=by unfold Go.Proofs.ltOf;simp [cmpF_zero.2]
 trans x y z h1 h2:=by
  unfold Go.Proofs.ltOf at *
  simp only [decide_eq_true_eq,cmpF_lt] at *
  exact h1.trans h2
 ntrans x y z h1 h2:=by
  unfold Go.Proofs.ltOf at *
  simp only [decide_eq_false_iff_not,cmpF_lt] at *
  intro h
  rcases LtF.tri x y with h3 | rfl | h3
  ·exact h1 h3
  ·exact h2 h
  ·exact h2 (h3.trans h)
def compT (a:Fact):List Fact→List Fact
 | []=>[]
 | b :: l=>if a=b then compT b l else b :: compT b l
def compF:List Fact→List Fact
 | []=>[]
 | a :: l=>a :: compT a l
theorem mem_compT {x:Fact}:∀{l:List Fact} {a:Fact},(x=a∨x∈compT a l)↔(x=a∨x∈l)
 | [],_=>by simp [compT]
 | b :: l,a=>by
  have h:=mem_compT (x:=x) (l:=l) (a:=b)
  unfold compT
  split
  ·rename_i e;subst e;rw [h];simp
  ·simp only [List.mem_cons,h]
theorem mem_compF {l:List Fact} {x:Fact}:x∈compF l↔x∈l:=by
 cases l with
 | nil=>simp [compF]
 | cons a l=>simp only [compF,List.mem_cons];exact mem_compT
theorem compT_len (a:Fact) (l:List Fact):(compT a l).length≤l.length:=by
 induction l generalizing a with
 | nil=>simp [compT]
 | cons b l ih =>
  have:=ih b
  unfold compT
  split <;> simp only [List.length_cons] <;> omega
theorem compF_len (l:List Fact):(compF l).length≤l.length:=by
 cases l with
 | nil=>simp [compF]
 | cons a l=>have:=compT_len a l;simp only [compF,List.length_cons];omega
theorem compT_sorted:∀{l:List Fact} {a:Fact},(a :: l).Pairwise (fun a b=>¬ cmpF b a<0)→(a :: compT a l).Pairwise LtF
 | [],_,_=>by simp [compT]
 | b :: l,a,h=>by
  have h':=(List.pairwise_cons.1 h)
  unfold compT
  have hs:=compT_sorted h'.2
  split
  ·rename_i e;subst e;exact hs
  ·rename_i hne
   have hab:LtF a b:=by
    have:=h'.1 b (by simp)
    rw [cmpF_lt] at this
    rcases LtF.tri a b with h | h | h
    ·exact h
    ·exact absurd h hne
    ·exact absurd h this
   refine List.pairwise_cons.2 ⟨fun x hx=>?_,hs⟩
   rcases List.mem_cons.1 hx with rfl | hx
   ·exact hab
   ·exact hab.trans ((List.pairwise_cons.1 hs).1 x hx)
theorem compF_sorted {l:List Fact} (h:l.Pairwise (fun a b=>¬ cmpF b a<0)):(compF l).Pairwise LtF:=by
 cases l with
 | nil=>simp [compF]
 | cons a l=>exact compT_sorted h
theorem sorted_eq:∀{l m:List Fact},l.Pairwise LtF→m.Pairwise LtF→(∀x,x∈l↔x∈m)→l=m
 | [],[],_,_,_=>rfl
 | [],b :: m,_,_,h=>by have:=(h b).2 (by simp);simp at this
 | a :: l,[],_,_,h=>by have:=(h a).1 (by simp);simp at this
 | a :: l,b :: m,h1,h2,h=>by
  have p1:=List.pairwise_cons.1 h1
  have p2:=List.pairwise_cons.1 h2
  have hab:a=b:=by
   rcases List.mem_cons.1 ((h a).1 (by simp)) with e | ha
   ·exact e
   ·rcases List.mem_cons.1 ((h b).2 (by simp)) with e | hb
    ·exact e.symm
    ·exact absurd ((p1.1 b hb).trans (p2.1 a ha)) (LtF.irrefl a)
  subst hab
  congr 1
  refine sorted_eq p1.2 p2.2 fun x=>⟨fun hx=>?_,fun hx=>?_⟩
  ·rcases List.mem_cons.1 ((h x).1 (by simp [hx])) with rfl | h'
   ·exact absurd (p1.1 x hx) (LtF.irrefl x)
   ·exact h'
  ·rcases List.mem_cons.1 ((h x).2 (by simp [hx])) with rfl | h'
   ·exact absurd (p2.1 x hx) (LtF.irrefl x)
   ·exact h'
end Go.Sp
end
section
open Go Go.SE
namespace Go.Sp
def Letter.fact (l:Letter) (k who:Int):Fact:=⟨k,who,l.c,l.text⟩
def factsS (l:Letter):List Fact :=
 if l.kind=1 then (if l.fake=true then [] else [l.fact 1 l.frm])
 else if l.kind=2 then [l.fact 2 l.frm]
 else if l.kind=3 then [l.fact 3 0]
 else if l.kind=4 then l.fact 4 l.frm :: (if l.fake=true then [] else [l.fact 1 0,l.fact 1 1])
 else if l.kind=5 then [l.fact 5 2]
 else if l.kind=6 then [l.fact 6 2,l.fact 2 0,l.fact 2 1]
 else []
def ofR (r:Letter×Bool):List Fact:=if r.2=true then factsS r.1 else []
def ofS (L:Pool) (t:Int):List Fact:=ofR (read L t)
def whyF (who c:Int) (x:ByteArray):Int→List Fact→Int
 | d,[]=>d
 | d,f :: fs=>if f.kind≠2 then whyF who c x d fs else if f.who=who∧f.c=c∧f.text=x then 0
  else if f.who≠who then whyF who c x (if 3>d then 3 else d) fs
  else if f.c≠c then whyF who c x (if 4>d then 4 else d) fs
  else whyF who c x (if 5>d then 5 else d) fs
def whyS (L:Pool) (t who c:Int) (x:ByteArray):Int:=if (read L t).2=true then whyF who c x 2 (factsS (read L t).1) else 1
def bothS (L:Pool) (a b:Int):Letter×Bool×Int :=
 if sizeOf L a=0∨sizeOf L b=0 then (noLetter,false,51)
 else if (read L a).1.kind≠1∨(read L b).1.kind≠1 then (noLetter,false,120)
 else ((read L a).1,(read L a).1.fake || (read L b).1.fake,if (read L a).1.frm≠0∨(read L b).1.frm≠1∨(read L a).1.c≠(read L b).1.c∨(read L a).1.text≠(read L b).1.text then 122 else 0)
end Go.Sp
namespace Go.SE
theorem Rws.lit {w w':World} {p:Addr} {cs:Array Value} {e:TypeId} {sz:Nat} {rs:List (List Value)} (hn:New w (.cells cs e) p w') (hc:cs.toList=rs.flatten) (hl:∀r∈rs,r.length=sz) (hm:rs.length≤maxLen):Rws w' e sz ⟨some p,rs.length,rs.length⟩ rs:=by
 obtain ⟨hp,hw⟩:=hn
 have hsz:cs.size=rs.length*sz:=by rw [← flatten_len hl,← hc,Array.length_toList]
 refine ⟨hl,rfl,.inr ⟨w.heap.size,cs,by rw [hp],?_,Nat.le_refl _,hm,hsz,?_⟩⟩
 ·rw [hw];exact heap_alloc_new w _
 ·rw [hc,List.take_of_length_le (by rw [flatten_len hl];exact Nat.le_refl _)]
end Go.SE
namespace Go.Proofs
attribute [local irreducible] Calls
def frow (f:Sp.Fact):List Value:=[.int .i64 f.kind,.int .i64 f.who,.int .u64 f.c,.string f.text]
theorem frow_sz (fs:List Sp.Fact):∀q∈fs.map frow,q.length=4:=by intro q hq;obtain ⟨t,_,rfl⟩:=List.mem_map.1 hq;rfl
theorem frow_one (fs:List Sp.Fact):∀q∈fs.map frow,q.all oneCell=true:=by intro q hq;obtain ⟨t,_,rfl⟩:=List.mem_map.1 hq;rfl
theorem slT_fact:SlType Tryz.prog 71 75 4 40:=by
 refine ⟨Tryz.underlying71,⟨Tryz.t75,_,by kernel_rfl,(by kernel_rfl:Tryz.t75.zero=some (.agg #[.int .i64 0,.int .i64 0,.int .u64 0,.string ⟨#[]⟩])),by kernel_rfl,by kernel_rfl,rfl⟩,by omega⟩
theorem c_ev_fact (l : Sp.Letter) (k who : Int) (p : Addr) (w0 : World) (hB : Box w0 p [.int .i64 l.kind, .int .i64 l.frm, .int .u64 l.c, .string l.text, .bool l.fake] 35) :
  Calls Tryz.prog 162 #[.int .i64 k,.int .i64 who,.pointer (some p)] w0 (fun e w'=>e=.returned (.agg #[.int .i64 k,.int .i64 who,.int .u64 l.c,.string l.text])∧Pure w0 w'):=by
 refine (w_X2 k who p w0 (fun a b c x w'=>a=k∧b=who∧c=l.c∧x=l.text∧Pure w0 w') ?_).mono ?_
 ·unfold m_X2
  intro H1 w1 hs1
  have b1:=hB.pure hs1.first
  exact ⟨_,b1.cell (i:=2) rfl,_,b1.cell (i:=3) rfl,fun w2 hs2=>⟨rfl,rfl,rfl,rfl,hs1.first.hst hs2⟩⟩
 ·rintro _ w' ⟨_,_,_,_,rfl,rfl,rfl,rfl,rfl,E⟩
  exact ⟨rfl,E⟩
theorem c_ev_facts (l : Sp.Letter) (w0 : World) :
  Calls Tryz.prog 94 #[.agg #[.int .i64 l.kind,.int .i64 l.frm,.int .u64 l.c,.string l.text,.bool l.fake]] w0 (fun e w'=>∃s:Sl,e=.returned s.v∧RetO w0 75 4 ((Sp.factsS l).map frow) s w'):=by
 suffices key:∀K:Sl→WP,(∀s w',RetO w0 75 4 ((Sp.factsS l).map frow) s w'→K s w')→m_Z1 l.kind l.frm l.c l.text l.fake w0 K from
  w_Z1 _ _ _ _ _ w0 _ (key _ (fun _ _ h=>h))
 intro K hK
 unfold m_Z1
 intro p w1 h1
 have E1:Pure w0 w1:=Ext.new h1
 have b1:=Box.of_new h1
 clear h1
 have hnil:∀w',Pure w0 w'→Sp.factsS l=[]→K Sl.nil w':=fun w' E h=>hK _ _ (by
  rw [h];exact ⟨Rws.nil _ _ _,fun b h=>(by obtain ⟨a,h,_⟩:=h;cases h),E⟩)
 have lit:∀{w2 w3:World} {p2:Addr} {cs:Array Value} (fs:List Sp.Fact) (n:Nat),Pure w0 w2→New w2 (.cells cs 75) p2 w3→cs.toList=(fs.map frow).flatten→fs.length=n→n≤3→Sp.factsS l=fs→K ⟨some p2,n,n⟩ w3:=by
  intro w2 w3 p2 cs fs n E hn hc hl hm he
  have R:=Rws.lit (sz:=4) hn hc (frow_sz fs) (by simp [maxLen];omega)
  rw [List.length_map,hl] at R
  refine hK _ _ ⟨by rw [he];exact R,fun b hb=>?_,E.trans (Ext.new hn)⟩
  obtain ⟨a,ha,rfl⟩:=hb
  cases ha
  exact New.own E hn
 have one : ∀ k who : Int, Sp.factsS l = [l.fact k who] → Calls Tryz.prog 162 #[.int .i64 k, .int .i64 who, .pointer (some p)] w1 (fun e w2 => ∃ rKind1 : Int, ∃ rWho1 : Int, ∃ rC1 : Int, ∃ rText1 : ByteArray, e = .returned (.agg #[.int .i64 rKind1, .int .i64 rWho1, .int .u64 rC1, .string rText1]) ∧
   ∀(p2:Addr) (w3:World),New w2 (.cells #[.int .i64 rKind1,.int .i64 rWho1,.int .u64 rC1,.string rText1] 75) p2 w3→K (Sl.mk (some p2) 1 1) w3):=by
  intro k who he
  refine (c_ev_fact l k who p w1 b1).mono ?_
  rintro _ w2 ⟨rfl,E2⟩
  exact ⟨_,_,_,_,rfl,fun p2 w3 h3=>lit [l.fact k who] 1 (E1.trans E2) h3 rfl rfl (by omega) he⟩
 refine ⟨_,b1.cell0,fun hk=>?_,fun hk=>⟨fun hk2=>?_,fun hk2=>⟨fun hk3=>?_,fun hk3=>⟨fun hk4=>?_,fun hk4=>⟨fun hk5=>?_,fun hk5=>⟨fun hk6=>?_,fun hk6=>?_⟩⟩⟩⟩⟩⟩
 ·have hk:l.kind=1:=by simpa using hk
  refine ⟨_,b1.cell (i:=4) rfl,fun hf=>hnil w1 E1 (by simp [Sp.factsS,hk,hf]),fun hf=>⟨_,b1.cell (i:=1) rfl,one 1 l.frm (by simp [Sp.factsS,hk,hf])⟩⟩
 ·have hk2:l.kind=2:=by simpa using hk2
  exact ⟨_,b1.cell (i:=1) rfl,one 2 l.frm (by simp [Sp.factsS,hk2])⟩
 ·have hk3:l.kind=3:=by simpa using hk3
  exact one 3 0 (by simp [Sp.factsS,hk3])
 ·have hk4:l.kind=4:=by simpa using hk4
  refine ⟨_,b1.cell (i:=1) rfl,(c_ev_fact l 4 l.frm p w1 b1).mono ?_⟩
  rintro _ w2 ⟨rfl,E2⟩
  refine ⟨_,_,_,_,rfl,fun p2 w3 h3=>?_⟩
  have E3:Pure w2 w3:=Ext.new h3
  have b3:=b1.pure (E2.trans E3)
  refine ⟨_,b3.cell (i:=4) rfl,fun hf=>?_,fun hf=>lit [l.fact 4 l.frm] 1 (E1.trans E2) h3 rfl rfl (by omega) (by simp at hf;simp [Sp.factsS,hk4,hf])⟩
  refine (c_ev_fact l 1 0 p w3 b3).mono ?_
  rintro _ w4 ⟨rfl,E4⟩
  refine ⟨_,_,_,_,rfl,(c_ev_fact l 1 1 p w4 (b3.pure E4)).mono ?_⟩
  rintro _ w5 ⟨rfl,E5⟩
  refine ⟨_,_,_,_,rfl,fun p6 w6 h6=>?_⟩
  have E6:Pure w5 w6:=Ext.new h6
  have R1:Rws w3 75 4 ⟨some p2,1,1⟩ [frow (l.fact 4 l.frm)]:=Rws.lit h3 rfl (frow_sz [l.fact 4 l.frm]) (by simp [maxLen])
  have R2:Rws w6 75 4 ⟨some p6,2,2⟩ [frow (l.fact 1 0),frow (l.fact 1 1)]:=Rws.lit h6 rfl (frow_sz [l.fact 1 0,l.fact 1 1]) (by simp [maxLen])
  obtain ⟨s,w7,hr,hR,hE,hb⟩:=(R1.pure ((E4.trans E5).trans E6)).appendL (P:=Tryz.prog) slT_fact (ty:=71) R2.lst (frow_sz [l.fact 1 0,l.fact 1 1]) (frow_one [l.fact 1 0,l.fact 1 1]) (by simp) (by simp [maxLen])
  have E06:Pure w0 w6:=((((E1.trans E2).trans E3).trans E4).trans E5).trans E6
  have hp2:w0.heap.size≤p2.block:=New.own (E1.trans E2) h3
  have hs1:∀b,(Sl.mk (some p2) 1 1).blk b→w0.heap.size≤b:=by
   rintro b ⟨a,ha,rfl⟩;cases ha;exact hp2
  refine ⟨s,w7,hr,hK _ _ ⟨?_,fun b h=>(hb b h).elim (hs1 b) (fun h=>by have:=E06.size;omega),E06.trans' hE (fun i hi h=>by have:=hs1 i h;omega)⟩⟩
  have hf:l.fake=false:=by simpa using hf
  have e:Sp.factsS l=[l.fact 4 l.frm]++[l.fact 1 0,l.fact 1 1]:=by simp [Sp.factsS,hk4,hf]
  rw [e];exact hR
 ·have hk5:l.kind=5:=by simpa using hk5
  exact one 5 2 (by simp [Sp.factsS,hk5])
 ·have hk6:l.kind=6:=by simpa using hk6
  refine (c_ev_fact l 6 2 p w1 b1).mono ?_
  rintro _ w2 ⟨rfl,E2⟩
  refine ⟨_,_,_,_,rfl,(c_ev_fact l 2 0 p w2 (b1.pure E2)).mono ?_⟩
  rintro _ w3 ⟨rfl,E3⟩
  refine ⟨_,_,_,_,rfl,(c_ev_fact l 2 1 p w3 (b1.pure (E2.trans E3))).mono ?_⟩
  rintro _ w4 ⟨rfl,E4⟩
  exact ⟨_,_,_,_,rfl,fun p5 w5 h5=>lit [l.fact 6 2,l.fact 2 0,l.fact 2 1] 3 (((E1.trans E2).trans E3).trans E4) h5 rfl rfl (by omega) (by simp [Sp.factsS,hk6])⟩
 ·refine hnil w1 E1 ?_
  simp at hk hk2 hk3 hk4 hk5 hk6
  simp [Sp.factsS,hk,hk2,hk3,hk4,hk5,hk6]
theorem c_ev_Of (p : Option Addr) (t : Int) (w0 : World) {L : Sp.Pool} {F : NP} (hP : PoolN w0 p L F) (hok : Sp.Ok L) :
  Calls Tryz.prog 34 #[.pointer p,.int .i64 t] w0 (fun e w'=>∃s:Sl,e=.returned s.v∧RetO w0 75 4 ((Sp.ofS L t).map frow) s w'):=by
 refine w_V2 _ _ w0 (fun s w'=>RetO w0 75 4 ((Sp.ofS L t).map frow) s w') ?_
 unfold m_V2
 refine (c_letter_ReadN p t w0 hP hok).mono ?_
 rintro _ w1 ⟨k,f,c,x,fk,ok,rfl,hrd,E1⟩
 have e:Sp.ofS L t=Sp.ofR (⟨k,f,c,x,fk⟩,ok):=by unfold Sp.ofS;rw [← hrd]
 refine ⟨k,f,c,x,fk,ok,rfl,E1.keptP,fun h H w3 hs=>?_,fun h H w3 hs=>?_⟩
 ·have h:ok=false:=by simpa using h
  rw [e,h]
  exact ⟨Rws.nil _ _ _,fun b h=>(by obtain ⟨a,h,_⟩:=h;cases h),E1.hst hs⟩
 ·have h:ok=true:=by simpa using h
  refine (c_ev_facts ⟨k,f,c,x,fk⟩ w3).mono ?_
  rintro _ w4 ⟨s,rfl,hr⟩
  refine ⟨s,rfl,hr.kept,?_⟩
  rw [e,h]
  exact ⟨hr.rows,fun b hb=>by have:=hr.own b hb;have:=(E1.hst hs).size;omega,(E1.hst hs).trans hr.pure⟩
theorem c_ev_Why (p : Option Addr) (t who c : Int) (x : ByteArray) (w0 : World) {L : Sp.Pool} {F : NP} (hP : PoolN w0 p L F) (hok : Sp.Ok L) :
  Calls Tryz.prog 35 #[.pointer p,.int .i64 t,.int .i64 who,.int .u64 c,.string x] w0 (fun e w'=>∃r:Int,e=.returned (.int .i64 r)∧(r=Sp.whyS L t who c x∧Pure w0 w')):=by
 suffices key:∀K:Int→WP,(∀w',Pure w0 w'→K (Sp.whyS L t who c x) w')→m_D1 p t who c x w0 K from
  w_D1 _ _ _ _ _ w0 _ (key _ (fun _ h=>⟨rfl,h⟩))
 intro K hK
 unfold m_D1
 refine (c_letter_ReadN p t w0 hP hok).mono ?_
 rintro _ w1 ⟨k,f,c1,x1,fk,ok,rfl,hrd,E1⟩
 have e:Sp.whyS L t who c x=if ok=true then Sp.whyF who c x 2 (Sp.factsS ⟨k,f,c1,x1,fk⟩) else 1:=by unfold Sp.whyS;rw [← hrd]
 rw [e] at hK
 refine ⟨k,f,c1,x1,fk,ok,rfl,E1.keptP,fun h H w3 hs=>?_,fun h H w3 hs=>?_⟩
 ·have h:ok=false:=by simpa using h
  rw [h] at hK
  exact hK w3 (E1.hst hs)
 have h:ok=true:=by simpa using h
 rw [h,if_pos rfl] at hK
 refine (c_ev_facts ⟨k,f,c1,x1,fk⟩ w3).mono ?_
 rintro _ w4 ⟨s,rfl,hr⟩
 have hfl:(Sp.factsS ⟨k,f,c1,x1,fk⟩).length≤3:=by
  unfold Sp.factsS;repeat' split
  all_goals simp
 generalize Sp.factsS ⟨k,f,c1,x1,fk⟩=fs at *
 have O4:Own H w4 75 4 s (fs.map frow):=⟨hr.rows,fun b hb hH=>by have:=hr.own b hb;have:=hs.lt b hH;omega⟩
 have E4:=(E1.hst hs).trans hr.pure
 have hl:s.len=fs.length:=by rw [O4.len];simp
 refine ⟨s,rfl,hr.kept,fun d i H' w'=>∃j:Nat,i=j∧j≤fs.length∧Pure w0 w'∧Own H' w' 75 4 s (fs.map frow)∧Sp.whyF who c x 2 fs=Sp.whyF who c x d (fs.drop j),fun _ i _=>((fs.length:Int) - i).toNat,⟨0,rfl,Nat.zero_le _,E4,O4,rfl⟩,?_⟩
 rintro d _ Hl wl hl' ⟨j,rfl,hj,El,Ol,hw⟩
 unfold m_D1_l1
 refine ⟨fun h=>?_,fun h=>?_⟩
 ·have hlt:=lt_of_dec hl h
  obtain ⟨a,hat,hrow⟩:=Ol.nth hlt
  rw [List.drop_eq_getElem_cons hlt,Sp.whyF] at hw
  generalize fs[j]=g at *
  refine ⟨a,hat,_,_,_,_,hrow,?_⟩
  have go:∀(d':Int) (H3:NP) (w8:World),Hst w0 Hl wl H3 w8→Sp.whyF who c x 2 fs=Sp.whyF who c x d' (fs.drop (j+1))→(∃j':Nat,IntKind.i64.wrap ((j:Int)+1)=j'∧j'≤fs.length∧Pure w0 w8∧Own H3 w8 75 4 s (fs.map frow)∧Sp.whyF who c x 2 fs=Sp.whyF who c x d' (fs.drop j'))∧((fs.length:Int) - IntKind.i64.wrap ((j:Int)+1)).toNat<((fs.length:Int) - (j:Int)).toNat:=by
   intro d' H3 w8 hs8 h'
   rw [wrap_succ hlt (by omega)]
   exact ⟨⟨j+1,rfl,hlt,El.hst hs8,Ol.hst hs8,h'⟩,lt_dec hlt⟩
  refine ⟨fun h2 H3 w8 hs8=>go d H3 w8 hs8 ?_,fun h2=>⟨fun h3 H3 w8 hs8=>?_,fun h3=>⟨fun h4 H3 w8 hs8=>⟨_,run_max_int2 _ _ _ _ _ _ _,go _ H3 w8 hs8 ?_⟩,fun h4=>⟨fun h5 H3 w8 hs8=>⟨_,run_max_int2 _ _ _ _ _ _ _,go _ H3 w8 hs8 ?_⟩,fun h5 H3 w8 hs8=>⟨_,run_max_int2 _ _ _ _ _ _ _,go _ H3 w8 hs8 ?_⟩⟩⟩⟩⟩
  ·rw [hw,if_pos (bne_iff_ne.1 h2)]
  ·have h2:g.kind=2:=by simpa using h2
   simp at h3
   rw [hw,if_neg (by simp [h2]),if_pos h3.2] at hK
   exact hK w8 (El.hst hs8)
  all_goals
   have h2:g.kind=2:=by simpa using h2
   have h3:¬ (g.who=who∧g.c=c∧g.text=x):=by simpa [h2] using h3
   rw [hw,if_neg (by simp [h2]),if_neg h3]
  ·rw [if_pos (bne_iff_ne.1 h4)]
  ·have h4:g.who=who:=by simpa using h4
   rw [if_neg (by simp [h4]),if_pos (bne_iff_ne.1 h5)]
  ·have h4:g.who=who:=by simpa using h4
   have h5:g.c=c:=by simpa using h5
   rw [if_neg (by simp [h4]),if_neg (by simp [h5])]
 ·have hge:=eq_of_dec hl hj h
  subst hge
  rw [List.drop_length,Sp.whyF] at hw
  rw [hw] at hK
  exact hK wl El
theorem c_ev_both (p : Addr) (a b : Int) (w0 : World) {L : Sp.Pool} {F : NP} (hP : PoolAt w0 p L F) (hok : Sp.Ok L) :
  Calls Tryz.prog 90 #[.pointer (some p),.int .i64 a,.int .i64 b] w0 (fun e w'=>∃k f c:Int,∃x:ByteArray,∃g r:Bool,∃r2:Int,e=.returned (.tuple #[.agg #[.int .i64 k,.int .i64 f,.int .u64 c,.string x,.bool g],.bool r,.int .i64 r2])∧(((⟨k,f,c,x,g⟩:Sp.Letter),r,r2)=Sp.bothS L a b∧Pure w0 w')):=by
 suffices key:∀K:Int→Int→Int→ByteArray→Bool→Bool→Int→WP,(∀k f c x g r r2 w',((⟨k,f,c,x,g⟩:Sp.Letter),r,r2)=Sp.bothS L a b→Pure w0 w'→K k f c x g r r2 w')→m_V (some p) a b w0 K from
  w_V _ _ _ w0 _ (key _ (fun _ _ _ _ _ _ _ _ h E=>⟨h,E⟩))
 intro K hK
 unfold m_V
 refine Br.f rfl ?_
 intro H1 w1 hs1
 have E1:Pure w0 w1:=hs1.first
 have J:∀z:Bool,(z=true↔Sp.sizeOf L a=0∨Sp.sizeOf L b=0)→m_V_j1 (some p) a b z w0 H1 w1 K:=by
  intro z hz
  unfold m_V_j1
  refine ⟨fun h w3 hs3=>hK _ _ _ _ _ _ _ _ ?_ (E1.hst hs3),fun h=>?_⟩
  ·unfold Sp.bothS;rw [if_pos (hz.1 h)];rfl
  have hn:¬ (Sp.sizeOf L a=0∨Sp.sizeOf L b=0):=fun h'=>by rw [hz.2 h'] at h;cases h
  refine (c_letter_Read p a w1 (hP.pure E1) hok).mono ?_
  rintro _ w4 ⟨k,f,c,x,g,ok,rfl,hrd,E4⟩
  refine ⟨k,f,c,x,g,ok,rfl,E4.keptP,fun H2 w6 hs6=>?_⟩
  have E6:=(E1.trans E4).hst hs6
  refine (c_letter_Read p b w6 (hP.pure E6) hok).mono ?_
  rintro _ w7 ⟨k2,f2,c2,x2,g2,ok2,rfl,hrd2,E7⟩
  have e1:(Sp.read L a).1=⟨k,f,c,x,g⟩:=(congrArg Prod.fst hrd).symm
  have e2:(Sp.read L b).1=⟨k2,f2,c2,x2,g2⟩:=(congrArg Prod.fst hrd2).symm
  have E67:=E6.trans E7
  refine ⟨k2,f2,c2,x2,g2,ok2,rfl,E7.keptP,fun h2 H4 w11 hs11=>hK _ _ _ _ _ _ _ _ ?_ (E67.hst hs11),fun h2 y hy=>?_⟩
  ·rw [Bool.or_eq_true] at h2
   unfold Sp.bothS;rw [if_neg hn,e1,e2,if_pos (h2.imp bne_iff_ne.1 bne_iff_ne.1)];rfl
  rw [Bool.or_eq_false_iff] at h2
  have hb:¬ (k≠1∨k2≠1):=by simpa using h2
  refine ⟨fun h3 H10 w20 hs20=>hK _ _ _ _ _ _ _ _ ?_ (E67.hst hs20),fun h3 H10 w21 hs21=>hK _ _ _ _ _ _ _ _ ?_ (E67.hst hs21)⟩
  all_goals
   unfold Sp.bothS
   rw [if_neg hn,e1,e2,if_neg hb]
  ·rw [if_pos]
   rw [h3] at hy
   simp at hy
   rcases hy with (((h | h) | h) | h)
   ·exact .inl h
   ·exact .inr (.inl h)
   ·exact .inr (.inr (.inl h))
   ·exact .inr (.inr (.inr h))
  ·rw [if_neg]
   rw [h3] at hy
   simp at hy
   rintro (h | h | h | h)
   ·exact h hy.1.1.1
   ·exact h hy.1.1.2
   ·exact h hy.1.2
   ·exact h hy.2
 refine (c_Size p a w1 (hP.pure E1) hok).mono ?_
 rintro _ w2 ⟨_,rfl,rfl,rfl⟩
 refine ⟨_,rfl,Kept.refl _,fun h=>?_,fun h=>?_⟩
 ·exact J true ⟨fun _=>.inl (by simpa using h),fun _=>rfl⟩
 refine (c_Size p b w1 (hP.pure E1) hok).mono ?_
 rintro _ w3 ⟨_,rfl,rfl,rfl⟩
 refine ⟨_,rfl,Kept.refl _,J _ ?_⟩
 have h:¬ Sp.sizeOf L a=0:=by simpa using h
 simp [h]
end Go.Proofs
end
section
open Go Go.SE
open Go.IntKind renaming i64 → q6
namespace Go.Proofs
set_option maxRecDepth 100000
set_option maxHeartbeats 4000000
attribute [local irreducible] wpL wpX opE wpE Calls
theorem eqt_slices_Compact_api_Fact_api_Fact_eql_75 (a0 a1 a2:Int) (a3:ByteArray) (b0 b1 b2:Int) (b3:ByteArray) (w:World):(Go.binOp .eql 75 (.agg #[(.int .i64 a0),(.int .i64 a1),(.int .u64 a2),(.string a3)]) (.agg #[(.int .i64 b0),(.int .i64 b1),(.int .u64 b2),(.string b3)])).run Tryz.prog w=.ok (.bool ((a0 == b0) && ((a1 == b1) && ((a2 == b2) && (decide (a3=b3)))))) w:=by
 simp [Go.binOp,Op.equal,Op.maxDepth,go_sem,streq,bne]
 repeat' split
 all_goals simp_all
theorem eqt_slices_Compact_api_Fact_api_Fact_neq_75 (a0 a1 a2:Int) (a3:ByteArray) (b0 b1 b2:Int) (b3:ByteArray) (w:World):(Go.binOp .neq 75 (.agg #[(.int .i64 a0),(.int .i64 a1),(.int .u64 a2),(.string a3)]) (.agg #[(.int .i64 b0),(.int .i64 b1),(.int .u64 b2),(.string b3)])).run Tryz.prog w=.ok (.bool (!((a0 == b0) && ((a1 == b1) && ((a2 == b2) && (decide (a3=b3))))))) w:=by
 simp [Go.binOp,Op.equal,Op.maxDepth,go_sem,streq,bne]
 repeat' split
 all_goals simp_all
def m_T_l2 (s1 s2:Sl) (k2 k21:Int) (w0:World) (Hl2:NP) (wl2:World) (Kc2:Int→Int→NP→WP) (K:Sl→WP):Prop :=
 Br (decide (k21<(s2.len:Int)))
  (∃a3:Addr,At s2 k21 4 a3 ∧
  ∀(w2:World),Hst w0 Hl2 wl2 Hl2 w2 →
  ∃aA aB aC:Int,∃aD:ByteArray,Row w2 a3 [(vi aA),(vi aB),(vu aC),(vs aD)] ∧
  ∃a4:Addr,At s2 (q6.wrap (k21 - 1)) 4 a4 ∧
  ∃aE aF aG:Int,∃aH:ByteArray,Row w2 a4 [(vi aE),(vi aF),(vu aG),(vs aH)] ∧
  Br (!((aA == aE) && ((aB == aF) && ((aC == aG) && (decide (aD=aH))))))
   (∃a5:Addr,At s2 k21 4 a5 ∧
   ∃aQ aR aS:Int,∃aT:ByteArray,Row w2 a5 [(vi aQ),(vi aR),(vu aS),(vs aT)] ∧
   ∃a6:Addr,At s1 k2 4 a6 ∧
   (∀j,j<4→CanW w2 (a6.add j))∧¬ Hl2 a6.block∧∀w3:World,w3=storeRow w2 a6 [(vi aQ),(vi aR),(vu aS),(vs aT)] →
   Kc2 (q6.wrap (k2+1)) (q6.wrap (k21+1)) Hl2 w3)
   (Kc2 k2 (q6.wrap (k21+1)) Hl2 w2))
  (∃s3:Sl,(Instr.sliceAt 71 s1.v (some (vi k2)) none none).run Tryz.prog wl2=.ok s3.v wl2 ∧
  ∃w4:World,(Builtin.clear_ #[71] 0 #[s3.v]).run Tryz.prog wl2=.ok (.tuple #[]) w4 ∧
  Kept Hl2 wl2 w4 ∧
  ∃s4:Sl,(Instr.sliceAt 71 s1.v none (some (vi k2)) none).run Tryz.prog w4=.ok s4.v w4 ∧
  K s4 w4)
def m_T_l1 (s1:Sl) (k1:Int) (w0:World) (Hl1:NP) (wl1:World) (Kc1:Int→NP→WP) (K:Sl→WP):Prop :=
 Br (decide (k1<(s1.len:Int)))
  (∃a1:Addr,At s1 k1 4 a1 ∧
  ∀(w1:World),Hst w0 Hl1 wl1 Hl1 w1 →
  ∃aI aJ aK:Int,∃aL:ByteArray,Row w1 a1 [(vi aI),(vi aJ),(vu aK),(vs aL)] ∧
  ∃a2:Addr,At s1 (q6.wrap (k1 - 1)) 4 a2 ∧
  ∃aM aN aO:Int,∃aP:ByteArray,Row w1 a2 [(vi aM),(vi aN),(vu aO),(vs aP)] ∧
  Br ((aI == aM) && ((aJ == aN) && ((aK == aO) && (decide (aL=aP)))))
   (∃s2:Sl,(Instr.sliceAt 71 s1.v (some (vi k1)) none none).run Tryz.prog w1=.ok s2.v w1 ∧
   ∃(I2:Int→Int→NP→WP) (mu2:Int→Int→World→Nat),I2 k1 1 Hl1 w1 ∧
    ∀(k2 k21:Int) (Hl2:NP) (wl2:World),Hst w0 Hl2 wl2 Hl2 wl2→I2 k2 k21 Hl2 wl2→m_T_l2 s1 s2 k2 k21 w0 Hl2 wl2 (fun y'0 y'1 H' w'=>I2 y'0 y'1 H' w'∧mu2 y'0 y'1 w'<mu2 k2 k21 wl2) K)
   (Kc1 (q6.wrap (k1+1)) Hl1 w1))
  (K s1 wl1)
def m_T (s1:Sl) (w0:World) (K:Sl→WP):Prop :=
 Br (decide ((s1.len:Int)<2))
  (K s1 w0)
  (∃(I1:Int→NP→WP) (mu1:Int→World→Nat),I1 1 None w0 ∧
   ∀(k1:Int) (Hl1:NP) (wl1:World),Hst w0 Hl1 wl1 Hl1 wl1→I1 k1 Hl1 wl1→m_T_l1 s1 k1 w0 Hl1 wl1 (fun y'0 H' w'=>I1 y'0 H' w'∧mu1 y'0 w'<mu1 k1 wl1) K)
theorem w_T (s1 : Sl) (w0 : World) (K : Sl → WP) (h : m_T s1 w0 K) :
  Calls Tryz.prog 82 #[s1.v] w0 (fun e w'=>∃r1:Sl,e=.returned r1.v∧K r1 w'):=by
 unfold m_T at h
 refine cw (args:=[s1.v]) Tryz.func82 Tryz.ntmps82 ?_
 have hs:=Hst.start w0
 have hb:=HB.nil None w0
 refine eg (q0 Sl.nil.v (ln (wpE_seq (eg (q0 s1.v (q0 (vi (s1.len:Int)) (q0 (vb (decide ((s1.len:Int)<2))) (wpL_nil ?_))))))))
 refine th_n ?_
 refine wpE_cond (t:=(decide ((s1.len:Int)<2))) (by kernel_rfl) (fun hc1=>?_) (fun hc1=>?_)
 have h:=h.1 hc1
 refine eg (q0 s1.v (q0 s1.v (ln (er (th_r (rs1 Tryz.results82 (v:=s1.v) ?_))))))
 exact ⟨s1,rfl,h⟩
 have h:=h.2 hc1
 refine wpE_skip (th_n (wpE_seq (eg (q0 (vi 1) (ln (wpE_block ?_))))))
 obtain ⟨I1,mu1,h0,hr⟩:=h
 refine wpE_loop (σ:=Int×NP×World) (fun s ρ w=>w=s.2.2∧Has ρ [(0,s1.v),(3,(vi s.1))]∧Hst w0 s.2.1 w s.2.1 w∧HB s.2.1 w []∧I1 s.1 s.2.1 s.2.2) (fun s=>mu1 s.1 s.2.2) (1,None,w0) ⟨rfl,hm,hs,hb,h0⟩ ?_
 rintro ⟨k1,Hl1,wl1⟩ ρ w ⟨hw,hH,hs,hb,hI⟩
 obtain rfl:wl1=w:=(show w=wl1 from hw).symm
 have hH:Has ρ [(0,s1.v),(3,(vi k1))]:=hH
 have hs:Hst w0 Hl1 wl1 Hl1 wl1:=hs
 have hb:HB Hl1 wl1 []:=hb
 have h:=hr k1 Hl1 wl1 hs hI
 unfold m_T_l1 at h
 refine wpE_has hH ?_
 refine wpE_seq (eg (q0 (vi k1) (q0 s1.v (q0 (vi (s1.len:Int)) (q0 (vb (decide (k1<(s1.len:Int)))) (ln ?_))))))
 refine wpE_cond (t:=(decide (k1<(s1.len:Int)))) (by kernel_rfl) (fun hc2=>?_) (fun hc2=>?_)
 have h:=h.1 hc2
 refine wpE_skip (th_n (wpE_seq (wpE_block (wpE_seq (wpE_drawnQ (by kernel_rfl) (by kernel_rfl) (by kernel_rfl) (by kernel_rfl) ?_)))))
 intro w1 hw1
 have hs:Hst w0 Hl1 wl1 Hl1 w1:=by rw [hw1];exact hs.drew
 have hb:HB Hl1 w1 []:=by rw [hw1];exact hb.drew
 refine qq 0 s1.v Kp0 (qq 1 (vi k1) Kp1 (qg 2 ?_))
 obtain ⟨a1,hv15,h⟩:=h
 refine sxQ (v:=(vp (some a1))) Kp2 (want0 rfl) rfl (xi (Tryz.runUnderlying71 _) (Tryz.sizeOf75 _) hv15) (qg 3 ?_)
 have h:=h w1 hs
 have hs:=hs.here
 obtain ⟨aI,aJ,aK,aL,hv14,h⟩:=h
 refine sxQ (v:=(.agg #[(vi aI),(vi aJ),(vu aK),(vs aL)])) Kp3 (want0 rfl) rfl (xa a1 [(vi aI),(vi aJ),(vu aK),(vs aL)] (Tryz.isAgg75 _) (Tryz.sizeOf75 _) hv14) (qq 4 s1.v Kp4 (qq 5 (vi k1) Kp5 (qq 6 (vi (q6.wrap (k1 - 1))) Kp6 (qg 7 ?_))))
 obtain ⟨a2,hv13,h⟩:=h
 refine sxQ (v:=(vp (some a2))) Kp7 (want0 rfl) rfl (xi (Tryz.runUnderlying71 _) (Tryz.sizeOf75 _) hv13) (qg 8 ?_)
 obtain ⟨aM,aN,aO,aP,hv12,h⟩:=h
 refine sxQ (v:=(.agg #[(vi aM),(vi aN),(vu aO),(vs aP)])) Kp8 (want0 rfl) rfl (xa a2 [(vi aM),(vi aN),(vu aO),(vs aP)] (Tryz.isAgg75 _) (Tryz.sizeOf75 _) hv12) (qr 9 (vb ((aI == aM) && ((aJ == aN) && ((aK == aO) && (decide (aL=aP)))))) Kp9 (x_aggeq (by kernel_rfl) (by kernel_rfl) (by kernel_rfl) (eqt_slices_Compact_api_Fact_api_Fact_eql_75 aI aJ aK aL aM aN aO aP _)) (wn (th_n ?_)))
 refine wpE_cond (t:=((aI == aM) && ((aJ == aN) && ((aK == aO) && (decide (aL=aP)))))) (by kernel_rfl) (fun hc3=>?_) (fun hc3=>?_)
 have h:=h.1 hc3
 refine eg (q0 s1.v (q0 (vi k1) ?_))
 obtain ⟨s2,hv11,h⟩:=h
 refine q2 s2.v (x_slice (by kernel_rfl) (by kernel_rfl) (by kernel_rfl) (by kernel_rfl) hv11) (q0 s2.v (ln (wpE_seq (eg (q0 (vi 1) (ln (wpE_block ?_)))))))
 obtain ⟨I2,mu2,h0,hr⟩:=h
 refine wpE_loop (σ:=Int×Int×NP×World) (fun s ρ w=>w=s.2.2.2∧Has ρ [(0,s1.v),(3,(vi s.1)),(4,s2.v),(5,(vi s.2.1))]∧Hst w0 s.2.2.1 w s.2.2.1 w∧HB s.2.2.1 w []∧I2 s.1 s.2.1 s.2.2.1 s.2.2.2) (fun s=>mu2 s.1 s.2.1 s.2.2.2) (k1,1,Hl1,w1) ⟨rfl,hm,hs,hb,h0⟩ ?_
 rintro ⟨k2,k21,Hl2,wl2⟩ ρ w ⟨hw,hH,hs,hb,hI⟩
 obtain rfl:wl2=w:=(show w=wl2 from hw).symm
 have hH:Has ρ [(0,s1.v),(3,(vi k2)),(4,s2.v),(5,(vi k21))]:=hH
 have hs:Hst w0 Hl2 wl2 Hl2 wl2:=hs
 have hb:HB Hl2 wl2 []:=hb
 have h:=hr k2 k21 Hl2 wl2 hs hI
 unfold m_T_l2 at h
 refine wpE_has hH ?_
 refine wpE_seq (eg (q0 (vi k21) (q0 s2.v (q0 (vi (s2.len:Int)) (q0 (vb (decide (k21<(s2.len:Int)))) (ln ?_))))))
 refine wpE_cond (t:=(decide (k21<(s2.len:Int)))) (by kernel_rfl) (fun hc4=>?_) (fun hc4=>?_)
 have h:=h.1 hc4
 refine wpE_skip (th_n (wpE_seq (wpE_block (wpE_seq (wpE_drawnQ (by kernel_rfl) (by kernel_rfl) (by kernel_rfl) (by kernel_rfl) ?_)))))
 intro w2 hw2
 have hs:Hst w0 Hl2 wl2 Hl2 w2:=by rw [hw2];exact hs.drew
 have hb:HB Hl2 w2 []:=by rw [hw2];exact hb.drew
 refine qq 0 s2.v Kp0 (qq 1 (vi k21) Kp1 (qg 2 ?_))
 obtain ⟨a3,hv7,h⟩:=h
 refine sxQ (v:=(vp (some a3))) Kp2 (want0 rfl) rfl (xi (Tryz.runUnderlying71 _) (Tryz.sizeOf75 _) hv7) (qg 3 ?_)
 have h:=h w2 hs
 have hs:=hs.here
 obtain ⟨aA,aB,aC,aD,hv6,h⟩:=h
 refine sxQ (v:=(.agg #[(vi aA),(vi aB),(vu aC),(vs aD)])) Kp3 (want0 rfl) rfl (xa a3 [(vi aA),(vi aB),(vu aC),(vs aD)] (Tryz.isAgg75 _) (Tryz.sizeOf75 _) hv6) (qq 4 s2.v Kp4 (qq 5 (vi k21) Kp5 (qq 6 (vi (q6.wrap (k21 - 1))) Kp6 (qg 7 ?_))))
 obtain ⟨a4,hv5,h⟩:=h
 refine sxQ (v:=(vp (some a4))) Kp7 (want0 rfl) rfl (xi (Tryz.runUnderlying71 _) (Tryz.sizeOf75 _) hv5) (qg 8 ?_)
 obtain ⟨aE,aF,aG,aH,hv4,h⟩:=h
 refine sxQ (v:=(.agg #[(vi aE),(vi aF),(vu aG),(vs aH)])) Kp8 (want0 rfl) rfl (xa a4 [(vi aE),(vi aF),(vu aG),(vs aH)] (Tryz.isAgg75 _) (Tryz.sizeOf75 _) hv4) (qr 9 (vb (!((aA == aE) && ((aB == aF) && ((aC == aG) && (decide (aD=aH))))))) Kp9 (x_aggeq (by kernel_rfl) (by kernel_rfl) (by kernel_rfl) (eqt_slices_Compact_api_Fact_api_Fact_neq_75 aA aB aC aD aE aF aG aH _)) (wn (th_n ?_)))
 refine wpE_cond (t:=(!((aA == aE) && ((aB == aF) && ((aC == aG) && (decide (aD=aH))))))) (by kernel_rfl) (fun hc5=>?_) (fun hc5=>?_)
 have h:=h.1 hc5
 refine eg (q0 s1.v (q0 (vi k2) (q0 s2.v (q0 (vi k21) ?_))))
 obtain ⟨a5,hv3,h⟩:=h
 refine q2 (vp (some a5)) (xi (Tryz.runUnderlying71 _) (Tryz.sizeOf75 _) hv3) ?_
 obtain ⟨aQ,aR,aS,aT,hv2,h⟩:=h
 refine q2 (.agg #[(vi aQ),(vi aR),(vu aS),(vs aT)]) (xa a5 [(vi aQ),(vi aR),(vu aS),(vs aT)] (Tryz.isAgg75 _) (Tryz.sizeOf75 _) hv2) ?_
 obtain ⟨a6,hv1,h⟩:=h
 refine q2 (vp (some a6)) (xi (Tryz.runUnderlying71 _) (Tryz.sizeOf75 _) hv1) ?_
 obtain ⟨hp1,hnh,h⟩:=h
 refine st_set (want0 rfl) (xo a6 [(vi aQ),(vi aR),(vu aS),(vs aT)] (Tryz.sizeOf75 _) hp1) ?_
 intro w3 hn1
 have h:=h w3 hn1
 have hk:Kept Hl2 w2 w3:=by rw [hn1];exact Kept.storeRow hnh
 obtain ⟨hs,hb⟩:=hk.hh hs hb
 refine ln (rg (q0 (vi k2) (q0 (vi (q6.wrap (k2+1))) (q0 (vi (q6.wrap (k2+1))) (wpL_nil (bl_n (th_n (rg (q0 (vi k21) (q0 (vi (q6.wrap (k21+1))) ?_))))))))))
 refine q0 (vi (q6.wrap (k21+1))) (ln ?_)
 exact ⟨((q6.wrap (k2+1)),(q6.wrap (k21+1)),Hl2,w3),⟨rfl,hm,hs,hb,h.1⟩,h.2⟩
 have h:=h.2 hc5
 refine wpE_skip (bl_n (th_n (rg (q0 (vi k21) (q0 (vi (q6.wrap (k21+1))) (q0 (vi (q6.wrap (k21+1))) (ln ?_)))))))
 exact ⟨(k2,(q6.wrap (k21+1)),Hl2,w2),⟨rfl,hm,hs,hb,h.1⟩,h.2⟩
 have h:=h.2 hc4
 refine wpE_exit (th_x (th_x (bl_eq (th_n (eg (q0 s1.v (q0 (vi k2) ?_)))))))
 obtain ⟨s3,hv10,h⟩:=h
 refine q2 s3.v (x_slice (by kernel_rfl) (by kernel_rfl) (by kernel_rfl) (by kernel_rfl) hv10) ?_
 obtain ⟨w4,hv9,hk,h⟩:=h
 refine st (v:=(.tuple #[])) (want0 rfl) (x_builtin (args:=#[s3.v]) (by kernel_rfl) (fun _=>rfl) hv9) ?_
 obtain ⟨hs,hb⟩:=hk.hh hs hb
 refine ln (eg (q0 s1.v (q0 (vi k2) ?_)))
 obtain ⟨s4,hv8,h⟩:=h
 refine q2 s4.v (x_slice (by kernel_rfl) (by kernel_rfl) (by kernel_rfl) (by kernel_rfl) hv8) (q0 s4.v (ln (er (bl_r (th_r (th_r (bl_r (th_r (rs1 Tryz.results82 (v:=s4.v) ?_)))))))))
 exact ⟨s4,rfl,h⟩
 have h:=h.2 hc3
 refine wpE_skip (bl_n (th_n (rg (q0 (vi k1) (q0 (vi (q6.wrap (k1+1))) (q0 (vi (q6.wrap (k1+1))) (ln ?_)))))))
 exact ⟨((q6.wrap (k1+1)),Hl1,w1),⟨rfl,hm,hs,hb,h.1⟩,h.2⟩
 have h:=h.2 hc2
 refine wpE_exit (th_x (th_x (bl_eq (th_n (eg (q0 s1.v (q0 s1.v (ln (er ?_)))))))))
 refine rs1 Tryz.results82 (v:=s1.v) ?_
 exact ⟨s1,rfl,h⟩
def m_H1_l1 (vals1:Sl) (x1:Int) (wl1:World) (Kc1:Int→WP) (K:Int→WP):Prop :=
 Br (decide (x1<(vals1.len:Int)))
  (∃a1:Addr,At vals1 x1 1 a1 ∧
  ∃v1:Int,wl1.cell? a1=some (vi v1) ∧
  Br (v1 != 0)
   (K v1 wl1)
   (Kc1 (q6.wrap (x1+1)) wl1))
  (K 0 wl1)
def m_H1 (vals1:Sl) (w0:World) (K:Int→WP):Prop :=
 ∃(I1:Int→WP) (mu1:Int→World→Nat),I1 0 w0 ∧
  ∀(x1:Int) (wl1:World),I1 x1 wl1→m_H1_l1 vals1 x1 wl1 (fun y'0 w'=>I1 y'0 w'∧mu1 y'0 w'<mu1 x1 wl1) K
theorem w_H1 (vals1 : Sl) (w0 : World) (K : Int → WP) (h : m_H1 vals1 w0 K) :
  Calls Tryz.prog 83 #[vals1.v] w0 (fun e w'=>∃r1:Int,e=.returned (vi r1)∧K r1 w'):=by
 unfold m_H1 at h
 refine cw (args:=[vals1.v]) Tryz.func83 Tryz.ntmps83 (eg (q0 (vi 0) (ln (eg (q0 (vi 0) (ln (wpE_seq ?_)))))))
 refine eg (q0 vals1.v (q0 (vi (vals1.len:Int)) (q0 (vi 0) (ln (wpE_block ?_)))))
 obtain ⟨I1,mu1,h0,hr⟩:=h
 refine wpE_loop (σ:=Int×World) (fun s ρ w=>w=s.2∧Has ρ [(3,(vi 0)),(6,vals1.v),(7,(vi (vals1.len:Int))),(8,(vi s.1))]∧I1 s.1 s.2) (fun s=>mu1 s.1 s.2) (0,w0) ⟨rfl,hm,h0⟩ ?_
 rintro ⟨x1,wl1⟩ ρ w ⟨hw,hH,hI⟩
 obtain rfl:wl1=w:=(show w=wl1 from hw).symm
 have hH:Has ρ [(3,(vi 0)),(6,vals1.v),(7,(vi (vals1.len:Int))),(8,(vi x1))]:=hH
 have h:=hr x1 wl1 hI
 unfold m_H1_l1 at h
 refine wpE_has hH ?_
 refine eg (q0 (vb (decide (x1<(vals1.len:Int)))) (ln (wpE_seq ?_)))
 refine wpE_cond (t:=(decide (x1<(vals1.len:Int)))) (by kernel_rfl) (fun hc1=>?_) (fun hc1=>?_)
 have h:=h.1 hc1
 refine wpE_skip (th_n (wpE_seq (wpE_block (eg ?_))))
 obtain ⟨a1,hv2,h⟩:=h
 refine q2 (vp (some a1)) (xi (Tryz.runUnderlying42 _) (Tryz.sizeOf3 _) hv2) ?_
 obtain ⟨v1,hv1,h⟩:=h
 refine q2 (vi v1) (xl (Tryz.isAgg3 _) hv1) (q0 (vi v1) (ln (eg (q0 (vi v1) (q0 (vi 0) (q0 (vb (v1 != 0)) (ln ?_)))))))
 refine wpE_cond (t:=(v1 != 0)) (by kernel_rfl) (fun hc2=>?_) (fun hc2=>?_)
 have h:=h.1 hc2
 refine eg (q0 (vi v1) (q0 (vi v1) (ln (er (bl_r (th_r (th_r (bl_r (th_r ?_)))))))))
 refine rs1 Tryz.results83 (v:=(vi v1)) ?_
 exact ⟨v1,rfl,h⟩
 have h:=h.2 hc2
 refine wpE_skip (bl_n (th_n (rg (q0 (vi (q6.wrap (x1+1))) (q0 (vi (q6.wrap (x1+1))) (ln ?_))))))
 exact ⟨((q6.wrap (x1+1)),wl1),⟨rfl,hm,h.1⟩,h.2⟩
 have h:=h.2 hc1
 refine wpE_exit (th_x (th_x (bl_eq (th_n (eg (q0 (vi 0) (q0 (vi 0) (ln (er ?_)))))))))
 refine rs1 Tryz.results83 (v:=(vi 0)) ?_
 exact ⟨0,rfl,h⟩
def s_A2 (x1:Int):Bool :=
 (x1 != x1)
theorem pw_A2 (x1 : Int) (w0 : World) :
  Calls Tryz.prog 156 #[(vu x1)] w0 (fun e w'=>(e=.returned (vb (x1 != x1)))∧Pure w0 w'):=by
 refine cw (args:=[(vu x1)]) Tryz.func156 Tryz.ntmps156 (eg (q0 (vb false) (ln (eg (q0 (vu x1) (q0 (vu x1) (q0 (vb (x1 != x1)) (q0 (vb (x1 != x1)) ?_))))))))
 refine ln (er (rs1 Tryz.results156 (v:=(vb (x1 != x1))) ?_))
 exact ⟨by kernel_rfl,Ext.refl _⟩
theorem p_A2 (x1:Int) (w0:World):Calls Tryz.prog 156 #[(.int .u64 x1)] w0 (fun e w'=>e=.returned (.bool (s_A2 x1))∧Pure w0 w'):=pw_A2 x1 w0
def s_S1 (x1 y1:Int):Int :=
 (cond (x1 != x1) (cond (y1 != y1) 0 (-1)) (cond (y1 != y1) 1 (cond (decide (x1<y1)) (-1) (cond (decide (x1>y1)) 1 0))))
theorem pw_S1 (x1 y1 : Int) (w0 : World) :
  Calls Tryz.prog 84 #[(vu x1),(vu y1)] w0 (fun e w'=>∃b'0 b'1 b'2 b'3:Bool,((x1 != x1)=b'0∧(y1 != y1)=b'1∧(decide (x1<y1))=b'2∧(decide (x1>y1))=b'3)∧(e=.returned (vi (cond b'0 (cond b'1 0 (-1)) (cond b'1 1 (cond b'2 (-1) (cond b'3 1 0))))))∧Pure w0 w'):=by
 refine cw (args:=[(vu x1),(vu y1)]) Tryz.func84 Tryz.ntmps84 ?_
 have hs:=Hst.start w0
 have hb:=HB.nil None w0
 refine eg (q0 (vi 0) (ln (eg (q0 (vu x1) ?_))))
 refine sc Tryz.call156 ((p_A2 x1 w0).mono ?_)
 rintro e w1 ⟨he,hE⟩
 refine ⟨(vb (x1 != x1)),he.trans (by kernel_rfl),?_⟩
 have hs:=hs.pure hE
 have hb:=hb.pure hE
 refine q0 (vb (x1 != x1)) (ln (eg (q0 (vu y1) ?_)))
 refine sc Tryz.call156 ((p_A2 y1 w1).mono ?_)
 rintro e w2 ⟨he,hE⟩
 refine ⟨(vb (y1 != y1)),he.trans (by kernel_rfl),?_⟩
 have hs:=hs.pure hE
 have hb:=hb.pure hE
 refine q0 (vb (y1 != y1)) (ln (wpE_seq (eg (q0 (vb (x1 != x1)) (ln ?_)))))
 refine wpE_cond (t:=(x1 != x1)) (by kernel_rfl) (fun hc1=>?_) (fun hc1=>?_)
 refine wpE_seq (eg (q0 (vb (y1 != y1)) (ln ?_)))
 refine wpE_cond (t:=(y1 != y1)) (by kernel_rfl) (fun hc2=>?_) (fun hc2=>?_)
 refine eg (q0 (vi 0) (ln (er (th_r (th_r (rs1 Tryz.results84 (v:=(vi 0)) ?_))))))
 exact ⟨true,true,_,_,⟨hc1,hc2,rfl,rfl⟩,by kernel_rfl,(Ext.refl (F:=None) _).hst hs⟩
 refine wpE_skip (th_n (eg (q0 (vi (-1)) (ln (er (th_r (rs1 Tryz.results84 (v:=(vi (-1))) ?_)))))))
 exact ⟨true,false,_,_,⟨hc1,hc2,rfl,rfl⟩,by kernel_rfl,(Ext.refl (F:=None) _).hst hs⟩
 refine wpE_skip (th_n (wpE_seq (eg (q0 (vb (y1 != y1)) (ln ?_)))))
 refine wpE_cond (t:=(y1 != y1)) (by kernel_rfl) (fun hc3=>?_) (fun hc3=>?_)
 refine eg (q0 (vi 1) (ln (er (th_r (rs1 Tryz.results84 (v:=(vi 1)) ?_)))))
 exact ⟨false,true,_,_,⟨hc1,hc3,rfl,rfl⟩,by kernel_rfl,(Ext.refl (F:=None) _).hst hs⟩
 refine wpE_skip (th_n (wpE_seq (eg (q0 (vu x1) (q0 (vu y1) (q0 (vb (decide (x1<y1))) (ln ?_)))))))
 refine wpE_cond (t:=(decide (x1<y1))) (by kernel_rfl) (fun hc4=>?_) (fun hc4=>?_)
 refine eg (q0 (vi (-1)) (ln (er (th_r (rs1 Tryz.results84 (v:=(vi (-1))) ?_)))))
 exact ⟨false,false,true,_,⟨hc1,hc3,hc4,rfl⟩,by kernel_rfl,(Ext.refl (F:=None) _).hst hs⟩
 refine wpE_skip (th_n (wpE_seq (eg (q0 (vu x1) (q0 (vu y1) (q0 (vb (decide (x1>y1))) (ln ?_)))))))
 refine wpE_cond (t:=(decide (x1>y1))) (by kernel_rfl) (fun hc5=>?_) (fun hc5=>?_)
 refine eg (q0 (vi 1) (ln (er (th_r (rs1 Tryz.results84 (v:=(vi 1)) ?_)))))
 exact ⟨false,false,false,true,⟨hc1,hc3,hc4,hc5⟩,by kernel_rfl,(Ext.refl (F:=None) _).hst hs⟩
 refine wpE_skip (th_n (eg (q0 (vi 0) (ln (er (rs1 Tryz.results84 (v:=(vi 0)) ?_))))))
 exact ⟨false,false,false,false,⟨hc1,hc3,hc4,hc5⟩,by kernel_rfl,(Ext.refl (F:=None) _).hst hs⟩
theorem p_S1 (x1 y1:Int) (w0:World):Calls Tryz.prog 84 #[(.int .u64 x1),(.int .u64 y1)] w0 (fun e w'=>e=.returned (.int .i64 (s_S1 x1 y1))∧Pure w0 w'):=by
 refine (pw_S1 x1 y1 w0).mono ?_
 rintro e w' ⟨b'0,b'1,b'2,b'3,⟨e0,e1,e2,e3⟩,h,E⟩
 subst e0
 subst e1
 subst e2
 subst e3
 exact ⟨h,E⟩
def s_B2 (x1:Int):Bool :=
 (x1 != x1)
theorem pw_B2 (x1 : Int) (w0 : World) :
  Calls Tryz.prog 157 #[(vi x1)] w0 (fun e w'=>(e=.returned (vb (x1 != x1)))∧Pure w0 w'):=by
 refine cw (args:=[(vi x1)]) Tryz.func157 Tryz.ntmps157 (eg (q0 (vb false) (ln (eg (q0 (vi x1) (q0 (vi x1) (q0 (vb (x1 != x1)) (q0 (vb (x1 != x1)) ?_))))))))
 refine ln (er (rs1 Tryz.results157 (v:=(vb (x1 != x1))) ?_))
 exact ⟨by kernel_rfl,Ext.refl _⟩
theorem p_B2 (x1:Int) (w0:World):Calls Tryz.prog 157 #[(.int .i64 x1)] w0 (fun e w'=>e=.returned (.bool (s_B2 x1))∧Pure w0 w'):=pw_B2 x1 w0
def s_T1 (x1 y1:Int):Int :=
 (cond (x1 != x1) (cond (y1 != y1) 0 (-1)) (cond (y1 != y1) 1 (cond (decide (x1<y1)) (-1) (cond (decide (x1>y1)) 1 0))))
theorem pw_T1 (x1 y1 : Int) (w0 : World) :
  Calls Tryz.prog 85 #[(vi x1),(vi y1)] w0 (fun e w'=>∃b'0 b'1 b'2 b'3:Bool,((x1 != x1)=b'0∧(y1 != y1)=b'1∧(decide (x1<y1))=b'2∧(decide (x1>y1))=b'3)∧(e=.returned (vi (cond b'0 (cond b'1 0 (-1)) (cond b'1 1 (cond b'2 (-1) (cond b'3 1 0))))))∧Pure w0 w'):=by
 refine cw (args:=[(vi x1),(vi y1)]) Tryz.func85 Tryz.ntmps85 ?_
 have hs:=Hst.start w0
 have hb:=HB.nil None w0
 refine eg (q0 (vi 0) (ln (eg (q0 (vi x1) ?_))))
 refine sc Tryz.call157 ((p_B2 x1 w0).mono ?_)
 rintro e w1 ⟨he,hE⟩
 refine ⟨(vb (x1 != x1)),he.trans (by kernel_rfl),?_⟩
 have hs:=hs.pure hE
 have hb:=hb.pure hE
 refine q0 (vb (x1 != x1)) (ln (eg (q0 (vi y1) ?_)))
 refine sc Tryz.call157 ((p_B2 y1 w1).mono ?_)
 rintro e w2 ⟨he,hE⟩
 refine ⟨(vb (y1 != y1)),he.trans (by kernel_rfl),?_⟩
 have hs:=hs.pure hE
 have hb:=hb.pure hE
 refine q0 (vb (y1 != y1)) (ln (wpE_seq (eg (q0 (vb (x1 != x1)) (ln ?_)))))
 refine wpE_cond (t:=(x1 != x1)) (by kernel_rfl) (fun hc1=>?_) (fun hc1=>?_)
 refine wpE_seq (eg (q0 (vb (y1 != y1)) (ln ?_)))
 refine wpE_cond (t:=(y1 != y1)) (by kernel_rfl) (fun hc2=>?_) (fun hc2=>?_)
 refine eg (q0 (vi 0) (ln (er (th_r (th_r (rs1 Tryz.results85 (v:=(vi 0)) ?_))))))
 exact ⟨true,true,_,_,⟨hc1,hc2,rfl,rfl⟩,by kernel_rfl,(Ext.refl (F:=None) _).hst hs⟩
 refine wpE_skip (th_n (eg (q0 (vi (-1)) (ln (er (th_r (rs1 Tryz.results85 (v:=(vi (-1))) ?_)))))))
 exact ⟨true,false,_,_,⟨hc1,hc2,rfl,rfl⟩,by kernel_rfl,(Ext.refl (F:=None) _).hst hs⟩
 refine wpE_skip (th_n (wpE_seq (eg (q0 (vb (y1 != y1)) (ln ?_)))))
 refine wpE_cond (t:=(y1 != y1)) (by kernel_rfl) (fun hc3=>?_) (fun hc3=>?_)
 refine eg (q0 (vi 1) (ln (er (th_r (rs1 Tryz.results85 (v:=(vi 1)) ?_)))))
 exact ⟨false,true,_,_,⟨hc1,hc3,rfl,rfl⟩,by kernel_rfl,(Ext.refl (F:=None) _).hst hs⟩
 refine wpE_skip (th_n (wpE_seq (eg (q0 (vi x1) (q0 (vi y1) (q0 (vb (decide (x1<y1))) (ln ?_)))))))
 refine wpE_cond (t:=(decide (x1<y1))) (by kernel_rfl) (fun hc4=>?_) (fun hc4=>?_)
 refine eg (q0 (vi (-1)) (ln (er (th_r (rs1 Tryz.results85 (v:=(vi (-1))) ?_)))))
 exact ⟨false,false,true,_,⟨hc1,hc3,hc4,rfl⟩,by kernel_rfl,(Ext.refl (F:=None) _).hst hs⟩
 refine wpE_skip (th_n (wpE_seq (eg (q0 (vi x1) (q0 (vi y1) (q0 (vb (decide (x1>y1))) (ln ?_)))))))
 refine wpE_cond (t:=(decide (x1>y1))) (by kernel_rfl) (fun hc5=>?_) (fun hc5=>?_)
 refine eg (q0 (vi 1) (ln (er (th_r (rs1 Tryz.results85 (v:=(vi 1)) ?_)))))
 exact ⟨false,false,false,true,⟨hc1,hc3,hc4,hc5⟩,by kernel_rfl,(Ext.refl (F:=None) _).hst hs⟩
 refine wpE_skip (th_n (eg (q0 (vi 0) (ln (er (rs1 Tryz.results85 (v:=(vi 0)) ?_))))))
 exact ⟨false,false,false,false,⟨hc1,hc3,hc4,hc5⟩,by kernel_rfl,(Ext.refl (F:=None) _).hst hs⟩
theorem p_T1 (x1 y1:Int) (w0:World):Calls Tryz.prog 85 #[(.int .i64 x1),(.int .i64 y1)] w0 (fun e w'=>e=.returned (.int .i64 (s_T1 x1 y1))∧Pure w0 w'):=by
 refine (pw_T1 x1 y1 w0).mono ?_
 rintro e w' ⟨b'0,b'1,b'2,b'3,⟨e0,e1,e2,e3⟩,h,E⟩
 subst e0
 subst e1
 subst e2
 subst e3
 exact ⟨h,E⟩
def s_C2 (x1:ByteArray):Bool :=
 (!(decide (x1=x1)))
theorem pw_C2 (x1 : ByteArray) (w0 : World) :
  Calls Tryz.prog 158 #[(vs x1)] w0 (fun e w'=>(e=.returned (vb (!(decide (x1=x1)))))∧Pure w0 w'):=by
 refine cw (args:=[(vs x1)]) Tryz.func158 Tryz.ntmps158 (eg (q0 (vb false) (ln (eg (q0 (vs x1) (q0 (vs x1) (q2 (vb (!(decide (x1=x1)))) (x_strneq (by kernel_rfl) (by kernel_rfl)) (q0 (vb (!(decide (x1=x1)))) ?_))))))))
 refine ln (er (rs1 Tryz.results158 (v:=(vb (!(decide (x1=x1))))) ?_))
 exact ⟨by kernel_rfl,Ext.refl _⟩
theorem p_C2 (x1:ByteArray) (w0:World):Calls Tryz.prog 158 #[(.string x1)] w0 (fun e w'=>e=.returned (.bool (s_C2 x1))∧Pure w0 w'):=pw_C2 x1 w0
def m_Y2 (x1 y1:ByteArray) (w0:World) (K:Int→WP):Prop :=
 Br (!(decide (x1=x1)))
  (Br (!(decide (y1=y1)))
   (∀(w2:World),Hst w0 None w0 None w2 →
   K 0 w2)
   (∀(w2:World),Hst w0 None w0 None w2 →
   K (-1) w2))
  (Br (!(decide (y1=y1)))
   (∀(w2:World),Hst w0 None w0 None w2 →
   K 1 w2)
   (∀(w2:World),Hst w0 None w0 None w2 →
   ∃b1:Bool,(Go.binOp .lss 9 (vs x1) (vs y1)).run Tryz.prog w2=.ok (vb b1) w2 ∧
   Br b1
    (K (-1) w2)
    (∃b2:Bool,(Go.binOp .gtr 9 (vs x1) (vs y1)).run Tryz.prog w2=.ok (vb b2) w2 ∧
    Br b2
     (K 1 w2)
     (K 0 w2))))
theorem w_Y2 (x1 y1 : ByteArray) (w0 : World) (K : Int → WP) (h : m_Y2 x1 y1 w0 K) :
  Calls Tryz.prog 86 #[(vs x1),(vs y1)] w0 (fun e w'=>∃r1:Int,e=.returned (vi r1)∧K r1 w'):=by
 unfold m_Y2 at h
 refine cw (args:=[(vs x1),(vs y1)]) Tryz.func86 Tryz.ntmps86 ?_
 have hs:=Hst.start w0
 have hb:=HB.nil None w0
 refine eg (q0 (vi 0) (ln (eg (q0 (vs x1) ?_))))
 refine sc Tryz.call158 ((p_C2 x1 w0).mono ?_)
 rintro e w1 ⟨he,hE⟩
 refine ⟨(vb (!(decide (x1=x1)))),he.trans (by kernel_rfl),?_⟩
 have hs:=hs.pure hE
 have hb:=hb.pure hE
 refine q0 (vb (!(decide (x1=x1)))) (ln (eg (q0 (vs y1) ?_)))
 refine sc Tryz.call158 ((p_C2 y1 w1).mono ?_)
 rintro e w2 ⟨he,hE⟩
 refine ⟨(vb (!(decide (y1=y1)))),he.trans (by kernel_rfl),?_⟩
 have hs:=hs.pure hE
 have hb:=hb.pure hE
 refine q0 (vb (!(decide (y1=y1)))) (ln (wpE_seq (eg (q0 (vb (!(decide (x1=x1)))) (ln ?_)))))
 refine wpE_cond (t:=(!(decide (x1=x1)))) (by kernel_rfl) (fun hc1=>?_) (fun hc1=>?_)
 have h:=h.1 hc1
 refine wpE_seq (eg (q0 (vb (!(decide (y1=y1)))) (ln ?_)))
 refine wpE_cond (t:=(!(decide (y1=y1)))) (by kernel_rfl) (fun hc2=>?_) (fun hc2=>?_)
 have h:=h.1 hc2
 refine eg (q0 (vi 0) (ln (er (th_r (th_r ?_)))))
 have h:=h w2 hs
 have hs:=hs.here
 refine rs1 Tryz.results86 (v:=(vi 0)) ?_
 exact ⟨0,rfl,h⟩
 have h:=h.2 hc2
 refine wpE_skip (th_n (eg (q0 (vi (-1)) (ln (er (th_r ?_))))))
 have h:=h w2 hs
 have hs:=hs.here
 refine rs1 Tryz.results86 (v:=(vi (-1))) ?_
 exact ⟨(-1),rfl,h⟩
 have h:=h.2 hc1
 refine wpE_skip (th_n (wpE_seq (eg (q0 (vb (!(decide (y1=y1)))) (ln ?_)))))
 refine wpE_cond (t:=(!(decide (y1=y1)))) (by kernel_rfl) (fun hc3=>?_) (fun hc3=>?_)
 have h:=h.1 hc3
 refine eg (q0 (vi 1) (ln (er (th_r ?_))))
 have h:=h w2 hs
 have hs:=hs.here
 refine rs1 Tryz.results86 (v:=(vi 1)) ?_
 exact ⟨1,rfl,h⟩
 have h:=h.2 hc3
 refine wpE_skip (th_n (wpE_seq (eg (q0 (vs x1) (q0 (vs y1) ?_)))))
 have h:=h w2 hs
 have hs:=hs.here
 obtain ⟨b1,hv2,h⟩:=h
 refine q2 (vb b1) (x_bin (by kernel_rfl) (by kernel_rfl) (by kernel_rfl) hv2) (ln ?_)
 refine wpE_cond (t:=b1) (by kernel_rfl) (fun hc4=>?_) (fun hc4=>?_)
 have h:=h.1 hc4
 refine eg (q0 (vi (-1)) (ln (er (th_r (rs1 Tryz.results86 (v:=(vi (-1))) ?_)))))
 exact ⟨(-1),rfl,h⟩
 have h:=h.2 hc4
 refine wpE_skip (th_n (wpE_seq (eg (q0 (vs x1) (q0 (vs y1) ?_)))))
 obtain ⟨b2,hv1,h⟩:=h
 refine q2 (vb b2) (x_bin (by kernel_rfl) (by kernel_rfl) (by kernel_rfl) hv1) (ln ?_)
 refine wpE_cond (t:=b2) (by kernel_rfl) (fun hc5=>?_) (fun hc5=>?_)
 have h:=h.1 hc5
 refine eg (q0 (vi 1) (ln (er (th_r (rs1 Tryz.results86 (v:=(vi 1)) ?_)))))
 exact ⟨1,rfl,h⟩
 have h:=h.2 hc5
 refine wpE_skip (th_n (eg (q0 (vi 0) (ln (er (rs1 Tryz.results86 (v:=(vi 0)) ?_))))))
 exact ⟨0,rfl,h⟩
def m_Z2 (seq1:Value) (w0:World) (K:Sl→WP):Prop :=
 Calls Tryz.prog 283 #[Sl.nil.v,seq1] w0 (fun e w1=>∃r1:Sl,e=.returned r1.v∧
  K r1 w1)
theorem w_Z2 (seq1 : Value) (w0 : World) (K : Sl → WP) (h : m_Z2 seq1 w0 K) :
  Calls Tryz.prog 206 #[seq1] w0 (fun e w'=>∃r2:Sl,e=.returned r2.v∧K r2 w'):=by
 unfold m_Z2 at h
 refine cw (args:=[seq1]) Tryz.func206 Tryz.ntmps206 (eg (q0 Sl.nil.v (ln (eg (q0 seq1 ?_)))))
 refine sc Tryz.call283 (h.mono ?_)
 rintro e w1 ⟨r1,rfl,h⟩
 refine ⟨_,rfl,?_⟩
 refine q0 r1.v (ln (er (rs1 Tryz.results206 (v:=r1.v) ?_)))
 exact ⟨r1,rfl,h⟩
def m_A3 (seq1:Value) (w0:World) (K:Sl→WP):Prop :=
 Calls Tryz.prog 206 #[seq1] w0 (fun e w1=>∃r1:Sl,e=.returned r1.v∧
  Calls Tryz.prog 207 #[r1.v] w1 (fun e w2=>e=.returned (.tuple #[])∧
   K r1 w2))
theorem w_A3 (seq1 : Value) (w0 : World) (K : Sl → WP) (h : m_A3 seq1 w0 K) :
  Calls Tryz.prog 152 #[seq1] w0 (fun e w'=>∃r2:Sl,e=.returned r2.v∧K r2 w'):=by
 unfold m_A3 at h
 refine cw (args:=[seq1]) Tryz.func152 Tryz.ntmps152 (eg (q0 Sl.nil.v (ln (eg (q0 seq1 ?_)))))
 refine sc Tryz.call206 (h.mono ?_)
 rintro e w1 ⟨r1,rfl,h⟩
 refine ⟨_,rfl,?_⟩
 refine q0 r1.v (ln (eg (q0 r1.v ?_)))
 refine sc Tryz.call207 (h.mono ?_)
 rintro e w2 ⟨rfl,h⟩
 refine ⟨_,rfl,?_⟩
 refine ln (eg (q0 r1.v (q0 r1.v (ln (er (rs1 Tryz.results152 (v:=r1.v) ?_))))))
 exact ⟨r1,rfl,h⟩
def m_B3 (s1:Sl) (w0:World) (K:Value→WP):Prop :=
 ∀(p1:Addr) (w1:World),New w0 (.cells #[s1.v] 46) p1 w1 →
 K (.func (.func 208) #[] #[(vp (some p1))]) w1
theorem w_B3 (s1 : Sl) (w0 : World) (K : Value → WP) (h : m_B3 s1 w0 K) :
  Calls Tryz.prog 153 #[s1.v] w0 (fun e w'=>∃r1:Value,e=.returned r1∧K r1 w'):=by
 unfold m_B3 at h
 refine cw (args:=[s1.v]) Tryz.func153 Tryz.ntmps153 (eg (sn (O:=(.cells #[s1.v] 46)) xb ?_))
 intro p1 w1 hn1
 have h:=h p1 w1 hn1
 refine q0 (.nilFunc:Value) (ln (eg (q0 (.func (.func 208) #[] #[(vp (some p1))]) (q0 (.func (.func 208) #[] #[(vp (some p1))]) (ln (er (rs1 Tryz.results153 (v:=(.func (.func 208) #[] #[(vp (some p1))])) ?_)))))))
 exact ⟨(.func (.func 208) #[] #[(vp (some p1))]),rfl,h⟩
end Go.Proofs
end
section
namespace Go.SE
open Go.Sort Go.Shelf Go.Proofs
theorem drewN_eq (w:World) (q:Nat):w.drewN q={ w with drawn:=w.drawn+q }:=rfl
theorem grow_of_pure {w w':World} (h:Pure w w'):∃q os,w'=grow (w.drewN q) os:=by
 refine ⟨w'.drawn - w.drawn,w'.heap.extract w.heap.size w'.heap.size,?_⟩
 have hh:w'.heap=w.heap++w'.heap.extract w.heap.size w'.heap.size:=by
  apply Array.ext_getElem?
  intro i
  by_cases hi:i<w.heap.size
  ·rw [h.keep i hi id,Array.getElem?_append_left hi]
  ·rw [Array.getElem?_append_right (by omega),Array.getElem?_extract]
   by_cases h2:i<w'.heap.size
   ·rw [if_pos (by omega)];congr 1;omega
   ·rw [if_neg (by omega),Array.getElem?_eq_none (by omega)]
 have h1:=h.os
 have h2:=h.tape
 have h3:=h.output
 have h4:=h.drawn
 clear h
 obtain ⟨a,b,c,d,e⟩:=w
 obtain ⟨a',b',c',d',e'⟩:=w'
 simp only at h1 h2 h3 h4 hh
 subst h1;subst h2;subst h3
 rw [drewN_eq]
 unfold grow
 simp only [World.mk.injEq,and_true,true_and]
 exact ⟨hh,by omega⟩
theorem flatK_list {α:Type} [Inhabited α] (enc:α→List Value) (k:Nat) (hk:∀x,(enc x).length=k) (d:Array α):(flatK enc k d).toList=(d.toList.map enc).flatten:=by
 have hl:∀q∈d.toList.map enc,q.length=k:=by
  intro q hq;obtain ⟨x,_,rfl⟩:=List.mem_map.1 hq;exact hk x
 have hlen:(d.toList.map enc).flatten.length=d.size*k:=by rw [flatten_len hl];simp
 apply List.ext_getElem?
 intro t
 by_cases ht:t<d.size*k
 ·have k0:0<k:=by rcases Nat.eq_zero_or_pos k with h | h;subst h;simp at ht;exact h
  have hd:t / k<d.size:=by rw [Nat.div_lt_iff_lt_mul k0];exact ht
  have hm:t % k<k:=Nat.mod_lt _ k0
  have e:t=(t / k)*k+t % k:=(Nat.div_add_mod' t k).symm
  have h1:=get_flatK enc k d t ht
  rw [Array.getElem?_toList,Array.getElem?_eq_getElem (by simpa using ht)]
  rw [getElem!_pos _ t (by simpa using ht),getElem!_pos d _ hd,getElem!_pos _ (t % k) (by rw [hk];exact hm)] at h1
  rw [h1]
  have h2:=flatten_get hl (i:=t / k) (by simpa using hd) hm
  rw [← e] at h2
  rw [h2,List.getElem_map,List.getElem?_eq_getElem (by rw [hk];exact hm)]
  simp
 ·rw [List.getElem?_eq_none (by simp;omega),List.getElem?_eq_none (by omega)]
variable {α:Type} [Inhabited α] {P:Program} {ρ:Ren} {k:Nat} {enc:α→List Value} {e:TypeId}
theorem Rws.holdsK {w:World} {s:Sl} {g:Nat} {cur:Array Value} {ds:List α} (hk:∀x,(enc x).length=k) (hg:w.heap[g]?=some (.cells cur e (0,0))) (ht:cur.toList.take (ds.length*k)=(ds.map enc).flatten):HoldsK enc k w g 0 ds.toArray:=by
 intro j hj
 rw [size_flatK] at hj
 have hf:=flatK_list enc k hk ds.toArray
 simp only at hf
 have hj':j<ds.length*k:=by simpa using hj
 have hsz:(flatK enc k ds.toArray).size=ds.length*k:=by simp
 have h1:cur.toList[j]?=(flatK enc k ds.toArray).toList[j]?:=by
  rw [hf,← ht,List.getElem?_take_of_lt hj']
 rw [Array.getElem?_toList,Array.getElem?_toList,Array.getElem?_eq_getElem (show j<(flatK enc k ds.toArray).size by omega)] at h1
 refine ⟨?_,?_⟩
 ·unfold World.cell?
  rw [hg]
  simp only [Option.isSome_none,Bool.false_eq_true,if_false,Nat.zero_add,id]
  rw [h1,getElem!_pos _ j (by omega)]
 ·unfold World.frozen?
  rw [hg];simp
theorem sortFunc_rws (L : SlLaysF0.n6 P ρ) (aE : ∀ w, (isAgg (ρ.t 24)).run P w = .ok true w) (zE : ∀ w, (Go.sizeOf (ρ.t 24)).run P w = .ok k w) (hk : ∀ x, (enc x).length = k) (h1 : ∀ x, ∀ v ∈ enc x, v.oneCell' = true)
  (cf:α→α→Int) (hO:SWO (ltOf cf)) (g:Nat) (eg:∀args w,(callFunc g args).run P w=.ok (.enter g args) w)
  (hc:∀x y W,Calls P g #[.agg (enc x).toArray,.agg (enc y).toArray] W (fun o w'=>o=.returned (.int .i64 (cf x y))∧Pure W w'))
  {w:World} {s:Sl} {ds:List α} (hr:Rws w e k s (ds.map enc)) (hn:ds.length<4611686018427387904) :
  Calls P (ρ.f 6) #[s.v,.func (.func g) #[] #[]] w (fun o w'=>o=.returned (.tuple #[])∧∃ds':List α,ds'.Perm ds∧ds'.Pairwise (fun a b=>¬ cf b a<0)∧Rws w' e k s (ds'.map enc)∧Ext s.blk w w'):=by
 have hl:s.len=ds.length:=by rw [hr.len];simp
 rcases hr.own with ⟨rfl,hnil⟩ | ⟨b,cur,ha,hg,hcap,hm,hsz,ht⟩
 ·have hd:ds=[]:=by simpa using hnil
  subst hd
  refine (AnyF.slices_SortFunc_none L none 0 _ w).mono ?_
  rintro _ w' ⟨rfl,rfl⟩
  exact ⟨rfl,[],.refl _,.nil,hr,Ext.refl _⟩
 ·rw [List.length_map] at hcap ht
  have hH:HoldsK enc k w b 0 ds.toArray:=Rws.holdsK (s:=s) hk hg ht
  have hb:b<w.heap.size:=heap_lt hg
  have hv:s.v=.slice (some ⟨b,0,none⟩) ds.toArray.size s.cap:=by unfold Sl.v;rw [ha,hl];simp
  rw [hv]
  refine (AnyQ.slices_SortFunc L k aE zE enc hk h1 cf hO g #[] b 0 s.cap ds.toArray w eg (fun m os dk _ x y=>?_) hH hb (by simpa using hn)).mono ?_
  ·refine (hc x y _).mono ?_
   rintro o w' ⟨rfl,hp⟩
   exact ⟨rfl,grow_of_pure hp⟩
  rintro _ w' ⟨rfl,d',n,os,hp,hs,rfl⟩
  obtain ⟨hps,_,hpp⟩:=hp
  have hps':d'.size=ds.length:=by simpa using hps
  have hperm:d'.toList.Perm ds:=by
   rw [← hps] at hpp
   rw [Array.extract_size] at hpp
   simpa [hps'] using hpp
  refine ⟨rfl,d'.toList,hperm,?_,?_,?_⟩
  ·rw [List.pairwise_iff_getElem]
   intro i j hi hj hij
   have hj':j<d'.size:=by simpa using hj
   have hi':i<d'.size:=by simpa using hi
   have:=hs i j (Nat.zero_le _) hij (by simp;omega)
   unfold ltOf at this
   rw [getElem!_pos d' i hi',getElem!_pos d' j hj'] at this
   simpa using this
  ·have hl2 : ∀ q ∈ d'.toList.map enc, q.length = k := by
    intro q hq;obtain ⟨x,_,rfl⟩:=List.mem_map.1 hq;exact hk x
   refine ⟨hl2,by rw [hl];simp [hps'],.inr ⟨b,putCells id 0 (flatK enc k d') cur,ha,?_,by simpa [hps'] using hcap,hm,by simp [putCells,hsz],?_⟩⟩
   ·unfold sortWorldK putRowK
    rw [heap_grow_old _ _ (by simpa using hb)]
    simp [putRow,mapBlock,Sort.ahead,Array.getElem?_modify,hg,onCells]
   ·rw [← flatK_list enc k hk d',List.length_map,Array.length_toList]
    apply List.ext_getElem?
    intro j
    have hle:ds.length*k≤s.cap*k:=Nat.mul_le_mul_right _ hcap
    by_cases hj:j<d'.size*k
    ·rw [List.getElem?_take_of_lt hj,Array.getElem?_toList,Array.getElem?_toList]
     unfold putCells
     rw [Array.getElem?_mapIdx,Array.getElem?_eq_getElem (show j<cur.size by rw [hsz];rw [hps'] at hj;omega),Option.map_some,if_pos ⟨Nat.zero_le _,by rw [size_flatK];omega⟩,Array.getElem?_eq_getElem (by rw [size_flatK];exact hj),Nat.sub_zero,getElem!_pos _ j (by rw [size_flatK];exact hj)]
     rfl
    ·rw [List.getElem?_eq_none (by simp;omega),List.getElem?_eq_none (by simp;omega)]
  ·refine ⟨rfl,rfl,rfl,Nat.le_add_right _ _,by unfold sortWorldK putRowK;simp [size_grow],fun i hi hf=>?_⟩
   have hne:b≠i:=fun e'=>hf ⟨_,ha,e'⟩
   unfold sortWorldK putRowK
   rw [heap_grow_old _ _ (by simpa using hi)]
   simp [putRow,mapBlock,Sort.ahead,Array.getElem?_modify,hne]
theorem chunks {α:Type} {sz:Nat}:∀(m:Nat) (l:List α),l.length=m*sz→∃qs:List (List α),qs.length=m∧(∀q∈qs,q.length=sz)∧qs.flatten=l
 | 0,l,h=>⟨[],rfl,by simp,by rw [Nat.zero_mul] at h;simp [List.length_eq_zero_iff.1 h]⟩
 | m+1,l,h=>by
  rw [Nat.succ_mul] at h
  obtain ⟨qs,h1,h2,h3⟩:=chunks m (l.drop sz) (show (l.drop sz).length=m*sz by rw [List.length_drop];omega)
  refine ⟨l.take sz :: qs,by simp [h1],fun q hq=>?_,by simp [h3]⟩
  rcases List.mem_cons.1 hq with rfl | hq
  ·rw [List.length_take];omega
  ·exact h2 q hq
theorem Rws.clearLo {P : Program} {t ty : TypeId} {sz bytes : Nat} {z : Value} (T : SlType P t e sz bytes) (hz : ∀ w, (zeroValue e).run P w = .ok z w) (hzs : z.cells.size = sz) (hz1 : ∀ v ∈ z.cells.toList, oneCell v = true)
  {w:World} {s:Sl} {rs:List (List Value)} (h:Rws w e sz s rs) {k:IntKind} {n:Int} (h0:0≤n) (hn:n<rs.length) :
  ∃s':Sl,∃w':World,(∀w:World,(Instr.sliceAt t s.v (some (.int k n)) none none).run P w=.ok s'.v w)∧(Builtin.clear_ #[t] ty #[s'.v]).run P w=.ok (.tuple #[]) w'∧Ext s.blk w w'∧∃rs',Rws w' e sz s rs'∧rs'.length=rs.length∧rs'.take n.toNat=rs.take n.toNat:=by
 rcases h.own with ⟨rfl,rfl⟩ | ⟨g,cur,ha,hg,hc,hm,hs,ht⟩
 ·simp at hn;omega
 have B:Box w ⟨g,0,none⟩ cur.toList e:=⟨rfl,by simpa using hg⟩
 have hsl:s.len=rs.length:=h.len
 obtain ⟨m,hmm⟩:∃m,s.len - n.toNat=m+1:=⟨s.len - n.toNat - 1,by omega⟩
 have hzl:(Builtin.zeroCells z.cells (m+1)).toList.length=(m+1)*sz:=by simp [Builtin.zeroCells,hzs]
 have hzo:∀v∈(Builtin.zeroCells z.cells (m+1)).toList,oneCell v=true:=by
  intro v hv
  simp only [Builtin.zeroCells,Array.toList_map,List.mem_map] at hv
  obtain ⟨i,_,rfl⟩:=hv
  have hp:0<z.cells.size:=by rw [hzs];exact T.pos
  rw [getElem!_pos z.cells _ (Nat.mod_lt _ hp)]
  exact hz1 _ (by simp)
 have hle:n.toNat*sz+(m+1)*sz=rs.length*sz:=by rw [← Nat.add_mul];congr 1;omega
 have hle2:rs.length*sz≤s.cap*sz:=Nat.mul_le_mul_right _ hc
 have hcl:cur.toList.length=s.cap*sz:=by simpa using hs
 generalize hzz:(Builtin.zeroCells z.cells (m+1)).toList=zs at *
 have hst:=run_storeCellsFrom (P:=P) ((⟨g,0,none⟩:Addr).add (n.toNat*sz)) zs 0 w hzo (fun j hj=>by rw [add_add];exact B.canW (by rw [hcl];omega))
 have B2:=Box.storeAt zs 0 (n.toNat*sz) w _ B (by rw [hcl];omega)
 have hE:Ext (·=g) w (storeRowFrom w ((⟨g,0,none⟩:Addr).add (n.toNat*sz)) 0 zs):=by
  have:=Ext.storeRow w ((⟨g,0,none⟩:Addr).add (n.toNat*sz)) zs;rw [add_block] at this;exact this
 obtain ⟨qs,q1,q2,q3⟩:=chunks (m+1) zs hzl
 have hcap:s.cap≠n.toNat:=by omega
 have hnl:n≤(s.len:Int):=by omega
 refine ⟨⟨some ((⟨g,0,none⟩:Addr).add (n.toNat*sz)),s.len - n.toNat,s.cap - n.toNat⟩,_,fun w=>?_,?_,hE.mono (fun b _ hb=>⟨_,ha,hb.symm⟩),rs.take n.toNat++qs,⟨?_,?_,.inr ⟨g,_,ha,B2.blk,?_,hm,?_,?_⟩⟩,?_,?_⟩
 ·simp [Instr.sliceAt,Instr.slice,Sl.v,run_underlying T.ht,Instr.sliceBounds,Instr.sliceBound,asIntOf,T.sizeOf,h0,hnl,hcap,ha]
 ·rw [hmm]
  simp [Builtin.clear_,Sl.v,run_underlying T.ht,hz,hzz,hst]
 ·intro q hq
  rcases List.mem_append.1 hq with hq | hq
  ·exact h.each q (List.mem_of_mem_take hq)
  ·exact q2 q hq
 ·rw [List.length_append,List.length_take,q1];omega
 ·rw [List.length_append,List.length_take,q1];omega
 ·simp only [List.size_toArray,List.length_append,List.length_take,List.length_drop,hcl,hzl];omega
 ·rw [List.length_append,List.length_take,q1,show min n.toNat rs.length+(m+1)=rs.length by omega,List.flatten_append,q3]
  have e1:rs=rs.take n.toNat++rs.drop n.toNat:=(List.take_append_drop _ _).symm
  have e2:((rs.take n.toNat).flatten).length=n.toNat*sz:=by rw [flatten_len (fun r hr=>h.each r (List.mem_of_mem_take hr)),List.length_take,Nat.min_eq_left (by omega)]
  have e3:cur.toList.take (n.toNat*sz)=(rs.take n.toNat).flatten:=by
   calc cur.toList.take (n.toNat*sz)=(cur.toList.take (rs.length*sz)).take (n.toNat*sz):=by rw [List.take_take,Nat.min_eq_left (by omega)]
    _=((rs.take n.toNat).flatten++(rs.drop n.toNat).flatten).take (n.toNat*sz):=by rw [ht,← List.flatten_append,← e1]
    _=(rs.take n.toNat).flatten:=by rw [← e2,List.take_left]
  simp only [Nat.add_zero,e3]
  rw [List.take_append_of_le_length (by rw [List.length_append,e2,hzl];omega),List.take_of_length_le (by rw [List.length_append,e2,hzl];omega)]
 ·rw [List.length_append,List.length_take,q1];omega
 ·rw [List.take_append_of_le_length (by rw [List.length_take];omega),List.take_take,Nat.min_self]
theorem Rws.atLo {P : Program} {t : TypeId} {sz bytes : Nat} (T : SlType P t e sz bytes) {w : World} {s : Sl} {rs : List (List Value)} (h : Rws w e sz s rs) {k : IntKind} {n : Int} (h0 : 0 ≤ n) (hn : n < rs.length) :
  ∃s':Sl,(∀w:World,(Instr.sliceAt t s.v (some (.int k n)) none none).run P w=.ok s'.v w)∧s'.len=rs.length - n.toNat∧∀(i:Nat) (a:Addr),n.toNat+i<rs.length→At s ((n.toNat+i:Nat):Int) sz a→At s' (i:Int) sz a:=by
 rcases h.own with ⟨rfl,rfl⟩ | ⟨g,cur,ha,hg,hc,hm,hs,ht⟩
 ·simp at hn;omega
 have hsl:s.len=rs.length:=h.len
 have hcap:s.cap≠n.toNat:=by omega
 have hnl:n≤(s.len:Int):=by omega
 refine ⟨⟨some ((⟨g,0,none⟩:Addr).add (n.toNat*sz)),s.len - n.toNat,s.cap - n.toNat⟩,fun w=>?_,by simp [hsl],fun i a hi hat=>?_⟩
 ·simp [Instr.sliceAt,Instr.slice,Sl.v,run_underlying T.ht,Instr.sliceBounds,Instr.sliceBound,asIntOf,T.sizeOf,h0,hnl,hcap,ha]
 ·obtain ⟨_,_,b,hb,rfl⟩:=hat
  rw [ha] at hb;cases hb
  refine ⟨by omega,by simp only [hsl];omega,_,rfl,?_⟩
  rw [add_add,Int.toNat_natCast,Int.toNat_natCast,Nat.add_mul]
end Go.SE
end
section
open Go Go.SE
namespace Go.Sp
instance:Inhabited Fact:=⟨⟨0,0,0,⟨#[]⟩⟩⟩
def orF:List Int→Int
 | []=>0
 | a :: l=>if a≠0 then a else orF l
theorem cmpF_or (a b:Fact):cmpF a b=orF [cmpI a.c b.c,cmpI a.kind b.kind,cmpI a.who b.who,cmpB a.text b.text]:=by
 unfold cmpF
 simp only [orF]
 by_cases h1:cmpI a.c b.c≠0
 ·rw [if_pos h1,if_pos h1]
 rw [if_neg h1,if_neg h1]
 by_cases h2:cmpI a.kind b.kind≠0
 ·rw [if_pos h2,if_pos h2]
 rw [if_neg h2,if_neg h2]
 by_cases h3:cmpI a.who b.who≠0
 ·rw [if_pos h3,if_pos h3]
 rw [if_neg h3,if_neg h3]
 by_cases h4:cmpB a.text b.text=0 <;> simp [h4]
end Go.Sp
namespace Go.Proofs
attribute [local irreducible] Calls
theorem s_cmpU (x y:Int):s_S1 x y=Sp.cmpI x y:=by
 unfold s_S1 Sp.cmpI
 by_cases h:x<y
 ·simp [h]
 ·by_cases h2:y<x <;> simp [h,h2]
theorem s_cmpN (x y:Int):s_T1 x y=Sp.cmpI x y:=s_cmpU x y
theorem c_cmpStr (x y:ByteArray) (w0:World):Calls Tryz.prog 86 #[.string x,.string y] w0 (fun e w'=>∃r:Int,e=.returned (.int .i64 r)∧(r=Sp.cmpB x y∧Pure w0 w')):=by
 refine w_Y2 x y w0 (fun r w'=>r=Sp.cmpB x y∧Pure w0 w') ?_
 unfold m_Y2
 refine Br.f (by simp) (Br.f (by simp) fun w2 hs2=>?_)
 have E:=hs2.first
 refine ⟨Op.bytesLess x.toList y.toList,by rw [binOp_string_lss];rfl,fun h=>⟨by unfold Sp.cmpB;rw [if_pos h],E⟩,fun h=>?_⟩
 refine ⟨!(Op.bytesLess x.toList y.toList || x.toList == y.toList),by simp [binOp,Op.stringOp],fun h2=>⟨?_,E⟩,fun h2=>⟨?_,E⟩⟩
 all_goals
  unfold Sp.cmpB
  rw [if_neg (by rw [h];simp)]
  rw [h] at h2
 ·rw [if_neg]
  intro e;subst e;simp at h2
 ·rw [if_pos (Sp.toList_inj (by simpa using h2))]
theorem c_cmpOr {S:NP} (p:Addr) (ts:List Int) (hn:ts.length≤1000) (w0:World) (hL:Lst S w0 1 ⟨some p,ts.length,ts.length⟩ (tmr ts)):Calls Tryz.prog 83 #[(Sl.mk (some p) ts.length ts.length).v] w0 (fun e w'=>∃r:Int,e=.returned (.int .i64 r)∧(r=Sp.orF ts∧Pure w0 w')):=by
 suffices key:∀K:Int→WP,(∀w',Pure w0 w'→K (Sp.orF ts) w')→m_H1 ⟨some p,ts.length,ts.length⟩ w0 K from
  w_H1 _ w0 _ (key _ (fun _ h=>⟨rfl,h⟩))
 intro K hK
 unfold m_H1
 refine ⟨fun i w'=>∃j:Nat,i=j∧j≤ts.length∧w'=w0∧Sp.orF ts=Sp.orF (ts.drop j),fun i _=>((ts.length:Int) - i).toNat,⟨0,rfl,Nat.zero_le _,rfl,rfl⟩,?_⟩
 rintro _ wl ⟨j,rfl,hj,rfl,ho⟩
 unfold m_H1_l1
 refine ⟨fun h=>?_,fun h=>?_⟩
 ·have hlt:=lt_of_dec (n:=ts.length) rfl h
  obtain ⟨a,hat,_,hc⟩:=tm_nth hL hlt
  rw [List.drop_eq_getElem_cons hlt,Sp.orF] at ho
  refine ⟨a,hat,_,hc,fun h2=>?_,fun h2=>?_⟩
  ·rw [if_pos (by simpa using h2)] at ho
   rw [ho] at hK;exact hK _ (Ext.refl _)
  ·rw [if_neg (by simpa using h2)] at ho
   rw [wrap_succ hlt (by omega)]
   exact ⟨⟨j+1,rfl,hlt,rfl,ho⟩,lt_dec hlt⟩
 ·have hge:=eq_of_dec (n:=ts.length) rfl hj h
  rw [hge,List.drop_length,Sp.orF] at ho
  rw [ho] at hK;exact hK _ (Ext.refl _)
theorem c_ev_Compare (a b:Sp.Fact) (w0:World):Calls Tryz.prog 28 #[.agg (frow a).toArray,.agg (frow b).toArray] w0 (fun e w'=>∃r:Int,e=.returned (.int .i64 r)∧(r=Sp.cmpF a b∧Pure w0 w')):=by
 refine w_W2 a.kind a.who a.c a.text b.kind b.who b.c b.text w0 (fun r w'=>r=Sp.cmpF a b∧Pure w0 w') ?_
 unfold m_W2
 intro H2 w2 hs2
 have E2:=hs2.first
 refine ⟨Pure w0,E2.trans (Ext.drew _),?_⟩
 rintro _ rfl
 have E3:=E2.trans (Ext.drew (F:=None) w2)
 refine (p_S1 a.c b.c _).mono ?_
 rintro _ w4 ⟨rfl,E4⟩
 refine ⟨_,rfl,E3.trans E4,E4.keptP,(p_T1 a.kind b.kind _).mono ?_⟩
 rintro _ w5 ⟨rfl,E5⟩
 refine ⟨_,rfl,(E3.trans E4).trans E5,E5.keptP,(p_T1 a.who b.who _).mono ?_⟩
 rintro _ w6 ⟨rfl,E6⟩
 refine ⟨_,rfl,((E3.trans E4).trans E5).trans E6,E6.keptP,(c_cmpStr a.text b.text _).mono ?_⟩
 rintro _ w7 ⟨_,rfl,rfl,E7⟩
 have E07:=(((E3.trans E4).trans E5).trans E6).trans E7
 refine ⟨_,rfl,E07,E7.keptP,fun p3 w8 h8=>⟨E07.trans (Ext.new h8),?_⟩⟩
 have E08:=E07.trans (Ext.new (F:=None) h8)
 have R:=Rws.lit (sz:=1) (rs:=tmr [Sp.cmpI a.c b.c,Sp.cmpI a.kind b.kind,Sp.cmpI a.who b.who,Sp.cmpB a.text b.text]) h8 (by simp [tmr,s_cmpU,s_cmpN]) (by simp [tmr]) (by simp [tmr,maxLen])
 refine (c_cmpOr p3 [Sp.cmpI a.c b.c,Sp.cmpI a.kind b.kind,Sp.cmpI a.who b.who,Sp.cmpB a.text b.text] (by simp) w8 R.lst).mono ?_
 rintro _ w9 ⟨_,rfl,rfl,E9⟩
 exact ⟨_,rfl,E08.trans E9,E9.keptP,(Sp.cmpF_or a b).symm,E08.trans E9⟩
theorem c_SortFunc (s : Sl) (fs : List Sp.Fact) (w0 : World) (hr : Rws w0 75 4 s (fs.map frow)) (hn : fs.length ≤ 1000000) :
  Calls Tryz.prog 81 #[s.v,.func (.func 28) #[] #[]] w0 (fun e w'=>e=.returned (.tuple #[])∧∃fs':List Sp.Fact,fs'.Perm fs∧fs'.Pairwise (fun a b=>¬ Sp.cmpF b a<0)∧Rws w' 75 4 s (fs'.map frow)∧Ext s.blk w0 w'):=by
 have h:=sortFunc_rws Tryz.sortF Tryz.isAgg75 Tryz.sizeOf75 (enc:=frow) (fun _=>rfl) (fun x v hv=>by simp [frow] at hv;rcases hv with rfl | rfl | rfl | rfl <;> rfl) Sp.cmpF Sp.swoF 28
  (enters_of Tryz.func28 (by kernel_rfl) rfl) (fun x y W=>(c_ev_Compare x y W).mono (by rintro _ w' ⟨_,rfl,rfl,E⟩;exact ⟨rfl,E⟩)) hr (by omega)
 exact h
end Go.Proofs
end
section
open Go Go.SE
namespace Go.Proofs
attribute [local irreducible] Calls
theorem fact_dec (g h:Sp.Fact):((g.kind == h.kind) && ((g.who == h.who) && ((g.c == h.c) && decide (g.text=h.text))))=decide (g=h):=by
 obtain ⟨a,b,c,d⟩:=g
 obtain ⟨a',b',c',d'⟩:=h
 rw [Bool.eq_iff_iff]
 simp [Sp.Fact.mk.injEq]
theorem c_Compact (s : Sl) (fs : List Sp.Fact) (w0 : World) (hr : Rws w0 75 4 s (fs.map frow)) (hn : fs.length ≤ 1000000) :
  Calls Tryz.prog 82 #[s.v] w0 (fun e w'=>∃r:Sl,e=.returned r.v∧(Rws w' 75 4 r ((Sp.compF fs).map frow)∧Ext s.blk w0 w'∧∀b,r.blk b→s.blk b)):=by
 suffices key:∀K:Sl→WP,(∀r w',Rws w' 75 4 r ((Sp.compF fs).map frow)→Ext s.blk w0 w'→(∀b,r.blk b→s.blk b)→K r w')→m_T s w0 K from
  w_T _ w0 _ (key _ (fun _ _ h1 h2 h3=>⟨h1,h2,h3⟩))
 intro K hK
 unfold m_T
 have hl:s.len=fs.length:=by rw [hr.len];simp
 have hsb:∀b,s.blk b→b<w0.heap.size:=fun b hb=>hr.lt hb
 refine ⟨fun h=>?_,fun h=>?_⟩
 ·have h:=of_decide_eq_true h
  refine hK s w0 ?_ (Ext.refl _) (fun _ h=>h)
  have:Sp.compF fs=fs:=by
   match fs,hl,h with
   | [],_,_=>rfl
   | [a],_,_=>rfl
   | a :: b :: l,hl,h=>simp [hl] at h;omega
  rw [this];exact hr
 have h2:2≤fs.length:=by have h:=of_decide_eq_false h;omega
 obtain ⟨f0,fr,rfl⟩:∃f0 fr,fs=f0 :: fr:=by
  cases fs with
  | nil=>simp at h2
  | cons a l=>exact ⟨a,l,rfl⟩
 generalize hfs:f0 :: fr=fs at *
 have hc0:Sp.compF fs=fs.take 1++Sp.compT fs[0] (fs.drop 1):=by subst hfs;rfl
 refine ⟨fun k H w'=>∃j:Nat,k=j∧1≤j∧∃hj:j≤fs.length,Pure w0 w'∧Own H w' 75 4 s (fs.map frow)∧Sp.compF fs=fs.take j++Sp.compT (fs[j-1]'(by omega)) (fs.drop j),fun k _=>((fs.length:Int) - k).toNat,⟨1,rfl,Nat.le_refl _,by omega,Ext.refl _,⟨hr,fun _ _ h=>h⟩,hc0⟩,?_⟩
 rintro _ Hl wl hl1 ⟨j,rfl,hj1,hj,El,Ol,hc⟩
 unfold m_T_l1
 refine ⟨fun hb=>?_,fun hb=>?_⟩
 ·have hlt:=lt_of_dec hl hb
  obtain ⟨a1,hat1,_⟩:=Ol.nth hlt
  refine ⟨a1,hat1,fun w1 hs1=>?_⟩
  have O1:=Ol.hst hs1
  have E1:=El.hst hs1
  obtain ⟨a1',hat1',hrow1⟩:=O1.nth hlt
  obtain ⟨a2,hat2,hrow2⟩:=O1.nth (show j - 1<fs.length by omega)
  have hw:IntKind.i64.wrap ((j:Int) - 1)=((j - 1:Nat):Int):=by rw [i64 (by omega) (by omega)];omega
  have ha:a1=a1':=by
   obtain ⟨_,_,b,hb,rfl⟩:=hat1
   obtain ⟨_,_,b',hb',rfl⟩:=hat1'
   rw [hb] at hb';cases hb';rfl
  rw [← ha] at hrow1
  rw [hw]
  refine ⟨_,_,_,_,hrow1,a2,hat2,_,_,_,_,hrow2,fun hd=>?_,fun hd=>?_⟩
  ·rw [fact_dec] at hd
   have hd:=of_decide_eq_true hd
   obtain ⟨s2,hrun2,hlen2,hat⟩:=O1.rows.atLo slT_fact (k:=.i64) (n:=(j:Int)) (by omega) (by simp;omega)
   have hlen2:s2.len=fs.length - j:=by simpa using hlen2
   refine ⟨s2,hrun2 w1,fun k2 k21 H w'=>∃a i:Nat,k2=a∧k21=i∧1≤i∧1≤a∧a<j+i∧∃hi:j+i≤fs.length,∃ls:List Sp.Fact,ls.length=fs.length∧ls.drop (j+i - 1)=fs.drop (j+i - 1)∧Ext s.blk w0 w'∧Own H w' 75 4 s (ls.map frow)∧Sp.compF fs=ls.take a++Sp.compT (fs[j+i - 1]'(by omega)) (fs.drop (j+i)),fun _ k21 _=>((fs.length:Int) - k21).toNat,?_,?_⟩
   ·refine ⟨j,1,rfl,rfl,Nat.le_refl _,hj1,by omega,hlt,fs,rfl,rfl,Ext.pure E1,O1,?_⟩
    rw [hc,List.drop_eq_getElem_cons hlt,Sp.compT,if_pos hd.symm]
    rfl
   rintro _ _ H2 w2 hs2 ⟨a,i,rfl,rfl,hi1,ha1,hai,hi,ls,hll,hdr,E2,O2,hcc⟩
   unfold m_T_l2
   have hget:∀q,(h:q<fs.length)→j+i - 1≤q→ls[q]'(by omega)=fs[q]:=by
    intro q h hq
    have e:=congrArg (fun l=>l[q - (j+i - 1)]?) hdr
    simp only [List.getElem?_drop] at e
    rw [show j+i - 1+(q - (j+i - 1))=q by omega,List.getElem?_eq_getElem (by omega),List.getElem?_eq_getElem h] at e
    exact Option.some.inj e
   refine ⟨fun hb2=>?_,fun hb2=>?_⟩
   ·have hlt2:j+i<fs.length:=by have:=of_decide_eq_true hb2;omega
    obtain ⟨a3,hat3,_⟩:=O2.nth (show j+i<ls.length by omega)
    have up:∀(q:Nat) (x:Addr),j+q<fs.length→At s ((j+q:Nat):Int) 4 x→At s2 (q:Int) 4 x:=fun q x hq hx=>hat q x (by simpa using hq) (by simpa using hx)
    refine ⟨a3,up i a3 hlt2 hat3,fun w3 hs3=>?_⟩
    have O3:=O2.hst hs3
    have E3:=E2.hst hs3
    obtain ⟨a3',hat3',hrow3⟩:=O3.nth (show j+i<ls.length by omega)
    have ha3:a3=a3':=by
     obtain ⟨_,_,b,hb,rfl⟩:=hat3
     obtain ⟨_,_,b',hb',rfl⟩:=hat3'
     rw [hb] at hb';cases hb';rfl
    rw [← ha3] at hrow3
    obtain ⟨a4,hat4,hrow4⟩:=O3.nth (show j+(i - 1)<ls.length by omega)
    have hw2:IntKind.i64.wrap ((i:Int) - 1)=((i - 1:Nat):Int):=by rw [i64 (by omega) (by omega)];omega
    rw [hw2]
    rw [hget (j+i) hlt2 (by omega)] at hrow3
    have e4:ls[j+(i - 1)]'(by omega)=fs[j+i - 1]'(by omega):=by
     rw [hget (j+(i - 1)) (by omega) (by omega)];congr 1;omega
    rw [e4] at hrow4
    rw [List.drop_eq_getElem_cons hlt2,Sp.compT] at hcc
    refine ⟨_,_,_,_,hrow3,a4,up (i - 1) a4 (by omega) hat4,_,_,_,_,hrow4,fun hd2=>?_,fun hd2=>?_⟩
    ·rw [fact_dec] at hd2
     have hd2:¬ fs[j+i]=fs[j+i - 1]'(by omega):=by simpa using hd2
     rw [if_neg (fun e=>hd2 e.symm)] at hcc
     obtain ⟨a6,hat6,hcw,hset⟩:=O3.rows.set (i:=a) (r:=frow fs[j+i]) (by simp;omega) rfl rfl
     refine ⟨a3,up i a3 hlt2 hat3,_,_,_,_,hrow3,a6,hat6,hcw,?_,fun w4 hw4=>?_⟩
     ·obtain ⟨_,_,b,hb,rfl⟩:=hat6
      exact O3.vis _ ⟨b,hb,by rw [add_block]⟩
     obtain ⟨hR,hE⟩:=hset w4 hw4
     rw [wrap_succ (show a<fs.length by omega) (by omega),wrap_succ (show i<fs.length by omega) (by omega)]
     refine ⟨⟨a+1,i+1,rfl,rfl,by omega,by omega,by omega,by omega,ls.set a fs[j+i],by simpa using hll,?_,E3.trans hE,⟨by rw [List.map_set];exact hR,O3.vis⟩,?_⟩,lt_dec (show i<fs.length by omega)⟩
     ·rw [List.drop_set_of_lt (by omega)]
      have e:=congrArg (List.drop 1) hdr
      rw [List.drop_drop,List.drop_drop] at e
      rw [show j+(i+1) - 1=j+i - 1+1 by omega];exact e
     ·rw [hcc,List.take_succ_eq_append_getElem (by rw [List.length_set];omega),List.take_set_of_le (Nat.le_refl _),List.getElem_set_self,List.append_assoc]
      rfl
    ·rw [fact_dec] at hd2
     have hd2:fs[j+i]=fs[j+i - 1]'(by omega):=by simpa using hd2
     rw [if_pos hd2.symm] at hcc
     rw [wrap_succ (show i<fs.length by omega) (by omega)]
     refine ⟨⟨a,i+1,rfl,rfl,by omega,by omega,by omega,by omega,ls,hll,?_,E3,O3,?_⟩,lt_dec (show i<fs.length by omega)⟩
     ·have e:=congrArg (List.drop 1) hdr
      rw [List.drop_drop,List.drop_drop] at e
      rw [show j+(i+1) - 1=j+i - 1+1 by omega];exact e
     ·rw [hcc];rfl
   ·have hge:j+i=fs.length:=by have:=of_decide_eq_false hb2;omega
    rw [List.drop_eq_nil_of_le (by omega),Sp.compT,List.append_nil] at hcc
    obtain ⟨s3,w4,hrun3,hclr,hE4,rs',hR',hl',htk⟩:=O2.rows.clearLo (P:=Tryz.prog) (t:=71) (ty:=0) slT_fact (z:=.agg #[.int .i64 0,.int .i64 0,.int .u64 0,.string ⟨#[]⟩]) (fun w=>Tryz.zeroValue75 w) rfl (by intro v hv;simp [Value.cells] at hv;rcases hv with rfl | rfl | rfl | rfl <;> rfl) (k:=.i64) (n:=(a:Int)) (by omega) (by simp;omega)
    obtain ⟨s4,hrun4,hR4,hb4⟩:=hR'.hiA (P:=Tryz.prog) slT_fact (k:=.i64) (n:=(a:Int)) (by omega) (by rw [hl'];simp;omega)
    refine ⟨s3,hrun3 w2,w4,hclr,hE4.kept (fun b hb hs=>O2.vis b hs hb),s4,hrun4 w4,hK s4 w4 ?_ (E2.trans hE4) (fun b hb=>(hb4 b).1 hb)⟩
    rw [htk] at hR4
    rw [hcc,List.map_take];simpa using hR4
  ·rw [fact_dec] at hd
   have hd:¬ fs[j]=fs[j - 1]'(by omega):=by simpa using hd
   rw [List.drop_eq_getElem_cons hlt,Sp.compT,if_neg (fun e=>hd e.symm)] at hc
   rw [wrap_succ hlt (by omega)]
   refine ⟨⟨j+1,rfl,by omega,hlt,E1,O1,?_⟩,lt_dec hlt⟩
   rw [hc,List.take_succ_eq_append_getElem hlt,List.append_assoc]
   rfl
 ·have hge:=eq_of_dec hl hj hb
  subst hge
  rw [List.drop_length,Sp.compT,List.append_nil,List.take_length] at hc
  exact hK s wl (by rw [hc];exact Ol.rows) (Ext.pure El) (fun _ h=>h)
end Go.Proofs
end
section
open Go Go.SE
open Go.IntKind renaming i64 → q6
namespace Go.Proofs
set_option maxRecDepth 100000
set_option maxHeartbeats 4000000
attribute [local irreducible] wpL wpX opE wpE Calls
def m_O1_l1 (yield1:Value) (v1:Sl) (x1:Int) (wl1:World) (Kc1:Int→WP) (K:WP):Prop :=
 Br (decide (x1<(v1.len:Int)))
  (∃a1:Addr,At v1 x1 1 a1 ∧
  ∃v2:Int,wl1.cell? a1=some (vi v2) ∧
  ∃(ly1:Nat),yield1=.func (.yield ly1) #[] #[] ∧
  Yld Tryz.prog ly1 #[(vi v2)] wl1 (fun e w1=>∃b1:Bool,e=.returned (vb b1) ∧
   Br (!b1)
    (K w1)
    (Kc1 (q6.wrap (x1+1)) w1)))
  (K wl1)
def m_O1 (yield1:Value) (cap1:Addr) (w0:World) (K:WP):Prop :=
 ∃v1:Sl,w0.cell? cap1=some v1.v ∧
 ∃(I1:Int→WP) (mu1:Int→World→Nat),I1 0 w0 ∧
  ∀(x1:Int) (wl1:World),I1 x1 wl1→m_O1_l1 yield1 v1 x1 wl1 (fun y'0 w'=>I1 y'0 w'∧mu1 y'0 w'<mu1 x1 wl1) K
theorem w_O1 (yield1 : Value) (cap1 : Addr) (w0 : World) (K : WP) (h : m_O1 yield1 cap1 w0 K) :
  Calls Tryz.prog 208 #[yield1,(vp (some cap1))] w0 (fun e w'=>e=.returned (.tuple #[])∧K  w'):=by
 unfold m_O1 at h
 refine cw (args:=[yield1,(vp (some cap1))]) Tryz.func208 Tryz.ntmps208 (eg ?_)
 obtain ⟨v1,hv3,h⟩:=h
 refine q2 v1.v (xl (Tryz.isAgg46 _) hv3) (q0 (vi (v1.len:Int)) (q0 (vi 0) (ln (wpE_block ?_))))
 obtain ⟨I1,mu1,h0,hr⟩:=h
 refine wpE_loop (σ:=Int×World) (fun s ρ w=>w=s.2∧Has ρ [(0,yield1),(5,v1.v),(6,(vi (v1.len:Int))),(7,(vi s.1))]∧I1 s.1 s.2) (fun s=>mu1 s.1 s.2) (0,w0) ⟨rfl,hm,h0⟩ ?_
 rintro ⟨x1,wl1⟩ ρ w ⟨hw,hH,hI⟩
 obtain rfl:wl1=w:=(show w=wl1 from hw).symm
 have hH:Has ρ [(0,yield1),(5,v1.v),(6,(vi (v1.len:Int))),(7,(vi x1))]:=hH
 have h:=hr x1 wl1 hI
 unfold m_O1_l1 at h
 refine wpE_has hH ?_
 refine eg (q0 (vb (decide (x1<(v1.len:Int)))) (ln (wpE_seq ?_)))
 refine wpE_cond (t:=(decide (x1<(v1.len:Int)))) (by kernel_rfl) (fun hc1=>?_) (fun hc1=>?_)
 have h:=h.1 hc1
 refine wpE_skip (th_n (wpE_seq (wpE_block (eg ?_))))
 obtain ⟨a1,hv2,h⟩:=h
 refine q2 (vp (some a1)) (xi (Tryz.runUnderlying46 _) (Tryz.sizeOf78 _) hv2) ?_
 obtain ⟨v2,hv1,h⟩:=h
 refine q2 (vi v2) (xl (Tryz.isAgg78 _) hv1) (q0 (vi v2) (ln (eg (q0 yield1 (q0 (vi v2) ?_)))))
 obtain ⟨ly1,hy1,h⟩:=h
 refine st_yield (want0 rfl) (by kernel_rfl) hy1 (by kernel_rfl) (h.mono ?_)
 rintro e w1 ⟨b1,rfl,h⟩
 refine ⟨_,rfl,?_⟩
 refine q0 (vb (!b1)) (ln ?_)
 refine wpE_cond (t:=(!b1)) (by kernel_rfl) (fun hc2=>?_) (fun hc2=>?_)
 have h:=h.1 hc2
 refine er (bl_r (th_r (th_r (bl_r (res0 (.inl rfl) Tryz.results208 ?_)))))
 exact ⟨rfl,h⟩
 have h:=h.2 hc2
 refine wpE_skip (bl_n (th_n (rg (q0 (vi (q6.wrap (x1+1))) (q0 (vi (q6.wrap (x1+1))) (ln ?_))))))
 exact ⟨((q6.wrap (x1+1)),w1),⟨rfl,hm,h.1⟩,h.2⟩
 have h:=h.2 hc1
 refine wpE_exit (th_x (th_x (bl_eq (res0 (.inr rfl) Tryz.results208 ?_))))
 exact ⟨rfl,h⟩
def m_C3 (s1:Sl) (seq1:Value) (w0:World) (K:Sl→WP):Prop :=
 ∀(p1:Addr) (w1:World),New w0 (.cells #[s1.v] 46) p1 w1 →
 ∃(f1:FuncId) (cs1:Array Value),seq1=.func (.func f1) #[] cs1∧(∀args w,(callFunc f1 args).run Tryz.prog w=.ok (.enter f1 args) w) ∧
 ∃(xs1:List (Int)) (Rd1:WP),IterC Tryz.prog f1 cs1 (fun (z2:Int)=>#[(vi z2)]) xs1 Rd1 w1 ∧
 ∃(I1:List (Int)→NP→WP),RngI w0 Rd1 I1 (fun _ _ _=>False) (fun _ _ _=>False)∧I1 [] None w1 ∧
 (∀(pre1:List (Int)) (z2:Int) (Y1:NP) (A1:World),I1 pre1 Y1 A1→Hst w0 Y1 A1 Y1 A1→(∃post,xs1=pre1++z2 :: post) →
  ∃v1:Sl,A1.cell? p1=some v1.v ∧
  ∀(p2:Addr) (w2:World),New A1 (.cells #[(vi z2)] 78) p2 w2 →
  ∃s2:Sl,∃w3:World,(Builtin.append_ #[46,46] 46 #[v1.v,(Sl.mk (some p2) 1 1).v]).run Tryz.prog w2=.ok s2.v w3 ∧
  Kept None w2 w3 ∧
  CanW w3 p1∧¬ None p1.block∧∀w4:World,w4=w3.setCell p1 s2.v →
  Kept Y1 A1 w4∧I1 (pre1++[z2]) Y1 w4) ∧
 ∀(H1:NP) (w5:World),Hst w0 H1 w5 H1 w5→(∀b,None b→H1 b)→Kept None w1 w5→I1 xs1 H1 w5 →
 ∃v2:Sl,w5.cell? p1=some v2.v ∧
 ∀(w6:World),Hst w0 H1 w5 H1 w6 →
 K v2 w6
theorem w_C3 (s1 : Sl) (seq1 : Value) (w0 : World) (K : Sl → WP) (h : m_C3 s1 seq1 w0 K) :
  Calls Tryz.prog 283 #[s1.v,seq1] w0 (fun e w'=>∃r1:Sl,e=.returned r1.v∧K r1 w'):=by
 unfold m_C3 at h
 refine cw (args:=[s1.v,seq1]) Tryz.func283 Tryz.ntmps283 ?_
 have hs:=Hst.start w0
 have hb:=HB.nil None w0
 refine eg (sn (O:=(.cells #[s1.v] 46)) xb ?_)
 intro p1 w1 hn3
 have h:=h p1 w1 hn3
 have hs:=hs.again (Ext.new (F:=None) hn3).keptP
 have hb:=hb.kept (Ext.new (F:=None) hn3).keptP
 refine q0 Sl.nil.v (ln (wpE_seqC (rg (q0 seq1 (ln ?_)))))
 obtain ⟨f1,cs1,hv1,hf1,h⟩:=h
 obtain ⟨xs1,Rd1,hit,I1,hRI,h0,hbody,h⟩:=h
 refine wpB_range (encs:=(fun (z2:Int)=>#[(vi z2)])) (Eq.trans (b:=seq1) (by kernel_rfl) hv1) hf1 hit (fun _=>rfl) (by decide) hs I1 (fun _ _ _=>False) (fun _ _ _=>False) hRI h0 ?ha ?hr ?ht
 case ha =>
  intro l z2 w7
  refine rg (q0 (vi z2) (ln ?_))
  refine ⟨rfl,?_⟩
  intro pre1 Y1 A1 hi hY hpost
  have h:=hbody pre1 z2 Y1 A1 hi hY hpost
  have hs:=Hst.start A1
  have hb:=HB.nil None A1
  refine wpE_block (rg ?_)
  obtain ⟨v1,hv3,h⟩:=h
  refine q2 v1.v (xl (Tryz.isAgg46 _) hv3) (q0 (vi z2) (st_new (O:=(.cells #[(vi z2)] 78)) (fun p=>(Sl.mk (some p) 1 1).v) (want0 rfl) (x_buildSlice (vs:=#[(0,(vi z2))]) (by kernel_rfl) (by kernel_rfl)) ?_))
  intro p2 w2 hn2
  have h:=h p2 w2 hn2
  have hs:=hs.again (Ext.new (F:=None) hn2).keptP
  have hb:=hb.kept (Ext.new (F:=None) hn2).keptP
  obtain ⟨s2,w3,hv2,hk,h⟩:=h
  refine st (v:=s2.v) (want0 rfl) (x_builtin (args:=#[v1.v,(Sl.mk (some p2) 1 1).v]) (by kernel_rfl) (fun _=>rfl) hv2) ?_
  obtain ⟨hs,hb⟩:=hk.hh hs hb
  obtain ⟨hp1,hnh,h⟩:=h
  refine st_set (want0 rfl) (x_store (a:=p1) (v:=s2.v) (by kernel_rfl) (by kernel_rfl) rfl (Tryz.sizeOf46 _) hp1) ?_
  intro w4 hn1
  have h:=h w4 hn1
  have hk:=Kept.sc hnh hn1
  obtain ⟨hs,hb⟩:=hk.hh hs hb
  refine wpL_nil (bl_n ?_)
  exact rd_n h
 case hr =>
  intro D1 H1 w5 hs' hD hDe aA hk1 hio1
  have hb':=hb.behind hk1 aA hD hDe
  have hs:=hs'
  have hb:=hb'
  have h:=h H1 w5 hs aA hk1 (hio1.elim id (fun h=>h.elim (fun _ h=>h.elim)))
  refine eg ?_
  obtain ⟨v2,hv4,h⟩:=h
  refine q2 v2.v (xl (Tryz.isAgg46 _) hv4) (q0 v2.v (ln (er (af_r hb.dead ?_))))
  intro w6 hw'
  have hl:=hb.leave hs hw'
  obtain ⟨hs,hb⟩:=hl
  -- behind the loop
  have h:=h w6 hs
  have hs:=hs.here
  refine rs1 Tryz.results283 (v:=v2.v) ?_
  exact ⟨v2,rfl,h⟩
 case ht =>
  intro _ _ _ _ _ _ _ h
  exact h.elim
end Go.Proofs
end
section
open Go Go.SE Go.Sort
namespace Go.Proofs
abbrev SP (w0:World) (s:Sl) (Q:List Int→Prop) (w':World):Prop:=∃l,Rws w' 78 1 s (tmr l)∧Ext s.blk w0 w'∧Q l
theorem tmr_flat (l:List Int):(tmr l).flatten=l.map (Value.int .i64):=by
 induction l with
 | nil=>rfl
 | cons a l ih=>simp only [tmr,List.map_cons,List.flatten_cons] at *;rw [ih];rfl
theorem c_Sort (s : Sl) (l : List Int) (w0 : World) (h : Rws w0 78 1 s (tmr l)) (hn : l.length ≤ 1000000) :
  Calls Tryz.prog 207 #[s.v] w0 (fun e w'=>e=.returned (.tuple #[])∧SP w0 s (fun l'=>l'.Perm l∧l'.Pairwise (·≤·)) w'):=by
 have hl:s.len=l.length:=by rw [h.len];simp [tmr]
 rcases h.own with ⟨rfl,hnil⟩ | ⟨b,cur,ha,hg,hc,hm,hs,ht⟩
 ·have hd:l=[]:=by simpa [tmr] using hnil
  subst hd
  refine (show Calls Tryz.prog 207 #[Sl.nil.v] w0 _ from AnyG.slices_Sort_int_none Tryz.sortT none 0 w0).mono ?_
  rintro _ w' ⟨rfl,rfl⟩
  exact ⟨rfl,[],h,Ext.refl _,.refl _,.nil⟩
 have hlen:(tmr l).length=l.length:=by simp [tmr]
 rw [tmr_flat,hlen,Nat.mul_one] at ht
 rw [hlen] at hc
 rw [Nat.mul_one] at hs
 have hb:b<w0.heap.size:=heap_lt hg
 have hget:∀j,j<l.length→∃hj:j<l.length,cur[j]?=some (.int .i64 l[j]):=fun j hj=>⟨hj,by
  have:cur.toList[j]?=(cur.toList.take l.length)[j]?:=by rw [List.getElem?_take_of_lt hj]
  rw [← Array.getElem?_toList,this,ht,List.getElem?_map,List.getElem?_eq_getElem hj];rfl⟩
 have hH:Holds (Value.int .i64) w0 b 0 l.toArray:=by
  intro j hj
  have hj:j<l.length:=by simpa using hj
  obtain ⟨_,e⟩:=hget j hj
  refine ⟨?_,?_⟩
  ·unfold World.cell?
   rw [hg]
   simp only [Option.isSome_none,Bool.false_eq_true,if_false,Nat.zero_add]
   rw [e,getElem!_pos l.toArray j (by simpa using hj)];simp
  ·unfold World.frozen?
   rw [hg];simp
 have hv:s.v=.slice (some ⟨b,0,none⟩) l.length s.cap:=by unfold Sl.v;rw [ha,hl]
 rw [hv]
 refine (show Calls Tryz.prog 207 #[.slice (some ⟨b,0,none⟩) l.length s.cap] w0 _ from AnyG.slices_Sort_int Tryz.sortT b 0 s.cap l w0 hH hb (by omega)).mono ?_
 rintro _ w' ⟨rfl,n,os,rfl⟩
 have hp:(l.mergeSort fun x y=>decide (x≤y)).Perm l:=List.mergeSort_perm l _
 have hsd:(l.mergeSort fun x y=>decide (x≤y)).Pairwise (·≤·):=by
  have:=List.pairwise_mergeSort (le:=fun x y:Int=>decide (x≤y)) (fun a b c h1 h2=>by simp at *;omega) (fun a b=>by simp;omega) l
  simpa using this
 have hq:(l.mergeSort fun x y=>decide (x≤y)).length=l.length:=hp.length_eq
 generalize (l.mergeSort fun x y=>decide (x≤y))=q at *
 refine ⟨rfl,q,⟨?_,?_,.inr ⟨b,putCells (Value.int .i64) 0 q.toArray cur,ha,?_,by simp [tmr];omega,hm,by simp [putCells,hs],?_⟩⟩,?_,hp,hsd⟩
 ·intro r hr;simp [tmr] at hr;obtain ⟨t,_,rfl⟩:=hr;rfl
 ·rw [hl];simp [tmr,hq]
 ·rw [heap_grow_old _ _ (by simpa using hb)]
  simp [putRow,mapBlock,Sort.ahead,Array.getElem?_modify,hg,onCells]
 ·rw [tmr_flat]
  apply List.ext_getElem?
  intro j
  have e1:(tmr q).length*1=q.length:=by simp [tmr]
  rw [e1]
  by_cases hj:j<q.length
  ·rw [List.getElem?_take_of_lt hj,Array.getElem?_toList]
   unfold putCells
   rw [Array.getElem?_mapIdx,Array.getElem?_eq_getElem (show j<cur.size by omega),Option.map_some,if_pos ⟨Nat.zero_le _,by simp;omega⟩,Nat.sub_zero,getElem!_pos _ j (by simpa using hj),List.getElem?_map,List.getElem?_eq_getElem hj]
   simp
  ·rw [List.getElem?_eq_none (by simp;omega),List.getElem?_eq_none (by simp;omega)]
 ·refine ⟨rfl,rfl,rfl,Nat.le_add_right _ _,by simp [size_grow],fun i hi hf=>?_⟩
  have hne:b≠i:=fun e'=>hf ⟨_,ha,e'⟩
  rw [heap_grow_old _ _ (by simpa using hi)]
  simp [putRow,mapBlock,Sort.ahead,Array.getElem?_modify,hne]
end Go.Proofs
end
section
open Go Go.SE
open Go.IntKind renaming i64 → q6
namespace Go.Proofs
set_option maxRecDepth 100000
set_option maxHeartbeats 4000000
attribute [local irreducible] wpL wpX opE wpE Calls
def m_D3 (p1:Option Addr) (w0:World) (K:(Option Addr)→WP):Prop :=
 Br (Option.isNone p1)
  (K none w0)
  (∀(p2:Addr) (w1:World),New w0 (.map #[] 0) p2 w1 →
  ∀(p3:Addr) (w2:World),New w1 (.cells #[(vp p1),Sl.nil.v,(.map (some p2.block)),Sl.nil.v] 212) p3 w2 →
  K (some p3) w2)
theorem w_D3 (p1 : Option Addr) (w0 : World) (K : (Option Addr) → WP) (h : m_D3 p1 w0 K) :
  Calls Tryz.prog 62 #[(vp p1)] w0 (fun e w'=>∃r1:Option Addr,e=.returned (vp r1)∧K r1 w'):=by
 unfold m_D3 at h
 refine cw (args:=[(vp p1)]) Tryz.func62 Tryz.ntmps62 (eg (q0 (vp none) (ln (wpE_seq (eg (q0 (vp p1) (q2 (vb (Option.isNone p1)) (x_ptreq (by kernel_rfl) rfl Tryz.underlying68) (wpL_nil ?_))))))))
 refine th_n ?_
 refine wpE_cond (t:=(Option.isNone p1)) (by kernel_rfl) (fun hc1=>?_) (fun hc1=>?_)
 have h:=h.1 hc1
 refine eg (q0 (vp none) (ln (er (th_r (rs1 Tryz.results62 (v:=(vp none)) ?_)))))
 exact ⟨none,rfl,h⟩
 have h:=h.2 hc1
 refine wpE_skip (th_n (eg (q0 (vp p1) (st_new (O:=(.map #[] 0)) (fun p=>.map (some p.block)) (want0 rfl) (by kernel_rfl) ?_))))
 intro p2 w1 hn2
 have h:=h p2 w1 hn2
 refine q0 (.agg #[(vp p1),Sl.nil.v,(.map (some p2.block)),Sl.nil.v]) (sn (O:=(.cells #[(vp p1),Sl.nil.v,(.map (some p2.block)),Sl.nil.v] 212)) xb ?_)
 intro p3 w2 hn1
 have h:=h p3 w2 hn1
 refine q0 (vp (some p3)) (ln (er (rs1 Tryz.results62 (v:=(vp (some p3))) ?_)))
 exact ⟨(some p3),rfl,h⟩
def m_O_j2 (p1:Addr) (at1:Int) (p5 a9:Addr) (w0:World) (H:NP) (w:World) (Kc1:Int→NP→WP) (_K:WP):Prop :=
 ∃v15:Int,w.cell? a9=some (vi v15) ∧
 Br (v15 == 4)
  (∃v16:Int,w.cell? (a9.add 5)=some (vi v16) ∧
  Calls Tryz.prog 205 #[(vi v16),(vi 1),(vp (some p1)),(vp (some p5))] w (fun e w13=>e=.returned (.tuple #[])∧
   Kept H w w13 ∧
   ∃v17:Int,w13.cell? (a9.add 6)=some (vi v17) ∧
   Calls Tryz.prog 205 #[(vi v17),(vi 2),(vp (some p1)),(vp (some p5))] w13 (fun e w14=>e=.returned (.tuple #[])∧
    Kept H w13 w14 ∧
    Kc1 (q6.wrap (at1+1)) H w14)))
  (∀y1:Bool,y1=(cond (v15 == 7) (v15 == 7) (cond (v15 == 8) (v15 == 8) (v15 == 9))) →
  Br y1
   (∀(H3:NP) (w15:World),Hst w0 H w H3 w15 →
   ∃v18:Int,w15.cell? (a9.add 5)=some (vi v18) ∧
   Calls Tryz.prog 205 #[(vi v18),(vi 3),(vp (some p1)),(vp (some p5))] w15 (fun e w16=>e=.returned (.tuple #[])∧
    Kept H3 w15 w16 ∧
    Kc1 (q6.wrap (at1+1)) H3 w16))
   (∀(H3:NP) (w15:World),Hst w0 H w H3 w15 →
   Kc1 (q6.wrap (at1+1)) H3 w15))
def m_O_l1 (p1:Addr) (at1:Int) (w0:World) (Hl1:NP) (wl1:World) (Kc1:Int→NP→WP) (K:WP):Prop :=
 ∃v10:Option Addr,wl1.cell? p1=some (vp v10) ∧
 ∃a6:Addr,v10=some a6 ∧
 ∃v11:Sl,wl1.cell? (a6.add 3)=some v11.v ∧
 Br (decide (at1<(v11.len:Int)))
  (∃v12:Option Addr,wl1.cell? p1=some (vp v12) ∧
  ∃a7:Addr,v12=some a7 ∧
  ∃v13:Sl,wl1.cell? (a7.add 3)=some v13.v ∧
  ∃a8:Addr,At v13 at1 1 a8 ∧
  ∃v14:Int,wl1.cell? a8=some (vi v14) ∧
  ∀(p5:Addr) (w11:World),New wl1 (.cells #[(vi 0)] 78) p5 w11 →
  CanW w11 p5∧¬ Hl1 p5.block∧∀w12:World,w12=w11.setCell p5 (vi v14) →
  ∃C3:WP,C3 w12.drew∧∀w17,w17=w12.drew →
  ∃v19:Option Addr,(∀w',C3 w'→w'.cell? p1=some (vp v19)) ∧
  ∃a10:Addr,v19=some a10 ∧
  ∃v20:Option Addr,(∀w',C3 w'→w'.cell? a10=some (vp v20)) ∧
  ∃v21:Int,(∀w',C3 w'→w'.cell? p5=some (vi v21)) ∧
  (Calls Tryz.prog 102 #[(vp v20),(vi v21)] w17 (fun e w18=>∃aA aC:Int,∃aD aF:Int,∃aG:ByteArray,∃aB aE:Int,∃r1:Bool,e=.returned (.tuple #[(.agg #[(vi aA),(vi aC),(vi aD),(vu aF),(vs aG),(vi aB),(vi aE)]),(vb r1)])∧C3 w18∧
   Kept Hl1 w17 w18 ∧
   ∀(p6:Addr) (w19:World),New w18 (.cells #[(vi 0),(vi 0),(vi 0),(vu 0),(vs ⟨#[]⟩),(vi 0),(vi 0)] 176) p6 w19→C3 w19 ∧
   (∀j,j<7→CanW w19 (p6.add j))∧¬ Hl1 p6.block∧∀w20:World,w20=storeRow w19 p6 [(vi aA),(vi aC),(vi aD),(vu aF),(vs aG),(vi aB),(vi aE)]→C3 w20 ∧
   m_O_j2 p1 at1 p5 p6 w0 Hl1 w20 Kc1 K)) ∧
  (∀(p7:Addr) (w21:World),New w17 (.cells #[(vi 0),(vi 0),(vi 0),(vu 0),(vs ⟨#[]⟩),(vi 0),(vi 0)] 176) p7 w21→C3 w21 ∧
  Calls Tryz.prog 102 #[(vp v20),(vi v21)] w21 (fun e w22=>∃aP aQ:Int,∃aR aS:Int,∃aT:ByteArray,∃aU aV:Int,∃r2:Bool,e=.returned (.tuple #[(.agg #[(vi aP),(vi aQ),(vi aR),(vu aS),(vs aT),(vi aU),(vi aV)]),(vb r2)])∧C3 w22∧
   Kept Hl1 w21 w22 ∧
   (∀j,j<7→CanW w22 (p7.add j))∧¬ Hl1 p7.block∧∀w23:World,w23=storeRow w22 p7 [(vi aP),(vi aQ),(vi aR),(vu aS),(vs aT),(vi aU),(vi aV)]→C3 w23 ∧
   m_O_j2 p1 at1 p5 p7 w0 Hl1 w23 Kc1 K)))
  (K wl1)
def m_O (k1:Option Addr) (t1 wrule1 wfrom1:Int) (w0:World) (K:WP):Prop :=
 ∀(p1:Addr) (w1:World),New w0 (.cells #[(vp k1)] 125) p1 w1 →
 ∀(H1:NP) (w2:World),Hst w0 None w1 H1 w2 →
 ∃v1:Option Addr,w2.cell? p1=some (vp v1) ∧
 ∃a1:Addr,v1=some a1 ∧
 ∃v2:Option Nat,w2.cell? (a1.add 2)=some (.map v2) ∧
 ∃vrule1 vfrom1:Int,∃ok1:Bool,(Instr.lookup 210 (.map v2) (vi t1) true).run Tryz.prog w2=.ok (.tuple #[(.agg #[(vi vrule1),(vi vfrom1)]),(vb ok1)]) w2 ∧
 Br ok1
  (∀(H2:NP) (w4:World),Hst w0 H1 w2 H2 w4 →
  K w4)
  (∀(H2:NP) (w4:World),Hst w0 H1 w2 H2 w4 →
  ∃C1:WP,C1 w4.drew∧∀w5,w5=w4.drew →
  ∃v3:Option Addr,(∀w',C1 w'→w'.cell? p1=some (vp v3)) ∧
  ∃a2:Addr,v3=some a2 ∧
  ∃v4:Option Nat,(∀w',C1 w'→w'.cell? (a2.add 2)=some (.map v4)) ∧
  ∃w6:World,(Instr.mapUpdate 210 (.map v4) (vi t1) (.agg #[(vi wrule1),(vi wfrom1)])).run Tryz.prog w5=.ok () w6 ∧
  Kept H2 w5 w6 ∧
  ∃v5:Option Addr,w6.cell? p1=some (vp v5) ∧
  ∃a3:Addr,v5=some a3 ∧
  ∃v6:Sl,w6.cell? (a3.add 3)=some v6.v ∧
  ∃C2:WP,C2 w6.drew∧∀w7,w7=w6.drew →
  ∃v7:Option Addr,(∀w',C2 w'→w'.cell? p1=some (vp v7)) ∧
  ∃v8:Option Addr,(∀w',C2 w'→w'.cell? p1=some (vp v8)) ∧
  ∃a4:Addr,v8=some a4 ∧
  ∃v9:Sl,(∀w',C2 w'→w'.cell? (a4.add 3)=some v9.v) ∧
  ∀(p4:Addr) (w8:World),New w7 (.cells #[(vi t1)] 78) p4 w8→C2 w8 ∧
  ∃s1:Sl,∃w9:World,(Builtin.append_ #[46,46] 46 #[v9.v,(Sl.mk (some p4) 1 1).v]).run Tryz.prog w8=.ok s1.v w9∧C2 w9 ∧
  Kept H2 w8 w9 ∧
  ∃a5:Addr,v7=some a5 ∧
  CanW w9 (a5.add 3)∧¬ H2 (a5.add 3).block∧∀w10:World,w10=w9.setCell (a5.add 3) s1.v →
  ∃(I1:Int→NP→WP) (mu1:Int→World→Nat),I1 (v6.len:Int) H2 w10 ∧
   ∀(at1:Int) (Hl1:NP) (wl1:World),Hst w0 Hl1 wl1 Hl1 wl1→I1 at1 Hl1 wl1→m_O_l1 p1 at1 w0 Hl1 wl1 (fun y'0 H' w'=>I1 y'0 H' w'∧mu1 y'0 w'<mu1 at1 wl1) K)
theorem w_O (k1 : Option Addr) (t1 wrule1 wfrom1 : Int) (w0 : World) (K : WP) (h : m_O k1 t1 wrule1 wfrom1 w0 K) :
  Calls Tryz.prog 151 #[(vp k1),(vi t1),(.agg #[(vi wrule1),(vi wfrom1)])] w0 (fun e w'=>e=.returned (.tuple #[])∧K  w'):=by
 unfold m_O at h
 refine cw (args:=[(vp k1),(vi t1),(.agg #[(vi wrule1),(vi wfrom1)])]) Tryz.func151 Tryz.ntmps151 ?_
 have hs:=Hst.start w0
 have hb:=HB.nil None w0
 refine eg (sn (O:=(.cells #[(vp k1)] 125)) xb ?_)
 intro p1 w1 hn12
 have h:=h p1 w1 hn12
 have hs:=hs.again (Ext.new (F:=None) hn12).keptP
 have hb:=hb.kept (Ext.new (F:=None) hn12).keptP
 refine sn (O:=(.cells #[(vi wrule1),(vi wfrom1)] 235)) xb ?_
 intro p2 w2 hn1
 obtain ⟨H1,hs,hb⟩:=hs.alloc hb hn1
 refine ln (wpE_seq (eg ?_))
 have h:=h H1 w2 hs
 have hs:=hs.here
 obtain ⟨v1,hv25,h⟩:=h
 refine q2 (vp v1) (xl (Tryz.isAgg125 _) hv25) ?_
 obtain ⟨a1,hp1,h⟩:=h
 refine q2 (vp (some a1)) (x_nilCheck (p:=v1) (by kernel_rfl) hp1) (q0 (vp (some (a1.add 2))) ?_)
 obtain ⟨v2,hv24,h⟩:=h
 refine q2 (.map v2) (xl (Tryz.isAgg210 _) hv24) (q0 (vi t1) ?_)
 obtain ⟨vrule1,vfrom1,ok1,hv23,h⟩:=h
 refine q2 (.tuple #[(.agg #[(vi vrule1),(vi vfrom1)]),(vb ok1)]) (x_lookup (by kernel_rfl) (by kernel_rfl) hv23) (q0 (.tuple #[(.agg #[(vi vrule1),(vi vfrom1)]),(vb ok1)]) (q0 (.agg #[(vi vrule1),(vi vfrom1)]) (q0 (vb ok1) (sn (O:=(.cells #[(vi 0),(vi 0)] 235)) (x_alloc (Tryz.zeroValue235 _) rfl) ?_))))
 intro p3 w3 hn2
 obtain ⟨H2,hs,hb⟩:=hs.alloc hb hn2
 refine st_set (want0 rfl) (xo p3 [(vi vrule1),(vi vfrom1)] (Tryz.sizeOf235 _) (hb.k0 0 2 gZ)) ?_
 intro w4 hn3
 obtain ⟨hs,hb⟩:=hb.s0 (l':=[(p3,[(vi vrule1),(vi vfrom1)],235),(p2,[(vi wrule1),(vi wfrom1)],235)]) 0 [(vi vrule1),(vi vfrom1)] hs hn3 gZ
 refine q0 (vb ok1) (ln (eg (q0 (vb ok1) (ln ?_))))
 refine wpE_cond (t:=ok1) (by kernel_rfl) (fun hc1=>?_) (fun hc1=>?_)
 have h:=h.1 hc1
 refine er (th_r ?_)
 have h:=h H2 w4 hs
 have hs:=hs.here
 refine res0 (.inl rfl) Tryz.results151 ?_
 exact ⟨rfl,h⟩
 have h:=h.2 hc1
 refine wpE_skip (th_n (wpE_seq ?_))
 have h:=h H2 w4 hs
 have hs:=hs.here
 obtain ⟨C1,hC,h⟩:=h
 refine wpE_drawnC (fun x=>C1 x∧HB H2 x [(p3,[(vi vrule1),(vi vfrom1)],235),(p2,[(vi wrule1),(vi wfrom1)],235)]) [6] [6] (by kernel_rfl) (by kernel_rfl) (by kernel_rfl) (by kernel_rfl) ⟨hC,hb.drew⟩ ?_
 intro w5 hw5
 have h:=h w5 hw5
 have hs:Hst w0 H2 w4 H2 w5:=by rw [hw5];exact hs.drew
 have hb:HB H2 w5 [(p3,[(vi vrule1),(vi vfrom1)],235),(p2,[(vi wrule1),(vi wfrom1)],235)]:=by rw [hw5];exact hb.drew
 have hs:=hs.here
 refine qg 0 ?_
 obtain ⟨v3,hv22,h⟩:=h
 refine sy (v:=(vp v3)) Kp0 (fun w' hw'=>(xl (Tryz.isAgg125 _) (hv22 w' hw'.1))) (qg 1 ?_)
 obtain ⟨a2,hp2,h⟩:=h
 refine sy (v:=(vp (some a2))) Kp1 (fun _ _=>(x_nilCheck (p:=v3) (by kernel_rfl) hp2)) (qx 2 (vp (some (a2.add 2))) Kp2 (qg 3 ?_))
 obtain ⟨v4,hv21,h⟩:=h
 refine sy (v:=(.map v4)) Kp3 (fun w' hw'=>(xl (Tryz.isAgg210 _) (hv21 w' hw'.1))) (qx 4 (vi t1) Kp4 (qz 5 (.agg #[(vi wrule1),(vi wfrom1)]) Kp5 (fun w' hw'=>(xa p2 [(vi wrule1),(vi wfrom1)] (Tryz.isAgg235 _) (Tryz.sizeOf235 _) (hw'.2.r0 1 2 (gS gZ)))) (lg 6 ?_)))
 obtain ⟨w6,hv20,hk,h⟩:=h
 refine sl_skip Kp6 (want0 rfl) (by kernel_rfl) (x_mapUpdate (by kernel_rfl) (by kernel_rfl) (by kernel_rfl) hv20) (.inl (by kernel_rfl)) ?_
 obtain ⟨hs,hb⟩:=hk.hh hs hb
 refine wn (th_n (eg ?_))
 obtain ⟨v5,hv19,h⟩:=h
 refine q2 (vp v5) (xl (Tryz.isAgg125 _) hv19) ?_
 obtain ⟨a3,hp3,h⟩:=h
 refine q2 (vp (some a3)) (x_nilCheck (p:=v5) (by kernel_rfl) hp3) (q0 (vp (some (a3.add 3))) ?_)
 obtain ⟨v6,hv18,h⟩:=h
 refine q2 v6.v (xl (Tryz.isAgg46 _) hv18) (q0 (vi (v6.len:Int)) (q0 (vi (v6.len:Int)) (ln (wpE_seq ?_))))
 obtain ⟨C2,hC,h⟩:=h
 refine wpE_drawnC (fun x=>C2 x∧HB H2 x [(p3,[(vi vrule1),(vi vfrom1)],235),(p2,[(vi wrule1),(vi wfrom1)],235)]) [6,7,10] [10] (by kernel_rfl) (by kernel_rfl) (by kernel_rfl) (by kernel_rfl) ⟨hC,hb.drew⟩ ?_
 intro w7 hw7
 have h:=h w7 hw7
 have hs:Hst w0 H2 w6 H2 w7:=by rw [hw7];exact hs.drew
 have hb:HB H2 w7 [(p3,[(vi vrule1),(vi vfrom1)],235),(p2,[(vi wrule1),(vi wfrom1)],235)]:=by rw [hw7];exact hb.drew
 have hs:=hs.here
 refine qg 0 ?_
 obtain ⟨v7,hv17,h⟩:=h
 refine sy (v:=(vp v7)) Kp0 (fun w' hw'=>(xl (Tryz.isAgg125 _) (hv17 w' hw'.1))) (qg 1 ?_)
 obtain ⟨v8,hv16,h⟩:=h
 refine sy (v:=(vp v8)) Kp1 (fun w' hw'=>(xl (Tryz.isAgg125 _) (hv16 w' hw'.1))) (qg 2 ?_)
 obtain ⟨a4,hp4,h⟩:=h
 refine sy (v:=(vp (some a4))) Kp2 (fun _ _=>(x_nilCheck (p:=v8) (by kernel_rfl) hp4)) (qx 3 (vp (some (a4.add 3))) Kp3 (qg 4 ?_))
 obtain ⟨v9,hv15,h⟩:=h
 refine sy (v:=v9.v) Kp4 (fun w' hw'=>(xl (Tryz.isAgg46 _) (hv15 w' hw'.1))) (qx 5 (vi t1) Kp5 (lg 6 (sl_new (O:=(.cells #[(vi t1)] 78)) (fun p=>(Sl.mk (some p) 1 1).v) Kp6 (want0 rfl) (by kernel_rfl) (x_buildSlice (vs:=#[(0,(vi t1))]) (by kernel_rfl) (by kernel_rfl)) ?_)))
 intro p4 w8 hn11
 have h:=h p4 w8 hn11
 refine ⟨.inr ⟨h.1,hb.kept (Ext.new (F:=None) hn11).keptP⟩,?_⟩
 have h:=h.2
 have hs:=hs.again (Ext.new (F:=None) hn11).keptP
 have hb:=hb.kept (Ext.new (F:=None) hn11).keptP
 refine lg 7 ?_
 obtain ⟨s1,w9,hv14,hC,hk,h⟩:=h
 refine sl (v:=s1.v) Kp7 (want0 rfl) (by kernel_rfl) (x_builtin (args:=#[v9.v,(Sl.mk (some p4) 1 1).v]) (by kernel_rfl) (fun _=>rfl) hv14) (.inr ⟨hC,hb.kept hk⟩) ?_
 obtain ⟨hs,hb⟩:=hk.hh hs hb
 refine qg 8 ?_
 obtain ⟨a5,hp5,h⟩:=h
 refine sy (v:=(vp (some a5))) Kp8 (fun _ _=>(x_nilCheck (p:=v7) (by kernel_rfl) hp5)) (qx 9 (vp (some (a5.add 3))) Kp9 (lg 10 ?_))
 obtain ⟨hp6,hnh,h⟩:=h
 refine sl_t (pickA (S8 (pickS (pickS pickZ)))) (xs (v:=s1.v) (Tryz.sizeOf46 _) hp6) ?_
 intro w10 hn4
 have h:=h w10 hn4
 refine ⟨.inl (by kernel_rfl),?_⟩
 have hk:=Kept.sc hnh hn4
 obtain ⟨hs,hb⟩:=hk.hh hs hb
 refine wn (th_n (wpE_block ?_))
 obtain ⟨I1,mu1,h0,hr⟩:=h
 refine wpE_loop (σ:=Int×NP×World) (fun s ρ w=>w=s.2.2∧Has ρ [(3,(vp (some p1))),(8,(vi s.1))]∧Hst w0 s.2.1 w s.2.1 w∧HB s.2.1 w [(p3,[(vi vrule1),(vi vfrom1)],235),(p2,[(vi wrule1),(vi wfrom1)],235)]∧I1 s.1 s.2.1 s.2.2) (fun s=>mu1 s.1 s.2.2) ((v6.len:Int),H2,w10) ⟨rfl,hm,hs,hb,h0⟩ ?_
 rintro ⟨at1,Hl1,wl1⟩ ρ w ⟨hw,hH,hs,hb,hI⟩
 obtain rfl:wl1=w:=(show w=wl1 from hw).symm
 have hH:Has ρ [(3,(vp (some p1))),(8,(vi at1))]:=hH
 have hs:Hst w0 Hl1 wl1 Hl1 wl1:=hs
 have hb:HB Hl1 wl1 [(p3,[(vi vrule1),(vi vfrom1)],235),(p2,[(vi wrule1),(vi wfrom1)],235)]:=hb
 have h:=hr at1 Hl1 wl1 hs hI
 unfold m_O_l1 at h
 refine wpE_has hH ?_
 refine wpE_seq (eg (q0 (vi at1) ?_))
 obtain ⟨v10,hv13,h⟩:=h
 refine q2 (vp v10) (xl (Tryz.isAgg125 _) hv13) ?_
 obtain ⟨a6,hp7,h⟩:=h
 refine q2 (vp (some a6)) (x_nilCheck (p:=v10) (by kernel_rfl) hp7) (q0 (vp (some (a6.add 3))) ?_)
 obtain ⟨v11,hv12,h⟩:=h
 refine q2 v11.v (xl (Tryz.isAgg46 _) hv12) (q0 (vi (v11.len:Int)) (q0 (vb (decide (at1<(v11.len:Int)))) (ln ?_)))
 refine wpE_cond (t:=(decide (at1<(v11.len:Int)))) (by kernel_rfl) (fun hc2=>?_) (fun hc2=>?_)
 have h:=h.1 hc2
 refine wpE_skip (th_n (wpE_seq (wpE_block (eg ?_))))
 obtain ⟨v12,hv11,h⟩:=h
 refine q2 (vp v12) (xl (Tryz.isAgg125 _) hv11) ?_
 obtain ⟨a7,hp8,h⟩:=h
 refine q2 (vp (some a7)) (x_nilCheck (p:=v12) (by kernel_rfl) hp8) (q0 (vp (some (a7.add 3))) ?_)
 obtain ⟨v13,hv10,h⟩:=h
 refine q2 v13.v (xl (Tryz.isAgg46 _) hv10) (q0 (vi at1) ?_)
 obtain ⟨a8,hv9,h⟩:=h
 refine q2 (vp (some a8)) (xi (Tryz.runUnderlying46 _) (Tryz.sizeOf78 _) hv9) ?_
 obtain ⟨v14,hv8,h⟩:=h
 refine q2 (vi v14) (xl (Tryz.isAgg78 _) hv8) (sn (O:=(.cells #[(vi 0)] 78)) (x_alloc (Tryz.zeroValue78 _) rfl) ?_)
 intro p5 w11 hn10
 have h:=h p5 w11 hn10
 have hs:=hs.again (Ext.new (F:=None) hn10).keptP
 have hb:=hb.kept (Ext.new (F:=None) hn10).keptP
 obtain ⟨hp9,hnh,h⟩:=h
 refine st_set (want0 rfl) (x_store (a:=p5) (v:=(vi v14)) (by kernel_rfl) (by kernel_rfl) rfl (Tryz.sizeOf78 _) hp9) ?_
 intro w12 hn5
 have h:=h w12 hn5
 have hk:=Kept.sc hnh hn5
 obtain ⟨hs,hb⟩:=hk.hh hs hb
 refine ln (wpE_seq ?_)
 refine wpE_joinT (fun ρ w=>∃a9:Addr,∃H:NP,Has ρ [(3,(vp (some p1))),(8,(vi at1)),(9,(vp (some p5))),(10,(vp (some a9)))]∧Hst w0 H w H w∧HB H w [(p3,[(vi vrule1),(vi vfrom1)],235),(p2,[(vi wrule1),(vi wfrom1)],235)]∧m_O_j2 p1 at1 p5 a9 w0 H w (fun y'0 H' w'=>I1 y'0 H' w'∧mu1 y'0 w'<mu1 at1 wl1) K) ?_ ?_
 rintro ρ w ⟨a9,H,hH,hs,hb,h⟩
 unfold m_O_j2 at h
 refine wpE_has hH ?_
 refine eg (q0 (.func (.func 205) #[] #[(vp (some p1)),(vp (some p5))]) (q0 (.func (.func 205) #[] #[(vp (some p1)),(vp (some p5))]) (ln (eg (q0 (vp (some a9)) ?_)))))
 obtain ⟨v15,hv4,h⟩:=h
 refine q2 (vi v15) (xl (Tryz.isAgg3 _) hv4) (ln (wpE_block (eg (q0 (vb (v15 == 4)) (q0 (vb (v15 == 4)) (ln ?_))))))
 refine wpE_cond (t:=(v15 == 4)) (by kernel_rfl) (fun hc3=>?_) (fun hc3=>?_)
 have h:=h.1 hc3
 refine eg (q0 (.func (.func 205) #[] #[(vp (some p1)),(vp (some p5))]) (q0 (vp (some (a9.add 5))) ?_))
 obtain ⟨v16,hv2,h⟩:=h
 refine q2 (vi v16) (xl (Tryz.isAgg78 _) hv2) ?_
 refine st_call (want0 rfl) (x_callm (fs:=#[]) (caps:=#[(vp (some p1)),(vp (some p5))]) (args:=#[(vi v16),(vi 1)]) (args':=#[(vi v16),(vi 1),(vp (some p1)),(vp (some p5))]) (by kernel_rfl) Tryz.call205 (by kernel_rfl) (by kernel_rfl)) (h.mono ?_)
 rintro e w13 ⟨rfl,hk,h⟩
 refine ⟨_,rfl,?_⟩
 obtain ⟨hs,hb⟩:=hk.hh hs hb
 refine ln (rg (q0 (.func (.func 205) #[] #[(vp (some p1)),(vp (some p5))]) (q0 (vp (some (a9.add 6))) ?_)))
 obtain ⟨v17,hv1,h⟩:=h
 refine q2 (vi v17) (xl (Tryz.isAgg78 _) hv1) ?_
 refine st_call (want0 rfl) (x_callm (fs:=#[]) (caps:=#[(vp (some p1)),(vp (some p5))]) (args:=#[(vi v17),(vi 2)]) (args':=#[(vi v17),(vi 2),(vp (some p1)),(vp (some p5))]) (by kernel_rfl) Tryz.call205 (by kernel_rfl) (by kernel_rfl)) (h.mono ?_)
 rintro e w14 ⟨rfl,hk,h⟩
 refine ⟨_,rfl,?_⟩
 obtain ⟨hs,hb⟩:=hk.hh hs hb
 refine wpL_nil (bl_n (bl_n (th_n (rg (q0 (vi at1) (q0 (vi (q6.wrap (at1+1))) (q0 (vi (q6.wrap (at1+1))) (ln ?_))))))))
 exact ⟨((q6.wrap (at1+1)),H,w14),⟨rfl,hm,hs,hb,h.1⟩,h.2⟩
 have h:=h.2 hc3
 refine wpE_seq (eg (q0 (vb (v15 == 7)) (q0 (vb (v15 == 7)) (ln ?_))))
 refine wpE_via (fun ρ wJ=>∃b1'0 b1'1 y1:Bool,∃HJ:NP,((v15 == 7)=b1'0)∧((v15 == 8)=b1'1)∧(y1=(cond b1'0 (v15 == 7) (cond b1'1 (v15 == 8) (v15 == 9))))∧Hst w0 H w HJ wJ∧HB HJ wJ [(p3,[(vi vrule1),(vi vfrom1)],235),(p2,[(vi wrule1),(vi wfrom1)],235)]∧Has ρ [(3,(vp (some p1))),(8,(vi at1)),(10,(vp (some a9))),(12,(.func (.func 205) #[] #[(vp (some p1)),(vp (some p5))])),(82,(vb y1))]) ?_ ?_
 refine wpE_cond (t:=(v15 == 7)) (by kernel_rfl) (fun hc6=>?_) (fun hc6=>?_)
 refine wpE_skip (th_n ?_)
 exact ⟨true,_,_,_,hc6,rfl,rfl,hs,hb,hm⟩
 refine eg (q0 (vb (v15 == 8)) (q0 (vb (v15 == 8)) (ln ?_)))
 refine wpE_cond (t:=(v15 == 8)) (by kernel_rfl) (fun hc7=>?_) (fun hc7=>?_)
 refine wpE_skip (th_n ?_)
 exact ⟨false,true,_,_,hc6,hc7,rfl,hs,hb,hm⟩
 refine rg (q0 (vb (v15 == 9)) (q0 (vb (v15 == 9)) (ln ?_)))
 exact ⟨false,false,_,_,hc6,hc7,rfl,hs,hb,hm⟩
 rintro ρ w15 ⟨b1'0,b1'1,y1,H3,he0,he1,hy1,hs,hb,hH⟩
 subst he0
 subst he1
 have h:=h y1 hy1
 refine norm_has hH ?_
 refine th_n ?_
 refine wpE_cond (t:=y1) (by kernel_rfl) (fun hc8=>?_) (fun hc8=>?_)
 have h:=h.1 hc8
 refine rg (q0 (.func (.func 205) #[] #[(vp (some p1)),(vp (some p5))]) (q0 (vp (some (a9.add 5))) ?_))
 have h:=h H3 w15 hs
 have hs:=hs.here
 obtain ⟨v18,hv3,h⟩:=h
 refine q2 (vi v18) (xl (Tryz.isAgg78 _) hv3) ?_
 refine st_call (want0 rfl) (x_callm (fs:=#[]) (caps:=#[(vp (some p1)),(vp (some p5))]) (args:=#[(vi v18),(vi 3)]) (args':=#[(vi v18),(vi 3),(vp (some p1)),(vp (some p5))]) (by kernel_rfl) Tryz.call205 (by kernel_rfl) (by kernel_rfl)) (h.mono ?_)
 rintro e w16 ⟨rfl,hk,h⟩
 refine ⟨_,rfl,?_⟩
 obtain ⟨hs,hb⟩:=hk.hh hs hb
 refine wpL_nil (bl_n (bl_n (th_n (rg (q0 (vi at1) (q0 (vi (q6.wrap (at1+1))) (q0 (vi (q6.wrap (at1+1))) (ln ?_))))))))
 exact ⟨((q6.wrap (at1+1)),H3,w16),⟨rfl,hm,hs,hb,h.1⟩,h.2⟩
 have h:=h.2 hc8
 refine wpE_skip (bl_n (bl_n (th_n (rg (q0 (vi at1) (q0 (vi (q6.wrap (at1+1))) (q0 (vi (q6.wrap (at1+1))) (wpL_nil ?_))))))))
 have h:=h H3 w15 hs
 have hs:=hs.here
 refine th_n ?_
 exact ⟨((q6.wrap (at1+1)),H3,w15),⟨rfl,hm,hs,hb,h.1⟩,h.2⟩
 obtain ⟨C3,hC,h⟩:=h
 refine wpE_drawnC (fun x=>C3 x∧HB Hl1 x [(p3,[(vi vrule1),(vi vfrom1)],235),(p2,[(vi wrule1),(vi wfrom1)],235)]) [5,9,10] [] (by kernel_rfl) (by kernel_rfl) (by kernel_rfl) (by kernel_rfl) ⟨hC,hb.drew⟩ ?_
 intro w17 hw17
 have h:=h w17 hw17
 have hs:Hst w0 Hl1 w12 Hl1 w17:=by rw [hw17];exact hs.drew
 have hb:HB Hl1 w17 [(p3,[(vi vrule1),(vi vfrom1)],235),(p2,[(vi wrule1),(vi wfrom1)],235)]:=by rw [hw17];exact hb.drew
 have hs:=hs.here
 refine qg 0 ?_
 obtain ⟨v19,hv7,h⟩:=h
 refine sy (v:=(vp v19)) Kp0 (fun w' hw'=>(xl (Tryz.isAgg125 _) (hv7 w' hw'.1))) (qg 1 ?_)
 obtain ⟨a10,hp10,h⟩:=h
 refine sy (v:=(vp (some a10))) Kp1 (fun _ _=>(x_nilCheck (p:=v19) (by kernel_rfl) hp10)) (qx 2 (vp (some a10)) Kp2 (qg 3 ?_))
 obtain ⟨v20,hv6,h⟩:=h
 refine sy (v:=(vp v20)) Kp3 (fun w' hw'=>(xl (Tryz.isAgg68 _) (hv6 w' hw'.1))) (qg 4 ?_)
 obtain ⟨v21,hv5,h⟩:=h
 refine sy (v:=(vi v21)) Kp4 (fun w' hw'=>(xl (Tryz.isAgg78 _) (hv5 w' hw'.1))) ?_
 refine lgo2 (k:=5) (k':=9) (by kernel_rfl) ?_ ?_
 have h:=h.1
 refine sl_call Kp5 (want0 rfl) (by kernel_rfl) (xc Tryz.call102) (h.mono ?_)
 rintro e w18 ⟨aA,aC,aD,aF,aG,aB,aE,r1,rfl,hC,hk,h⟩
 refine ⟨_,rfl,.inr ⟨hC,hb.kept hk⟩,?_⟩
 obtain ⟨hs,hb⟩:=hk.hh hs hb
 refine qx 6 (.tuple #[(.agg #[(vi aA),(vi aC),(vi aD),(vu aF),(vs aG),(vi aB),(vi aE)]),(vb r1)]) Kp6 (qx 7 (.agg #[(vi aA),(vi aC),(vi aD),(vu aF),(vs aG),(vi aB),(vi aE)]) Kp7 (qx 8 (vb r1) Kp8 (lg 9 (sl_new (O:=(.cells #[(vi 0),(vi 0),(vi 0),(vu 0),(vs ⟨#[]⟩),(vi 0),(vi 0)] 176)) (fun p=>.pointer (some p)) Kp9 (want0 rfl) (by kernel_rfl) (x_alloc (Tryz.zeroValue176 _) rfl) ?_))))
 intro p6 w19 hn7
 have h:=h p6 w19 hn7
 refine ⟨.inr ⟨h.1,hb.kept (Ext.new (F:=None) hn7).keptP⟩,?_⟩
 have h:=h.2
 have hs:=hs.again (Ext.new (F:=None) hn7).keptP
 have hb:=hb.kept (Ext.new (F:=None) hn7).keptP
 refine lg 10 ?_
 obtain ⟨hp11,hnh,h⟩:=h
 refine sl_set (pickA (S8 (pickS (pickS pickZ)))) (want0 rfl) (by kernel_rfl) (xo p6 [(vi aA),(vi aC),(vi aD),(vu aF),(vs aG),(vi aB),(vi aE)] (Tryz.sizeOf176 _) hp11) ?_
 intro w20 hn6
 have h:=h w20 hn6
 refine ⟨.inr ⟨h.1,hb.kept (by rw [hn6];exact Kept.storeRow hnh)⟩,?_⟩
 have h:=h.2
 have hk:Kept Hl1 w19 w20:=by rw [hn6];exact Kept.storeRow hnh
 obtain ⟨hs,hb⟩:=hk.hh hs hb
 refine qx 11 (vb r1) (pickA (S8 (pickS (pickS (pickS pickZ))))) (wn (th_n ?_))
 exact ⟨p6,Hl1,hm,hs,hb,h⟩
 have h:=h.2
 refine sl_new (O:=(.cells #[(vi 0),(vi 0),(vi 0),(vu 0),(vs ⟨#[]⟩),(vi 0),(vi 0)] 176)) (fun p=>.pointer (some p)) Kp9 (want0 rfl) (by kernel_rfl) (x_alloc (Tryz.zeroValue176 _) rfl) ?_
 intro p7 w21 hn9
 have h:=h p7 w21 hn9
 refine ⟨.inr ⟨h.1,hb.kept (Ext.new (F:=None) hn9).keptP⟩,?_⟩
 have h:=h.2
 have hs:=hs.again (Ext.new (F:=None) hn9).keptP
 have hb:=hb.kept (Ext.new (F:=None) hn9).keptP
 refine lg 5 ?_
 refine sl_call Kp5 (want0 rfl) (by kernel_rfl) (xc Tryz.call102) (h.mono ?_)
 rintro e w22 ⟨aP,aQ,aR,aS,aT,aU,aV,r2,rfl,hC,hk,h⟩
 refine ⟨_,rfl,.inr ⟨hC,hb.kept hk⟩,?_⟩
 obtain ⟨hs,hb⟩:=hk.hh hs hb
 refine qx 6 (.tuple #[(.agg #[(vi aP),(vi aQ),(vi aR),(vu aS),(vs aT),(vi aU),(vi aV)]),(vb r2)]) Kp6 (qx 7 (.agg #[(vi aP),(vi aQ),(vi aR),(vu aS),(vs aT),(vi aU),(vi aV)]) Kp7 (qx 8 (vb r2) Kp8 (lg 10 ?_)))
 obtain ⟨hp12,hnh,h⟩:=h
 refine sl_set (pickA (S8 (pickS (pickS pickZ)))) (want0 rfl) (by kernel_rfl) (xo p7 [(vi aP),(vi aQ),(vi aR),(vu aS),(vs aT),(vi aU),(vi aV)] (Tryz.sizeOf176 _) hp12) ?_
 intro w23 hn8
 have h:=h w23 hn8
 refine ⟨.inr ⟨h.1,hb.kept (by rw [hn8];exact Kept.storeRow hnh)⟩,?_⟩
 have h:=h.2
 have hk:Kept Hl1 w22 w23:=by rw [hn8];exact Kept.storeRow hnh
 obtain ⟨hs,hb⟩:=hk.hh hs hb
 refine qx 11 (vb r2) (pickA (S8 (pickS (pickS (pickS pickZ))))) (wn (th_n ?_))
 exact ⟨p7,Hl1,hm,hs,hb,h⟩
 have h:=h.2 hc2
 refine wpE_exit (th_x (th_x (bl_eq (res0 (.inr rfl) Tryz.results151 ?_))))
 exact ⟨rfl,h⟩
def m_D2 (k1:Option Addr) (t1:Int) (w0:World) (K:Int→WP):Prop :=
 Br (Option.isNone k1)
  (K 7 w0)
  (∃a1:Addr,k1=some a1 ∧
  ∃v1:Option Addr,w0.cell? a1=some (vp v1) ∧
  Calls Tryz.prog 102 #[(vp v1),(vi t1)] w0 (fun e w1=>∃aA aC:Int,∃aD aF:Int,∃aG:ByteArray,∃aB aE:Int,∃r1:Bool,e=.returned (.tuple #[(.agg #[(vi aA),(vi aC),(vi aD),(vu aF),(vs aG),(vi aB),(vi aE)]),(vb r1)])∧
   Kept None w0 w1 ∧
   Br (!r1)
    (∀(H1:NP) (w3:World),Hst w0 None w1 H1 w3 →
    K 51 w3)
    (∃a2:Addr,k1=some a2 ∧
    ∀(H1:NP) (w3:World),Hst w0 None w1 H1 w3 →
    ∃v2:Sl,w3.cell? (a2.add 1)=some v2.v ∧
    Calls Tryz.prog 150 #[v2.v,(vi t1)] w3 (fun e w4=>∃r2:Bool,e=.returned (vb r2)∧
     Kept H1 w3 w4 ∧
     Br (!r2)
      (∃a3:Addr,k1=some a3 ∧
      ∃v3:Sl,w4.cell? (a3.add 1)=some v3.v ∧
      ∀(p2:Addr) (w5:World),New w4 (.cells #[(vi t1)] 78) p2 w5 →
      ∃s1:Sl,∃w6:World,(Builtin.append_ #[46,46] 46 #[v3.v,(Sl.mk (some p2) 1 1).v]).run Tryz.prog w5=.ok s1.v w6 ∧
      Kept H1 w5 w6 ∧
      ∃a4:Addr,k1=some a4 ∧
      CanW w6 (a4.add 1)∧¬ H1 (a4.add 1).block∧∀w7:World,w7=w6.setCell (a4.add 1) s1.v →
      Calls Tryz.prog 151 #[(vp k1),(vi t1),(.agg #[(vi 0),(vi 0)])] w7 (fun e w8=>e=.returned (.tuple #[])∧
       Kept H1 w7 w8 ∧
       K 0 w8))
      (Calls Tryz.prog 151 #[(vp k1),(vi t1),(.agg #[(vi 0),(vi 0)])] w4 (fun e w9=>e=.returned (.tuple #[])∧
       Kept H1 w4 w9 ∧
       K 0 w9))))))
theorem w_D2 (k1 : Option Addr) (t1 : Int) (w0 : World) (K : Int → WP) (h : m_D2 k1 t1 w0 K) :
  Calls Tryz.prog 79 #[(vp k1),(vi t1)] w0 (fun e w'=>∃r3:Int,e=.returned (vi r3)∧K r3 w'):=by
 unfold m_D2 at h
 refine cw (args:=[(vp k1),(vi t1)]) Tryz.func79 Tryz.ntmps79 ?_
 have hs:=Hst.start w0
 have hb:=HB.nil None w0
 refine eg (q0 (vi 0) (ln (wpE_seq (eg (q0 (vp k1) (q2 (vb (Option.isNone k1)) (x_ptreq (by kernel_rfl) rfl Tryz.underlying125) (ln ?_)))))))
 refine wpE_cond (t:=(Option.isNone k1)) (by kernel_rfl) (fun hc1=>?_) (fun hc1=>?_)
 have h:=h.1 hc1
 refine eg (q0 (vi 7) (ln (er (th_r (rs1 Tryz.results79 (v:=(vi 7)) ?_)))))
 exact ⟨7,rfl,h⟩
 have h:=h.2 hc1
 refine wpE_skip (th_n (wpE_seq (eg (q0 (vp k1) ?_))))
 obtain ⟨a1,hp1,h⟩:=h
 refine q2 (vp (some a1)) (x_nilCheck (p:=k1) (by kernel_rfl) hp1) (q0 (vp (some a1)) ?_)
 obtain ⟨v1,hv4,h⟩:=h
 refine q2 (vp v1) (xl (Tryz.isAgg68 _) hv4) (q0 (vi t1) ?_)
 refine sc Tryz.call102 (h.mono ?_)
 rintro e w1 ⟨aA,aC,aD,aF,aG,aB,aE,r1,rfl,hk,h⟩
 refine ⟨_,rfl,?_⟩
 obtain ⟨hs,hb⟩:=hk.hh hs hb
 refine q0 (.tuple #[(.agg #[(vi aA),(vi aC),(vi aD),(vu aF),(vs aG),(vi aB),(vi aE)]),(vb r1)]) (q0 (.agg #[(vi aA),(vi aC),(vi aD),(vu aF),(vs aG),(vi aB),(vi aE)]) (q0 (vb r1) (sn (O:=(.cells #[(vi 0),(vi 0),(vi 0),(vu 0),(vs ⟨#[]⟩),(vi 0),(vi 0)] 176)) (x_alloc (Tryz.zeroValue176 _) rfl) ?_)))
 intro p1 w2 hn1
 obtain ⟨H1,hs,hb⟩:=hs.alloc hb hn1
 refine st_set (want0 rfl) (xo p1 [(vi aA),(vi aC),(vi aD),(vu aF),(vs aG),(vi aB),(vi aE)] (Tryz.sizeOf176 _) (hb.k0 0 7 gZ)) ?_
 intro w3 hn2
 obtain ⟨hs,hb⟩:=hb.s0 (l':=[(p1,[(vi aA),(vi aC),(vi aD),(vu aF),(vs aG),(vi aB),(vi aE)],176)]) 0 [(vi aA),(vi aC),(vi aD),(vu aF),(vs aG),(vi aB),(vi aE)] hs hn2 gZ
 refine q0 (vb r1) (ln (eg (q0 (vb r1) (q0 (vb (!r1)) (ln ?_)))))
 refine wpE_cond (t:=(!r1)) (by kernel_rfl) (fun hc2=>?_) (fun hc2=>?_)
 have h:=h.1 hc2
 refine eg (q0 (vi 51) (ln (er (th_r ?_))))
 have h:=h H1 w3 hs
 have hs:=hs.here
 refine rs1 Tryz.results79 (v:=(vi 51)) ?_
 exact ⟨51,rfl,h⟩
 have h:=h.2 hc2
 refine wpE_skip (th_n (wpE_seq (eg (q0 (vp k1) ?_))))
 obtain ⟨a2,hp2,h⟩:=h
 refine q2 (vp (some a2)) (x_nilCheck (p:=k1) (by kernel_rfl) hp2) (q0 (vp (some (a2.add 1))) ?_)
 have h:=h H1 w3 hs
 have hs:=hs.here
 obtain ⟨v2,hv3,h⟩:=h
 refine q2 v2.v (xl (Tryz.isAgg46 _) hv3) (q0 (vi t1) ?_)
 refine sc Tryz.call150 (h.mono ?_)
 rintro e w4 ⟨r2,rfl,hk,h⟩
 refine ⟨_,rfl,?_⟩
 obtain ⟨hs,hb⟩:=hk.hh hs hb
 refine q0 (vb (!r2)) (ln ?_)
 refine wpE_cond (t:=(!r2)) (by kernel_rfl) (fun hc3=>?_) (fun hc3=>?_)
 have h:=h.1 hc3
 refine rg (q0 (vp k1) (q0 (vp k1) ?_))
 obtain ⟨a3,hp3,h⟩:=h
 refine q2 (vp (some a3)) (x_nilCheck (p:=k1) (by kernel_rfl) hp3) (q0 (vp (some (a3.add 1))) ?_)
 obtain ⟨v3,hv2,h⟩:=h
 refine q2 v3.v (xl (Tryz.isAgg46 _) hv2) (q0 (vi t1) (st_new (O:=(.cells #[(vi t1)] 78)) (fun p=>(Sl.mk (some p) 1 1).v) (want0 rfl) (x_buildSlice (vs:=#[(0,(vi t1))]) (by kernel_rfl) (by kernel_rfl)) ?_))
 intro p2 w5 hn4
 have h:=h p2 w5 hn4
 have hs:=hs.again (Ext.new (F:=None) hn4).keptP
 have hb:=hb.kept (Ext.new (F:=None) hn4).keptP
 obtain ⟨s1,w6,hv1,hk,h⟩:=h
 refine st (v:=s1.v) (want0 rfl) (x_builtin (args:=#[v3.v,(Sl.mk (some p2) 1 1).v]) (by kernel_rfl) (fun _=>rfl) hv1) ?_
 obtain ⟨hs,hb⟩:=hk.hh hs hb
 obtain ⟨a4,hp4,h⟩:=h
 refine q2 (vp (some a4)) (x_nilCheck (p:=k1) (by kernel_rfl) hp4) (q0 (vp (some (a4.add 1))) ?_)
 obtain ⟨hp5,hnh,h⟩:=h
 refine st_set (want0 rfl) (x_store (a:=(a4.add 1)) (v:=s1.v) (by kernel_rfl) (by kernel_rfl) rfl (Tryz.sizeOf46 _) hp5) ?_
 intro w7 hn3
 have h:=h w7 hn3
 have hk:=Kept.sc hnh hn3
 obtain ⟨hs,hb⟩:=hk.hh hs hb
 refine ln (eg (q0 (vp k1) (q0 (vi t1) (q0 (.agg #[(vi 0),(vi 0)]) ?_))))
 refine sc Tryz.call151 (h.mono ?_)
 rintro e w8 ⟨rfl,hk,h⟩
 refine ⟨_,rfl,?_⟩
 obtain ⟨hs,hb⟩:=hk.hh hs hb
 refine ln (eg (q0 (vi 0) (ln (er (rs1 Tryz.results79 (v:=(vi 0)) ?_)))))
 exact ⟨0,rfl,h⟩
 have h:=h.2 hc3
 refine wpE_skip (th_n (eg (q0 (vp k1) (q0 (vi t1) (q0 (.agg #[(vi 0),(vi 0)]) ?_)))))
 refine sc Tryz.call151 (h.mono ?_)
 rintro e w9 ⟨rfl,hk,h⟩
 refine ⟨_,rfl,?_⟩
 obtain ⟨hs,hb⟩:=hk.hh hs hb
 refine ln (eg (q0 (vi 0) (ln (er (rs1 Tryz.results79 (v:=(vi 0)) ?_)))))
 exact ⟨0,rfl,h⟩
def m_E3 (k1:Option Addr) (w0:World) (K:Sl→WP):Prop :=
 Br (Option.isNone k1)
  (K Sl.nil w0)
  (∃a1:Addr,k1=some a1 ∧
  ∃v1:Sl,w0.cell? (a1.add 3)=some v1.v ∧
  Calls Tryz.prog 153 #[v1.v] w0 (fun e w1=>∃r1:Value,e=.returned r1∧
   Calls Tryz.prog 152 #[r1] w1 (fun e w2=>∃r2:Sl,e=.returned r2.v∧
    K r2 w2)))
theorem w_E3 (k1 : Option Addr) (w0 : World) (K : Sl → WP) (h : m_E3 k1 w0 K) :
  Calls Tryz.prog 80 #[(vp k1)] w0 (fun e w'=>∃r3:Sl,e=.returned r3.v∧K r3 w'):=by
 unfold m_E3 at h
 refine cw (args:=[(vp k1)]) Tryz.func80 Tryz.ntmps80 (eg (q0 Sl.nil.v (ln (wpE_seq (eg (q0 (vp k1) (q2 (vb (Option.isNone k1)) (x_ptreq (by kernel_rfl) rfl Tryz.underlying125) (wpL_nil ?_))))))))
 refine th_n ?_
 refine wpE_cond (t:=(Option.isNone k1)) (by kernel_rfl) (fun hc1=>?_) (fun hc1=>?_)
 have h:=h.1 hc1
 refine eg (q0 Sl.nil.v (ln (er (th_r (rs1 Tryz.results80 (v:=Sl.nil.v) ?_)))))
 exact ⟨Sl.nil,rfl,h⟩
 have h:=h.2 hc1
 refine wpE_skip (th_n (eg (q0 (vp k1) ?_)))
 obtain ⟨a1,hp1,h⟩:=h
 refine q2 (vp (some a1)) (x_nilCheck (p:=k1) (by kernel_rfl) hp1) (q0 (vp (some (a1.add 3))) ?_)
 obtain ⟨v1,hv1,h⟩:=h
 refine q2 v1.v (xl (Tryz.isAgg46 _) hv1) ?_
 refine sc Tryz.call153 (h.mono ?_)
 rintro e w1 ⟨r1,rfl,h⟩
 refine ⟨_,rfl,?_⟩
 refine sc Tryz.call152 (h.mono ?_)
 rintro e w2 ⟨r2,rfl,h⟩
 refine ⟨_,rfl,?_⟩
 refine q0 r2.v (ln (er (rs1 Tryz.results80 (v:=r2.v) ?_)))
 exact ⟨r2,rfl,h⟩
def m_F3 (t1 rule1:Int) (cap1 cap2:Addr) (w0:World) (K:WP):Prop :=
 ∃v1:Option Addr,w0.cell? cap1=some (vp v1) ∧
 ∃a1:Addr,v1=some a1 ∧
 ∃v2:Option Nat,w0.cell? (a1.add 2)=some (.map v2) ∧
 ∃vrule1 vfrom1:Int,∃ok1:Bool,(Instr.lookup 210 (.map v2) (vi t1) true).run Tryz.prog w0=.ok (.tuple #[(.agg #[(vi vrule1),(vi vfrom1)]),(vb ok1)]) w0 ∧
 Br (!ok1)
  (∀(H1:NP) (w2:World),Hst w0 None w0 H1 w2 →
  ∃C1:WP,C1 w2.drew∧∀w3,w3=w2.drew →
  ∃v3:Option Addr,(∀w',C1 w'→w'.cell? cap1=some (vp v3)) ∧
  ∃a2:Addr,v3=some a2 ∧
  ∃v4:Option Nat,(∀w',C1 w'→w'.cell? (a2.add 2)=some (.map v4)) ∧
  ∃v5:Int,(∀w',C1 w'→w'.cell? cap2=some (vi v5)) ∧
  ∃w4:World,(Instr.mapUpdate 210 (.map v4) (vi t1) (.agg #[(vi rule1),(vi v5)])).run Tryz.prog w3=.ok () w4 ∧
  Kept H1 w3 w4 ∧
  ∃C2:WP,C2 w4.drew∧∀w5,w5=w4.drew →
  ∃v6:Option Addr,(∀w',C2 w'→w'.cell? cap1=some (vp v6)) ∧
  ∃v7:Option Addr,(∀w',C2 w'→w'.cell? cap1=some (vp v7)) ∧
  ∃a3:Addr,v7=some a3 ∧
  ∃v8:Sl,(∀w',C2 w'→w'.cell? (a3.add 3)=some v8.v) ∧
  ∀(p2:Addr) (w6:World),New w5 (.cells #[(vi t1)] 78) p2 w6→C2 w6 ∧
  ∃s1:Sl,∃w7:World,(Builtin.append_ #[46,46] 46 #[v8.v,(Sl.mk (some p2) 1 1).v]).run Tryz.prog w6=.ok s1.v w7∧C2 w7 ∧
  Kept H1 w6 w7 ∧
  ∃a4:Addr,v6=some a4 ∧
  CanW w7 (a4.add 3)∧¬ H1 (a4.add 3).block∧∀w8:World,w8=w7.setCell (a4.add 3) s1.v →
  K w8)
  (∀(H1:NP) (w2:World),Hst w0 None w0 H1 w2 →
  K w2)
theorem w_F3 (t1 rule1 : Int) (cap1 cap2 : Addr) (w0 : World) (K : WP) (h : m_F3 t1 rule1 cap1 cap2 w0 K) :
  Calls Tryz.prog 205 #[(vi t1),(vi rule1),(vp (some cap1)),(vp (some cap2))] w0 (fun e w'=>e=.returned (.tuple #[])∧K  w'):=by
 unfold m_F3 at h
 refine cw (args:=[(vi t1),(vi rule1),(vp (some cap1)),(vp (some cap2))]) Tryz.func205 Tryz.ntmps205 ?_
 have hs:=Hst.start w0
 have hb:=HB.nil None w0
 refine eg ?_
 obtain ⟨v1,hv11,h⟩:=h
 refine q2 (vp v1) (xl (Tryz.isAgg125 _) hv11) ?_
 obtain ⟨a1,hp1,h⟩:=h
 refine q2 (vp (some a1)) (x_nilCheck (p:=v1) (by kernel_rfl) hp1) (q0 (vp (some (a1.add 2))) ?_)
 obtain ⟨v2,hv10,h⟩:=h
 refine q2 (.map v2) (xl (Tryz.isAgg210 _) hv10) (q0 (vi t1) ?_)
 obtain ⟨vrule1,vfrom1,ok1,hv9,h⟩:=h
 refine q2 (.tuple #[(.agg #[(vi vrule1),(vi vfrom1)]),(vb ok1)]) (x_lookup (by kernel_rfl) (by kernel_rfl) hv9) (q0 (.tuple #[(.agg #[(vi vrule1),(vi vfrom1)]),(vb ok1)]) (q0 (.agg #[(vi vrule1),(vi vfrom1)]) (q0 (vb ok1) (sn (O:=(.cells #[(vi 0),(vi 0)] 235)) (x_alloc (Tryz.zeroValue235 _) rfl) ?_))))
 intro p1 w1 hn1
 obtain ⟨H1,hs,hb⟩:=hs.alloc hb hn1
 refine st_set (want0 rfl) (xo p1 [(vi vrule1),(vi vfrom1)] (Tryz.sizeOf235 _) (hb.k0 0 2 gZ)) ?_
 intro w2 hn2
 obtain ⟨hs,hb⟩:=hb.s0 (l':=[(p1,[(vi vrule1),(vi vfrom1)],235)]) 0 [(vi vrule1),(vi vfrom1)] hs hn2 gZ
 refine q0 (vb ok1) (ln (eg (q0 (vb ok1) (q0 (vb (!ok1)) (ln ?_)))))
 refine wpE_cond (t:=(!ok1)) (by kernel_rfl) (fun hc1=>?_) (fun hc1=>?_)
 have h:=h.1 hc1
 refine wpE_seq ?_
 have h:=h H1 w2 hs
 have hs:=hs.here
 obtain ⟨C1,hC,h⟩:=h
 refine wpE_drawnC (fun x=>C1 x∧HB H1 x [(p1,[(vi vrule1),(vi vfrom1)],235)]) [8] [8] (by kernel_rfl) (by kernel_rfl) (by kernel_rfl) (by kernel_rfl) ⟨hC,hb.drew⟩ ?_
 intro w3 hw3
 have h:=h w3 hw3
 have hs:Hst w0 H1 w2 H1 w3:=by rw [hw3];exact hs.drew
 have hb:HB H1 w3 [(p1,[(vi vrule1),(vi vfrom1)],235)]:=by rw [hw3];exact hb.drew
 have hs:=hs.here
 refine qg 0 ?_
 obtain ⟨v3,hv8,h⟩:=h
 refine sy (v:=(vp v3)) Kp0 (fun w' hw'=>(xl (Tryz.isAgg125 _) (hv8 w' hw'.1))) (qg 1 ?_)
 obtain ⟨a2,hp2,h⟩:=h
 refine sy (v:=(vp (some a2))) Kp1 (fun _ _=>(x_nilCheck (p:=v3) (by kernel_rfl) hp2)) (qx 2 (vp (some (a2.add 2))) Kp2 (qg 3 ?_))
 obtain ⟨v4,hv7,h⟩:=h
 refine sy (v:=(.map v4)) Kp3 (fun w' hw'=>(xl (Tryz.isAgg210 _) (hv7 w' hw'.1))) (qx 4 (vi t1) Kp4 (qx 5 (vi rule1) Kp5 (qg 6 ?_)))
 obtain ⟨v5,hv6,h⟩:=h
 refine sy (v:=(vi v5)) Kp6 (fun w' hw'=>(xl (Tryz.isAgg78 _) (hv6 w' hw'.1))) (qx 7 (.agg #[(vi rule1),(vi v5)]) Kp7 (lg 8 ?_))
 obtain ⟨w4,hv5,hk,h⟩:=h
 refine sl_skip Kp8 (want0 rfl) (by kernel_rfl) (x_mapUpdate (by kernel_rfl) (by kernel_rfl) (by kernel_rfl) hv5) (.inl (by kernel_rfl)) ?_
 obtain ⟨hs,hb⟩:=hk.hh hs hb
 refine wn (th_n ?_)
 obtain ⟨C2,hC,h⟩:=h
 refine wpE_drawnC (fun x=>C2 x∧HB H1 x [(p1,[(vi vrule1),(vi vfrom1)],235)]) [6,7,10] [10] (by kernel_rfl) (by kernel_rfl) (by kernel_rfl) (by kernel_rfl) ⟨hC,hb.drew⟩ ?_
 intro w5 hw5
 have h:=h w5 hw5
 have hs:Hst w0 H1 w4 H1 w5:=by rw [hw5];exact hs.drew
 have hb:HB H1 w5 [(p1,[(vi vrule1),(vi vfrom1)],235)]:=by rw [hw5];exact hb.drew
 have hs:=hs.here
 refine qg 0 ?_
 obtain ⟨v6,hv4,h⟩:=h
 refine sy (v:=(vp v6)) Kp0 (fun w' hw'=>(xl (Tryz.isAgg125 _) (hv4 w' hw'.1))) (qg 1 ?_)
 obtain ⟨v7,hv3,h⟩:=h
 refine sy (v:=(vp v7)) Kp1 (fun w' hw'=>(xl (Tryz.isAgg125 _) (hv3 w' hw'.1))) (qg 2 ?_)
 obtain ⟨a3,hp3,h⟩:=h
 refine sy (v:=(vp (some a3))) Kp2 (fun _ _=>(x_nilCheck (p:=v7) (by kernel_rfl) hp3)) (qx 3 (vp (some (a3.add 3))) Kp3 (qg 4 ?_))
 obtain ⟨v8,hv2,h⟩:=h
 refine sy (v:=v8.v) Kp4 (fun w' hw'=>(xl (Tryz.isAgg46 _) (hv2 w' hw'.1))) (qx 5 (vi t1) Kp5 (lg 6 (sl_new (O:=(.cells #[(vi t1)] 78)) (fun p=>(Sl.mk (some p) 1 1).v) Kp6 (want0 rfl) (by kernel_rfl) (x_buildSlice (vs:=#[(0,(vi t1))]) (by kernel_rfl) (by kernel_rfl)) ?_)))
 intro p2 w6 hn4
 have h:=h p2 w6 hn4
 refine ⟨.inr ⟨h.1,hb.kept (Ext.new (F:=None) hn4).keptP⟩,?_⟩
 have h:=h.2
 have hs:=hs.again (Ext.new (F:=None) hn4).keptP
 have hb:=hb.kept (Ext.new (F:=None) hn4).keptP
 refine lg 7 ?_
 obtain ⟨s1,w7,hv1,hC,hk,h⟩:=h
 refine sl (v:=s1.v) Kp7 (want0 rfl) (by kernel_rfl) (x_builtin (args:=#[v8.v,(Sl.mk (some p2) 1 1).v]) (by kernel_rfl) (fun _=>rfl) hv1) (.inr ⟨hC,hb.kept hk⟩) ?_
 obtain ⟨hs,hb⟩:=hk.hh hs hb
 refine qg 8 ?_
 obtain ⟨a4,hp4,h⟩:=h
 refine sy (v:=(vp (some a4))) Kp8 (fun _ _=>(x_nilCheck (p:=v6) (by kernel_rfl) hp4)) (qx 9 (vp (some (a4.add 3))) Kp9 (lg 10 ?_))
 obtain ⟨hp5,hnh,h⟩:=h
 refine sl_t (pickA (S8 (pickS (pickS pickZ)))) (xs (v:=s1.v) (Tryz.sizeOf46 _) hp5) ?_
 intro w8 hn3
 have h:=h w8 hn3
 refine ⟨.inl (by kernel_rfl),?_⟩
 have hk:=Kept.sc hnh hn3
 obtain ⟨hs,hb⟩:=hk.hh hs hb
 refine wn (res0 (.inr rfl) Tryz.results205 ?_)
 exact ⟨rfl,h⟩
 have h:=h.2 hc1
 refine wpE_skip ?_
 have h:=h H1 w2 hs
 have hs:=hs.here
 refine res0 (.inr rfl) Tryz.results205 ?_
 exact ⟨rfl,h⟩
end Go.Proofs
end
section
namespace Go.Sp
theorem nodeOf_lt {L:Pool} {i:Nat} (hi:i<L.length):nodeOf L ((i:Int)+1)=L[i].node:=by
 have h:inP L ((i:Int)+1)=true:=inP_iff.2 ⟨by omega,by omega⟩
 have e:((i:Int)+1 - 1).toNat=i:=by omega
 simp [nodeOf,get,h,e,hi]
theorem inP_at {L:Pool} {t:Int} (h:inP L t=true):∃i:Nat,i<L.length∧t=(i:Int)+1:=by
 have:=inP_iff.1 h
 exact ⟨(t - 1).toNat,by omega,by omega⟩
theorem get_at {L:Pool} {i:Nat} (hi:i<L.length):get L ((i:Int)+1)=some L[i]:=by
 have h:inP L ((i:Int)+1)=true:=inP_iff.2 ⟨by omega,by omega⟩
 have e:((i:Int)+1 - 1).toNat=i:=by omega
 simp [get,h,e,hi]
structure Wf (L:Pool):Prop where
 ok:Ok L
 each:∀i (hi:i<L.length),check (L.take i) L[i].node=(L[i].size,L[i].depth,0)
theorem Wf.nil:Wf []:=⟨Ok.nil,fun i hi=>by simp at hi⟩
theorem check_zero {L : Pool} {n : Node} (h : (check L n).2.2 = 0) : plainErr n = 0 ∧ ((shapeOf n.kind).kids < 1 → n.a = 0) ∧ ((shapeOf n.kind).kids < 2 → n.b = 0) ∧ fieldsErr (shapeOf n.kind) n = 0 ∧ (∀ t ∈ kidsOf n, inP L t = true) ∧
  (check L n).1=1+((kidsOf n).map (sizeOf L)).sum∧(check L n).2.1=(kidsOf n).foldl (fun d t=>max d (depthOf L t)) 0+1∧(check L n).1≤4096∧(check L n).2.1≤64:=by
 unfold check at h ⊢
 simp only at h ⊢
 by_cases h1:plainErr n≠0
 ·rw [if_pos h1] at h;exact absurd h h1
 rw [if_neg h1] at h ⊢
 split at h
 ·simp at h
 rename_i h2;rw [if_neg h2]
 by_cases h3:fieldsErr (shapeOf n.kind) n≠0
 ·rw [if_pos h3] at h;exact absurd h h3
 rw [if_neg h3] at h ⊢
 split at h
 ·simp at h
 rename_i h4;rw [if_neg h4]
 split at h
 ·simp at h
 rename_i h5;rw [if_neg h5]
 simp only [Bool.or_eq_true,Bool.and_eq_true,decide_eq_true_eq,bne_iff_ne,ne_eq,not_or,not_and,Classical.not_not] at h2
 refine ⟨by simpa using h1,h2.1,h2.2,by simpa using h3,fun t ht=>?_,rfl,rfl,by simp only;omega,by simp only;omega⟩
 cases hi:inP L t with
 | true=>rfl
 | false=>exact absurd (List.any_eq_true.2 ⟨t,ht,by simp [hi]⟩) h4
theorem make_pool (L:Pool) (n:Node):(make L n).2.2=L∨((check L n).2.2=0∧(make L n).2.2=L++[⟨n,(check L n).1,(check L n).2.1⟩]):=by
 by_cases hc:(check L n).2.2=0
 ·unfold make
  simp only [hc]
  rw [if_neg (by simp)]
  split
  ·exact .inl rfl
  ·split
   ·exact .inl rfl
   ·exact .inr ⟨trivial,rfl⟩
 ·unfold make;simp only;rw [if_pos hc];exact .inl rfl
theorem snoc_each {L:Pool} {e:Ent} (h:∀i (hi:i<L.length),check (L.take i) L[i].node=(L[i].size,L[i].depth,0)) (he:check L e.node=(e.size,e.depth,0)):∀i (hi:i<(L++[e]).length),check ((L++[e]).take i) (L++[e])[i].node=((L++[e])[i].size,(L++[e])[i].depth,0):=by
 intro i hi
 simp only [List.length_append,List.length_cons,List.length_nil] at hi
 by_cases hlt:i<L.length
 ·simp only [List.getElem_append_left hlt]
  rw [List.take_append_of_le_length (by omega)]
  exact h i hlt
 ·have:i=L.length:=by omega
  subst this
  simp only [List.getElem_append_right (Nat.le_refl _),Nat.sub_self,List.getElem_cons_zero]
  rw [List.take_left' rfl]
  exact he
theorem make_wf {L:Pool} (h:Wf L) (n:Node):Wf (make L n).2.2:=by
 have ho:=make_ok h.ok n
 rcases make_pool L n with e | ⟨hc,e⟩
 ·rw [e];exact h
 ·rw [e] at ho ⊢
  exact ⟨ho,snoc_each h.each (by rw [← hc])⟩
theorem grow_wf (t:Tree):∀L,Wf L→Wf (grow L t).2.2:=by
 induction t using Tree.ind with
 | h k f t u x ks ih =>
  have:∀(ks:List Tree),(∀i (hi:i<ks.length),∀L,Wf L→Wf (grow L ks[i]).2.2)→∀n i L,Wf L→Wf (growAll n i L ks).2.2:=by
   intro ks
   induction ks with
   | nil=>intro _ n i L h;unfold growAll;exact make_wf h n
   | cons t ts iht =>
    intro hh n i L h
    have h0:=hh 0 (by simp) L h
    simp only [List.getElem_cons_zero] at h0
    unfold growAll
    split
    ·exact h0
    ·exact iht (fun i hi=>hh (i+1) (by simpa using hi)) _ _ _ h0
  intro L h
  unfold grow
  exact this ks ih _ _ L h
theorem of_wf {L:Pool} (h:Wf L) (t:Tree):Wf (of L t).2.2:=by
 unfold of
 split
 ·exact h
 ·split
  ·exact h
  ·exact grow_wf t L h
theorem inP_app {L M:Pool} {t:Int} (h:inP L t=true):inP (L++M) t=true:=by
 have:=inP_iff.1 h
 exact inP_iff.2 ⟨this.1,by rw [List.length_append];omega⟩
theorem get_app {L M:Pool} {t:Int} (h:inP L t=true):get (L++M) t=get L t:=by
 obtain ⟨i,hi,rfl⟩:=inP_at h
 rw [get_at hi,get_at (by rw [List.length_append];omega),List.getElem_append_left hi]
theorem sizeOf_app {L M:Pool} {t:Int} (h:inP L t=true):sizeOf (L++M) t=sizeOf L t:=by unfold sizeOf;rw [get_app h]
theorem depthOf_app {L M:Pool} {t:Int} (h:inP L t=true):depthOf (L++M) t=depthOf L t:=by unfold depthOf;rw [get_app h]
theorem Wf.node {L : Pool} (h : Wf L) {t : Int} (ht : inP L t = true) : plainErr (nodeOf L t) = 0 ∧ ((shapeOf (nodeOf L t).kind).kids < 1 → (nodeOf L t).a = 0) ∧ ((shapeOf (nodeOf L t).kind).kids < 2 → (nodeOf L t).b = 0) ∧ fieldsErr (shapeOf (nodeOf L t).kind) (nodeOf L t) = 0 ∧
  (∀k∈kidsOf (nodeOf L t),inP L k=true∧k<t)∧sizeOf L t=1+((kidsOf (nodeOf L t)).map (sizeOf L)).sum∧depthOf L t=(kidsOf (nodeOf L t)).foldl (fun d k=>max d (depthOf L k)) 0+1:=by
 obtain ⟨i,hi,rfl⟩:=inP_at ht
 have he:=h.each i hi
 have hz:=check_zero (L:=L.take i) (n:=L[i].node) (by rw [he])
 rw [nodeOf_lt hi]
 obtain ⟨h1,h2,h3,h4,h5,h6,h7,_,_⟩:=hz
 have hin:∀k∈kidsOf L[i].node,inP (L.take i) k=true∧inP L k=true∧k<(i:Int)+1:=by
  intro k hk
  have hk':=h5 k hk
  have hk2:=inP_iff.1 hk'
  have:L.take i++L.drop i=L:=List.take_append_drop i L
  refine ⟨hk',by rw [← this];exact inP_app hk',?_⟩
  rw [List.length_take] at hk2;omega
 have hsz:∀k∈kidsOf L[i].node,sizeOf (L.take i) k=sizeOf L k∧depthOf (L.take i) k=depthOf L k:=by
  intro k hk
  have hk':=(hin k hk).1
  have:L.take i++L.drop i=L:=List.take_append_drop i L
  exact ⟨by rw [← sizeOf_app (M:=L.drop i) hk',this],by rw [← depthOf_app (M:=L.drop i) hk',this]⟩
 refine ⟨h1,h2,h3,h4,fun k hk=>⟨(hin k hk).2.1,(hin k hk).2.2⟩,?_,?_⟩
 ·have:sizeOf L ((i:Int)+1)=L[i].size:=by simp [sizeOf,get_at hi]
  rw [this]
  rw [he] at h6
  simp only at h6
  rw [h6]
  congr 2
  exact List.map_congr_left (fun k hk=>(hsz k hk).1)
 ·have:depthOf L ((i:Int)+1)=L[i].depth:=by simp [depthOf,get_at hi]
  rw [this]
  rw [he] at h7
  simp only at h7
  rw [h7]
  congr 1
  have:∀(l:List Int) (d:Int),(∀k∈l,depthOf (L.take i) k=depthOf L k)→l.foldl (fun d t=>max d (depthOf (L.take i) t)) d=l.foldl (fun d k=>max d (depthOf L k)) d:=by
   intro l
   induction l with
   | nil=>intro d _;rfl
   | cons a l ih=>intro d hh;simp only [List.foldl_cons];rw [hh a (by simp)];exact ih _ (fun k hk=>hh k (by simp [hk]))
  exact this _ _ (fun k hk=>(hsz k hk).2)
theorem Wf.first {L M:Pool} (h:Wf (L++M)):Wf L:=by
 refine ⟨⟨by have:=h.ok.few;rw [List.length_append] at this;omega,?_,fun e he=>h.ok.size e (by simp [he]),fun e he=>h.ok.depth e (by simp [he])⟩,fun i hi=>?_⟩
 ·have:=h.ok.nodup;rw [List.map_append] at this;exact (List.nodup_append.1 this).1
 ·have:=h.each i (by rw [List.length_append];omega)
  rw [List.getElem_append_left hi,List.take_append_of_le_length (by omega)] at this
  exact this
end Go.Sp
end
section
namespace Go.Sp
def showsK (k:Int):Bool:=k == 7 || k == 8 || k == 9
def freeK (k:Int):Bool:=k == 1 || k == 2 || k == 3
def keyNode (n:Int):Node:=⟨6,n,0,0,⟨#[]⟩,0,0⟩
def whoOf (n:Node):Int:=if n.kind=9 then n.to else n.frm
def Arises (L:Pool) (r u t:Int):Prop :=
 (r=1∧(nodeOf L u).kind=4∧(nodeOf L u).a=t)∨(r=2∧(nodeOf L u).kind=4∧(nodeOf L u).b=t)∨(r=3∧showsK (nodeOf L u).kind=true∧(nodeOf L u).a=t)
inductive Seen (L:Pool) (G:List Int):Int→Prop
 | given {t:Int}:t∈G→Seen L G t
 | «from» {r u t:Int}:Seen L G u→Arises L r u t→Seen L G t
inductive Drv (L:Pool) (K:Int→Prop):Int→Prop
 | seen {t:Int}:K t→Drv L K t
 | free {t:Int}:freeK (nodeOf L t).kind=true→Drv L K t
 | pair {t:Int}:(nodeOf L t).kind=4→Drv L K (nodeOf L t).a→Drv L K (nodeOf L t).b→Drv L K t
 | hash {t:Int}:(nodeOf L t).kind=5→Drv L K (nodeOf L t).a→Drv L K t
 | sign {t:Int} {i:Nat}:showsK (nodeOf L t).kind=true→Drv L K (nodeOf L t).a→find L (keyNode (whoOf (nodeOf L t)))=some i→K ((i:Int)+1)→Drv L K t
structure Way where
 t:Int
 rule:Int
 frm:Int
deriving DecidableEq
def wkeys (S:List Way):List Int:=S.map Way.t
def WayOk (L:Pool) (G:List Int) (pre:List Way) (v:Way):Prop:=(v.rule=0∧v.frm=0∧v.t∈G)∨(v.rule≠0∧Arises L v.rule v.frm v.t∧v.frm∈wkeys pre)
structure WaysOk (L:Pool) (G:List Int) (S:List Way):Prop where
 nodup:(wkeys S).Nodup
 inp:∀t∈wkeys S,inP L t=true
 way:∀i (h:i<S.length),WayOk L G (S.take i) S[i]
def Shown (L:Pool) (S:List Way) (u:Int):Prop:=∀r t,Arises L r u t→t∈wkeys S
structure KnowOk (L:Pool) (G:List Int) (S:List Way):Prop extends WaysOk L G S where
 closed:∀u∈wkeys S,Shown L S u
 giv:∀t∈G,t∈wkeys S
 gnd:G.Nodup
theorem wkeys_len (S:List Way):(wkeys S).length=S.length:=by simp [wkeys]
theorem WayOk.mono {L:Pool} {G G':List Int} {pre:List Way} {v:Way} (h:WayOk L G pre v) (hG:∀t∈G,t∈G'):WayOk L G' pre v:=by
 rcases h with ⟨a,b,c⟩ | h
 ·exact .inl ⟨a,b,hG _ c⟩
 ·exact .inr h
theorem WaysOk.mono {L:Pool} {G G':List Int} {S:List Way} (h:WaysOk L G S) (hG:∀t∈G,t∈G'):WaysOk L G' S:=⟨h.nodup,h.inp,fun i hi=>(h.way i hi).mono hG⟩
theorem WaysOk.snoc {L:Pool} {G:List Int} {S:List Way} (h:WaysOk L G S) {v:Way} (hn:v.t ∉ wkeys S) (hi:inP L v.t=true) (hv:WayOk L G S v):WaysOk L G (S++[v]):=by
 refine ⟨?_,?_,fun i hlt=>?_⟩
 ·unfold wkeys at hn ⊢
  rw [List.map_append,List.nodup_append]
  exact ⟨h.nodup,by simp,fun x hx y hy e=>by simp at hy;subst hy;exact hn (e▸hx)⟩
 ·intro t ht
  unfold wkeys at ht
  rw [List.map_append,List.mem_append] at ht
  rcases ht with ht | ht
  ·exact h.inp t ht
  ·simp at ht;rw [ht];exact hi
 ·rw [List.length_append] at hlt
  simp only [List.length_cons,List.length_nil] at hlt
  by_cases hl:i<S.length
  ·rw [List.getElem_append_left hl,List.take_append_of_le_length (by omega)];exact h.way i hl
  ·have:i=S.length:=by omega
   subst this
   rw [List.getElem_append_right (Nat.le_refl _),List.take_left]
   simpa using hv
theorem Shown.snoc {L:Pool} {S:List Way} {u:Int} {v:Way} (h:Shown L S u):Shown L (S++[v]) u:=fun r t ha=>by
 unfold wkeys;rw [List.map_append];exact List.mem_append_left _ (h r t ha)
theorem wkeys_at {S:List Way} {t:Int} (h:t∈wkeys S):∃i,∃hi:i<S.length,S[i].t=t∧(wkeys S).idxOf t=i:=by
 have hlt:=List.idxOf_lt_length_iff.2 h
 refine ⟨(wkeys S).idxOf t,by simpa [wkeys] using hlt,?_,rfl⟩
 have:=List.getElem_idxOf hlt
 simp only [wkeys,List.getElem_map] at this ⊢
 exact this
theorem KnowOk.seen_iff {L:Pool} {G:List Int} {S:List Way} (h:KnowOk L G S) (t:Int):t∈wkeys S↔Seen L G t:=by
 constructor
 ·intro ht
  obtain ⟨i,hi,e,_⟩:=wkeys_at ht
  subst e
  have:∀(n i:Nat) (hi:i<S.length),i≤n→Seen L G S[i].t:=by
   intro n
   induction n with
   | zero =>
    intro i hi h0
    have:i=0:=by omega
    subst this
    rcases h.way 0 hi with ⟨_,_,hg⟩ | ⟨_,_,hm⟩
    ·exact .given hg
    ·simp [wkeys] at hm
   | succ n ih =>
    intro i hi hn
    rcases h.way i hi with ⟨_,_,hg⟩ | ⟨_,ha,hm⟩
    ·exact .given hg
    ·obtain ⟨j,hj,e,_⟩:=wkeys_at hm
     rw [List.length_take] at hj
     have:=ih j (by omega) (by omega)
     rw [List.getElem_take] at e
     rw [e] at this
     exact .from this ha
  exact this i i hi (Nat.le_refl _)
 ·intro hs
  induction hs with
  | given hg=>exact h.giv _ hg
  | «from» _ ha ih=>exact h.closed _ ih _ _ ha
theorem Seen.mono {L:Pool} {G G':List Int} (hG:∀t∈G,t∈G') {t:Int} (h:Seen L G t):Seen L G' t:=by
 induction h with
 | given hg=>exact .given (hG _ hg)
 | «from» _ ha ih=>exact .from ih ha
theorem Drv.mono {L:Pool} {K K':Int→Prop} (hK:∀t,K t→K' t) {t:Int} (h:Drv L K t):Drv L K' t:=by
 induction h with
 | seen h=>exact .seen (hK _ h)
 | free h=>exact .free h
 | pair h _ _ iha ihb=>exact .pair h iha ihb
 | hash h _ ih=>exact .hash h ih
 | sign h _ hf hk ih=>exact .sign h ih hf (hK _ hk)
structure Step where
 rule:Int
 a:Int
 b:Int
 t:Int
deriving DecidableEq
def ahead (i:Nat) (v:Int):Bool:=decide (0≤v) && decide (v<i)
def tAt (pre:List Step) (v:Int):Int:=(pre[v.toNat]?.map Step.t).getD 0
def arisesB (L:Pool) (r u t:Int):Bool :=
 if r=1 then (nodeOf L u).kind == 4 && (nodeOf L u).a == t else if r=2 then (nodeOf L u).kind == 4 && (nodeOf L u).b == t else showsK (nodeOf L u).kind && (nodeOf L u).a == t
def fol (L:Pool) (G:List Int) (pre:List Step) (s:Step):Bool :=
 if inP L s.t=false then false
 else if s.rule=0 then s.a == 0 && s.b == 0 && decide (s.t∈G)
 else if s.rule=1∨s.rule=2∨s.rule=3 then ahead pre.length s.a && s.b == 0 && arisesB L s.rule (tAt pre s.a) s.t
 else if s.rule=4 then s.a == 0 && s.b == 0 && freeK (nodeOf L s.t).kind
 else if s.rule=5 then
  if (nodeOf L s.t).kind=4 then ahead pre.length s.a && ahead pre.length s.b && tAt pre s.a == (nodeOf L s.t).a && tAt pre s.b == (nodeOf L s.t).b
  else if (nodeOf L s.t).kind=5 then ahead pre.length s.a && s.b == 0 && tAt pre s.a == (nodeOf L s.t).a
  else if showsK (nodeOf L s.t).kind=true then ahead pre.length s.a && ahead pre.length s.b && tAt pre s.a == (nodeOf L s.t).a && (nodeOf L (tAt pre s.b)).kind == 6 && (nodeOf L (tAt pre s.b)).frm == whoOf (nodeOf L s.t)
  else false
 else false
end Go.Sp
namespace Go.Sp
theorem nodup_few {α:Type} [DecidableEq α]:∀{l m:List α},l.Nodup→(∀x∈l,x∈m)→l.length≤m.length
 | [],m,_,_=>by simp
 | x :: l,m,hn,hs=>by
  have hx:=hs x (by simp)
  rw [List.nodup_cons] at hn
  have:=nodup_few (m:=m.erase x) hn.2 (fun y hy=>(List.mem_erase_of_ne (fun h=>hn.1 (by rw [← h];exact hy))).2 (hs y (List.mem_cons_of_mem _ hy)))
  rw [List.length_erase_of_mem hx] at this
  have:=List.length_pos_of_mem hx
  simp only [List.length_cons];omega
theorem pool_few {L:Pool} {l:List Int} (hn:l.Nodup) (hi:∀t∈l,inP L t=true):l.length≤L.length:=by
 have:=nodup_few (m:=(List.range L.length).map fun i:Nat=>(i:Int)+1) hn (fun t ht=>by
  obtain ⟨i,h1,h2⟩:=inP_at (hi t ht)
  exact List.mem_map.2 ⟨i,List.mem_range.2 h1,h2.symm⟩)
 simpa using this
theorem WaysOk.few {L:Pool} {G:List Int} {S:List Way} (h:WaysOk L G S):S.length≤L.length:=by
 have:=pool_few h.nodup h.inp
 rwa [wkeys_len] at this
theorem kids4 {L:Pool} (h:Wf L) {t:Int} (ht:inP L t=true) (hk:(nodeOf L t).kind=4):(inP L (nodeOf L t).a=true∧(nodeOf L t).a<t)∧(inP L (nodeOf L t).b=true∧(nodeOf L t).b<t):=by
 have:=(h.node ht).2.2.2.2.1
 simp only [kidsOf,hk,shapeOf] at this
 exact ⟨this _ (by simp),this _ (by simp)⟩
theorem kids7 {L:Pool} (h:Wf L) {t:Int} (ht:inP L t=true) (hk:showsK (nodeOf L t).kind=true):inP L (nodeOf L t).a=true∧(nodeOf L t).a<t:=by
 have:=(h.node ht).2.2.2.2.1
 simp only [showsK,Bool.or_eq_true,beq_iff_eq] at hk
 rcases hk with (hk | hk) | hk <;> simp only [kidsOf,hk,shapeOf] at this <;> exact this _ (by simp)
theorem Arises.inp {L:Pool} (h:Wf L) {r u t:Int} (hu:inP L u=true) (ha:Arises L r u t):inP L t=true∧t<u:=by
 rcases ha with ⟨_,hk,rfl⟩ | ⟨_,hk,rfl⟩ | ⟨_,hk,rfl⟩
 ·exact (kids4 h hu hk).1
 ·exact (kids4 h hu hk).2
 ·exact kids7 h hu hk
def addWay (S:List Way) (v:Way):List Way:=if v.t∈wkeys S then S else S++[v]
theorem wkeys_snoc (S:List Way) (v:Way):wkeys (S++[v])=wkeys S++[v.t]:=by simp [wkeys]
theorem addWay_keys (S:List Way) (v:Way):v.t∈wkeys (addWay S v)∧∀t∈wkeys S,t∈wkeys (addWay S v):=by
 unfold addWay;split
 ·rename_i h;exact ⟨h,fun _ h=>h⟩
 ·rw [wkeys_snoc];exact ⟨by simp,fun t ht=>List.mem_append_left _ ht⟩
theorem addWay_take (S:List Way) (v:Way):∃M,addWay S v=S++M:=by
 unfold addWay;split
 ·exact ⟨[],by simp⟩
 ·exact ⟨[v],rfl⟩
theorem WaysOk.add {L:Pool} {G:List Int} {S:List Way} (h:WaysOk L G S) {v:Way} (hi:inP L v.t=true) (hv:WayOk L G S v):WaysOk L G (addWay S v):=by
 unfold addWay;split
 ·exact h
 ·rename_i hn;exact h.snoc hn hi hv
end Go.Sp
end
section
open Go Go.SE
namespace Go.Proofs
attribute [local irreducible] Calls
def wayv (p:Int×Int):Value:=.agg #[.int .i64 p.1,.int .i64 p.2]
def wmap (S:List Sp.Way):List (Int×(Int×Int)):=S.map fun v=>(v.t,(v.rule,v.frm))
theorem wmap_keys (S:List Sp.Way):(wmap S).map Prod.fst=Sp.wkeys S:=by simp [wmap,Sp.wkeys]
theorem wmap_snoc (S:List Sp.Way) (v:Sp.Way):wmap (S++[v])=wmap S++[(v.t,(v.rule,v.frm))]:=by simp [wmap]
structure KnowS (w:World) (k p:Addr) (G:List Int) (S:List Sp.Way) (ks:List Int) (sg:Sl) (m:Nat) (sl:Sl):Prop where
 box:Box w k [.pointer (some p),sg.v,.map (some m),sl.v] 212
 giv:Rws w 78 1 sg (tmr G)
 seen:IMap wayv w m (wmap S)
 list:Rws w 78 1 sl (tmr ks)
 n1:m≠k.block
 n2:¬ sg.blk k.block
 n3:¬ sl.blk k.block
 n4:¬ sg.blk m
 n5:¬ sl.blk m
 n6:∀b,sg.blk b→¬ sl.blk b
def KF (k:Addr) (sg:Sl) (m:Nat) (sl:Sl) (b:Nat):Prop:=b=k.block∨sg.blk b∨b=m∨sl.blk b
def KnowAt (w:World) (k p:Addr) (G:List Int) (S:List Sp.Way) (F:NP):Prop:=∃sg m sl,KnowS w k p G S (Sp.wkeys S) sg m sl∧∀b,F b↔KF k sg m sl b
section
variable {w w':World} {k p:Addr} {G:List Int} {S:List Sp.Way} {ks:List Int} {sg sl:Sl} {m:Nat} {F:NP}
theorem KnowS.ext {X:NP} (h:KnowS w k p G S ks sg m sl) (hE:Ext X w w') (hd:∀b,KF k sg m sl b→¬ X b):KnowS w' k p G S ks sg m sl :=
 ⟨h.box.ext hE (hd _ (.inl rfl)),h.giv.ext hE (fun b hb=>hd _ (.inr (.inl hb))),h.seen.ext hE (hd _ (.inr (.inr (.inl rfl)))),h.list.ext hE (fun b hb=>hd _ (.inr (.inr (.inr hb)))),h.n1,h.n2,h.n3,h.n4,h.n5,h.n6⟩
theorem KnowS.pure (h:KnowS w k p G S ks sg m sl) (hE:Pure w w'):KnowS w' k p G S ks sg m sl:=h.ext hE (fun _ _ h=>h)
theorem KnowS.lt (h:KnowS w k p G S ks sg m sl) {b:Nat} (hb:KF k sg m sl b):b<w.heap.size:=by
 rcases hb with rfl | hb | rfl | hb
 ·exact h.box.lt
 ·exact h.giv.lt hb
 ·exact h.seen.lt
 ·exact h.list.lt hb
theorem KnowAt.ext {X:NP} (h:KnowAt w k p G S F) (hE:Ext X w w') (hd:∀b,F b→¬ X b):KnowAt w' k p G S F:=by
 obtain ⟨sg,m,sl,h,hF⟩:=h
 exact ⟨sg,m,sl,h.ext hE (fun b hb=>hd b ((hF b).2 hb)),hF⟩
theorem KnowAt.pure (h:KnowAt w k p G S F) (hE:Pure w w'):KnowAt w' k p G S F:=h.ext hE (fun _ _ h=>h)
theorem KnowAt.lt (h:KnowAt w k p G S F) {b:Nat} (hb:F b):b<w.heap.size:=by
 obtain ⟨sg,m,sl,h,hF⟩:=h;exact h.lt ((hF b).1 hb)
theorem KnowS.look (h:KnowS w k p G S ks sg m sl) (t:Int):∃r f:Int,(Instr.lookup 210 (.map (some m)) (.int .i64 t) true).run Tryz.prog w=.ok (.tuple #[.agg #[.int .i64 r,.int .i64 f],.bool (decide (t∈Sp.wkeys S))]) w∧(t∈Sp.wkeys S→SE.look (wmap S) t=some (r,f)):=by
 rcases h.seen.get (P:=Tryz.prog) (T:=210) Tryz.underlying210 Tryz.underlying78 (Tryz.zeroValue235 _) t true with ⟨h1,h2⟩ | ⟨⟨r,f⟩,h1,h2⟩
 ·have hn:t ∉ Sp.wkeys S:=by have:=look_none.1 h1;rwa [wmap_keys] at this
  exact ⟨0,0,by rw [decide_eq_false hn];exact h2,fun h=>absurd h hn⟩
 ·have hy : t ∈ Sp.wkeys S := by
   have:=look_mem h1
   rw [← wmap_keys];exact List.mem_map.2 ⟨_,this,rfl⟩
  exact ⟨r,f,by rw [decide_eq_true hy];exact h2,fun _=>h1⟩
theorem KnowS.put (h:KnowS w k p G S ks sg m sl) {v:Sp.Way} (hn:v.t ∉ Sp.wkeys S):∃w',(Instr.mapUpdate 210 (.map (some m)) (.int .i64 v.t) (.agg #[.int .i64 v.rule,.int .i64 v.frm])).run Tryz.prog w=.ok () w'∧KnowS w' k p G (S++[v]) ks sg m sl∧Ext (·=m) w w':=by
 obtain ⟨w',h1,h2,h3⟩:=h.seen.put (P:=Tryz.prog) (T:=210) (K:=78) Tryz.underlying210 Tryz.underlying78 (k:=v.t) (look_none.2 (by rw [wmap_keys];exact hn)) (v.rule,v.frm)
 exact ⟨w',h1,⟨h.box.ext h3 (fun e=>h.n1 e.symm),h.giv.ext h3 (fun b hb e=>h.n4 (e▸hb)),by rw [wmap_snoc];exact h2,h.list.ext h3 (fun b hb e=>h.n5 (e▸hb)),h.n1,h.n2,h.n3,h.n4,h.n5,h.n6⟩,h3⟩
theorem KnowS.app (h : KnowS w k p G S ks sg m sl) {t : Int} {q : Addr} {w1 : World} (hq : New w (.cells #[.int .i64 t] 78) q w1) (hn : ks.length ≤ 1000000) : ∃ s1 w2, (Builtin.append_ #[46, 46] 46 #[sl.v, (Sl.mk (some q) 1 1).v]).run Tryz.prog w1 = .ok s1.v w2 ∧ Ext sl.blk w1 w2 ∧ Box w2 k [.pointer (some p), sg.v, .map (some m), sl.v] 212 ∧
  KnowS (w2.setCell (k.add 3) s1.v) k p G S (ks++[t]) sg m s1∧Ext (KF k sg m sl) w (w2.setCell (k.add 3) s1.v)∧∀b,KF k sg m s1 b→KF k sg m sl b∨w.heap.size≤b:=by
 have E1:Pure w w1:=Ext.new hq
 have h1:=h.pure E1
 obtain ⟨s1,w2,hr,hR,hE,hb⟩:=h1.list.append (P:=Tryz.prog) (ty:=46) (c:=1) slT_tm (r:=[.int .i64 t]) (Box.of_new hq).row rfl rfl (by rw [tmr_len];omega) (by rw [tmr_len];simp [maxLen];omega)
 have hbx:=h1.box.ext hE h1.n3
 have hs1:∀b,s1.blk b→sl.blk b∨w.heap.size≤b:=fun b h=>(hb b h).imp_right (fun h=>by have:=E1.size;omega)
 have nk:¬ s1.blk k.block:=fun hh=>(hs1 _ hh).elim h.n3 (fun hh=>by have:=h.box.lt;omega)
 have nm:¬ s1.blk m:=fun hh=>(hs1 _ hh).elim h.n5 (fun hh=>by have:=h.seen.lt;omega)
 have E3:=Ext.setCell (w:=w2) (k.add 3) s1.v
 rw [add_block] at E3
 refine ⟨s1,w2,hr,hE,hbx,⟨hbx.set 3 s1.v,((h1.giv.ext hE h.n6).ext E3 (fun b hb e=>h.n2 (e▸hb))),((h1.seen.ext hE h.n5).ext E3 h.n1),by rw [show tmr (ks++[t])=tmr ks++[[.int .i64 t]] by simp [tmr]];exact hR.ext E3 (fun b hb e=>nk (e▸hb)),h.n1,h.n2,nk,h.n4,nm,fun b h1 h2=>(hs1 b h2).elim (h.n6 b h1) (fun hh=>by have:=h.giv.lt h1;omega)⟩,?_,?_⟩
 ·exact ((E1.pure (F:=KF k sg m sl)).trans (hE.mono (fun b _ hb=>.inr (.inr (.inr hb))))).trans (E3.mono (fun b _ hb=>.inl hb))
 ·rintro b (hb | hb | hb | hb)
  ·exact .inl (.inl hb)
  ·exact .inl (.inr (.inl hb))
  ·exact .inl (.inr (.inr (.inl hb)))
  ·exact (hs1 b hb).imp_left (fun h=>.inr (.inr (.inr h)))
end
theorem c_ded_New (p:Addr) (w0:World):Calls Tryz.prog 62 #[.pointer (some p)] w0 (fun e w'=>∃r:Option Addr,e=.returned (.pointer r)∧∃k F,r=some k∧KnowAt w' k p [] [] F∧Pure w0 w'∧∀b,F b→w0.heap.size≤b):=by
 refine w_D3 _ w0 (fun r w'=>∃k F,r=some k∧KnowAt w' k p [] [] F∧Pure w0 w'∧∀b,F b→w0.heap.size≤b) ?_
 unfold m_D3
 refine Br.f rfl ?_
 intro p2 w1 h1 p3 w2 h2
 have E1:Pure w0 w1:=Ext.new h1
 have E2:Pure w1 w2:=Ext.new h2
 have hnil:∀b,¬ Sl.nil.blk b:=fun b hb=>by obtain ⟨a,h,_⟩:=hb;cases h
 refine ⟨p3,_,rfl,⟨Sl.nil,p2.block,Sl.nil,⟨Box.of_new h2,Rws.nil _ _ _,(IMap.of_new (f:=wayv) h1).pure E2,Rws.nil _ _ _,?_,hnil _,hnil _,hnil _,hnil _,fun b hb=>(hnil b hb).elim⟩,fun b=>Iff.rfl⟩,E1.trans E2,?_⟩
 ·have:=h1.at_size;have:=h2.at_size;have:=E1.size;have:=(IMap.of_new (f:=wayv) h1).lt;omega
 ·rintro b (rfl | hb | rfl | hb)
  ·have:=h2.at_size;have:=E1.size;omega
  ·exact (hnil b hb).elim
  ·have:=h1.at_size;omega
  ·exact (hnil b hb).elim
end Go.Proofs
end
