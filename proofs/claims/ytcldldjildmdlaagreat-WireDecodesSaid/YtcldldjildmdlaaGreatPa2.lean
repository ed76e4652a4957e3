import Derived.Test.YtcldldjildmdlaaGreatProg
import Derived.KernelRfl
import Derived.Test.YtcldldjildmdlaaGreatPa0
import Derived.Test.YtcldldjildmdlaaGreatPa1
section
open Go Go.SE
open Go.IntKind renaming i64 → q6
namespace Go.Proofs
set_option maxRecDepth 100000
set_option maxHeartbeats 4000000
attribute [local irreducible] wpL wpX opE wpE Calls
def m_F2 (l1:Sl) (w0:World) (K:Bool→WP):Prop :=
 Br (decide ((l1.len:Int)>50))
  (K true w0)
  (Calls Tryz.prog 26 #[(.agg #[(vi 0),(vi 0),(vi 0),(vu 0),(vs ⟨#[]⟩),l1.v]),(vi 6000)] w0 (fun e w1=>∃r1:Int,e=.returned (vi r1)∧
   K (decide (r1>6000)) w1))
theorem w_F2 (l1 : Sl) (w0 : World) (K : Bool → WP) (h : m_F2 l1 w0 K) :
  Calls Tryz.prog 5 #[l1.v] w0 (fun e w'=>∃r2:Bool,e=.returned (vb r2)∧K r2 w'):=by
 unfold m_F2 at h
 refine cw (args:=[l1.v]) Tryz.func5 Tryz.ntmps5 (wpE_seq (rg (q0 (vb false) (wpL_nil (th_n (wpE_seq (rg (q0 l1.v (q0 (vi (l1.len:Int)) (q0 (vb (decide ((l1.len:Int)>50))) (q0 (vb (decide ((l1.len:Int)>50))) ?_)))))))))))
 rcases Bool.eq_false_or_eq_true (decide ((l1.len:Int)>50)) with hg1 | hg1
 ·have h:=h.1 hg1
  refine sk (yD 6 hg1) (sk (yD 6 hg1) (sk (yD 6 hg1) (sk (yD 6 hg1) (q2 (vb true) (xT hg1) (q0 (vb true) (wpL_nil (th_n (wpE_ret (rs1 Tryz.results5 (v:=(vb true)) ?_)))))))))
  exact ⟨true,rfl,h⟩
 ·have h:=h.2 hg1
  refine q1 l1.v (want1 rfl (yD 6 hg1)) (q1 (.agg #[(vi 0),(vi 0),(vi 0),(vu 0),(vs ⟨#[]⟩),l1.v]) (want1 rfl (yD 6 hg1)) ?_)
  refine st_call (want1 rfl (yD 6 hg1)) (xc Tryz.call26) (h.mono ?_)
  rintro e w1 ⟨r1,rfl,h⟩
  refine ⟨_,rfl,?_⟩
  refine q1 (vb (decide (r1>6000))) (want1 rfl (yD 6 hg1)) (q2 (vb (decide (r1>6000))) (xF hg1) (q0 (vb (decide (r1>6000))) (wpL_nil (th_n (wpE_ret (rs1 Tryz.results5 (v:=(vb (decide (r1>6000)))) ?_))))))
  exact ⟨(decide (r1>6000)),rfl,h⟩
def m_G2  (w0:World) (K:(Option Nat)→WP):Prop :=
 ∀(p1:Addr) (w1:World),New w0 (.cells #[(.nilFunc:Value),(.nilFunc:Value)] 174) p1 w1 →
 (∀j,j<2→CanW w1 (p1.add j))∧∀w2:World,w2=storeRow w1 p1 [(.func (.func 109) #[] #[]),(.func (.func 111) #[] #[])] →
 ∀(p2:Addr) (w3:World),New w2 (.cells #[(.nilFunc:Value),(.nilFunc:Value)] 174) p2 w3 →
 (∀j,j<2→CanW w3 (p2.add j))∧∀w4:World,w4=storeRow w3 p2 [(.func (.func 113) #[] #[]),(.func (.func 114) #[] #[])] →
 ∀(p3:Addr) (w5:World),New w4 (.cells #[(.nilFunc:Value),(.nilFunc:Value)] 174) p3 w5 →
 (∀j,j<2→CanW w5 (p3.add j))∧∀w6:World,w6=storeRow w5 p3 [(.func (.func 115) #[] #[]),(.func (.func 116) #[] #[])] →
 ∀(p4:Addr) (w7:World),New w6 (.cells #[(.nilFunc:Value),(.nilFunc:Value)] 174) p4 w7 →
 (∀j,j<2→CanW w7 (p4.add j))∧∀w8:World,w8=storeRow w7 p4 [(.func (.func 117) #[] #[]),(.func (.func 119) #[] #[])] →
 ∀(p5:Addr) (w9:World),New w8 (.cells #[(.nilFunc:Value),(.nilFunc:Value)] 174) p5 w9 →
 (∀j,j<2→CanW w9 (p5.add j))∧∀w10:World,w10=storeRow w9 p5 [(.func (.func 121) #[] #[]),(.func (.func 122) #[] #[])] →
 ∀(p6:Addr) (w11:World),New w10 (.cells #[(.nilFunc:Value),(.nilFunc:Value)] 174) p6 w11 →
 (∀j,j<2→CanW w11 (p6.add j))∧∀w12:World,w12=storeRow w11 p6 [(.func (.func 123) #[] #[]),(.func (.func 124) #[] #[])] →
 ∀(p7:Addr) (w13:World),New w12 (.map #[] 0) p7 w13 →
 ∃vput1:Value,∃vget1:Value,Row w13 p1 [vput1,vget1] ∧
 ∀(p8:Addr) (w14:World),New w13 (.cells #[vput1,vget1] 174) p8 w14 →
 ∃w15:World,(Instr.mapUpdate 127 (.map (some p7.block)) (vi 1) (Sl.mk (some p8) 1 1).v).run Tryz.prog w14=.ok () w15 ∧
 ∃vput2:Value,∃vget2:Value,Row w15 p3 [vput2,vget2] ∧
 ∀(p9:Addr) (w16:World),New w15 (.cells #[vput2,vget2] 174) p9 w16 →
 ∃w17:World,(Instr.mapUpdate 127 (.map (some p7.block)) (vi 2) (Sl.mk (some p9) 1 1).v).run Tryz.prog w16=.ok () w17 ∧
 ∃vput3:Value,∃vget3:Value,Row w17 p4 [vput3,vget3] ∧
 ∀(p10:Addr) (w18:World),New w17 (.cells #[vput3,vget3] 174) p10 w18 →
 ∃w19:World,(Instr.mapUpdate 127 (.map (some p7.block)) (vi 3) (Sl.mk (some p10) 1 1).v).run Tryz.prog w18=.ok () w19 ∧
 ∃vput4:Value,∃vget4:Value,Row w19 p5 [vput4,vget4] ∧
 ∃vput5:Value,∃vget5:Value,Row w19 p6 [vput5,vget5] ∧
 ∀(p11:Addr) (w20:World),New w19 (.cells #[vput4,vget4,vput5,vget5] 174) p11 w20 →
 ∃w21:World,(Instr.mapUpdate 127 (.map (some p7.block)) (vi 4) (Sl.mk (some p11) 2 2).v).run Tryz.prog w20=.ok () w21 ∧
 ∃vput6:Value,∃vget6:Value,Row w21 p5 [vput6,vget6] ∧
 ∀(p12:Addr) (w22:World),New w21 (.cells #[vput6,vget6] 174) p12 w22 →
 ∃w23:World,(Instr.mapUpdate 127 (.map (some p7.block)) (vi 5) (Sl.mk (some p12) 1 1).v).run Tryz.prog w22=.ok () w23 ∧
 ∃vput7:Value,∃vget7:Value,Row w23 p1 [vput7,vget7] ∧
 ∀(p13:Addr) (w24:World),New w23 (.cells #[vput7,vget7] 174) p13 w24 →
 ∃w25:World,(Instr.mapUpdate 127 (.map (some p7.block)) (vi 6) (Sl.mk (some p13) 1 1).v).run Tryz.prog w24=.ok () w25 ∧
 ∃vput8:Value,∃vget8:Value,Row w25 p1 [vput8,vget8] ∧
 ∃vput9:Value,∃vget9:Value,Row w25 p5 [vput9,vget9] ∧
 ∀(p14:Addr) (w26:World),New w25 (.cells #[vput8,vget8,vput9,vget9] 174) p14 w26 →
 ∃w27:World,(Instr.mapUpdate 127 (.map (some p7.block)) (vi 7) (Sl.mk (some p14) 2 2).v).run Tryz.prog w26=.ok () w27 ∧
 ∃vput10:Value,∃vget10:Value,Row w27 p1 [vput10,vget10] ∧
 ∃vput11:Value,∃vget11:Value,Row w27 p2 [vput11,vget11] ∧
 ∃vput12:Value,∃vget12:Value,Row w27 p5 [vput12,vget12] ∧
 ∀(p15:Addr) (w28:World),New w27 (.cells #[vput10,vget10,vput11,vget11,vput12,vget12] 174) p15 w28 →
 ∃w29:World,(Instr.mapUpdate 127 (.map (some p7.block)) (vi 8) (Sl.mk (some p15) 3 3).v).run Tryz.prog w28=.ok () w29 ∧
 ∃vput13:Value,∃vget13:Value,Row w29 p1 [vput13,vget13] ∧
 ∃vput14:Value,∃vget14:Value,Row w29 p2 [vput14,vget14] ∧
 ∃vput15:Value,∃vget15:Value,Row w29 p5 [vput15,vget15] ∧
 ∀(p16:Addr) (w30:World),New w29 (.cells #[vput13,vget13,vput14,vget14,vput15,vget15] 174) p16 w30 →
 ∃w31:World,(Instr.mapUpdate 127 (.map (some p7.block)) (vi 9) (Sl.mk (some p16) 3 3).v).run Tryz.prog w30=.ok () w31 ∧
 K (some p7.block) w31
theorem w_G2  (w0 : World) (K : (Option Nat) → WP) (h : m_G2  w0 K) :
  Calls Tryz.prog 75 #[] w0 (fun e w'=>∃r1:Option Nat,e=.returned (.map r1)∧K r1 w'):=by
 unfold m_G2 at h
 refine cw (args:=[]) Tryz.func75 Tryz.ntmps75 (wpE_seq (rg (q0 (.map none) (wpL_nil (th_n (wpE_seq (rg (q0 (.agg #[(.func (.func 109) #[] #[]),(.func (.func 111) #[] #[])]) (sn (O:=(.cells #[(.nilFunc:Value),(.nilFunc:Value)] 174)) (x_alloc (Tryz.zeroValue174 _) rfl) ?_)))))))))
 intro p1 w1 hn22
 have h:=h p1 w1 hn22
 obtain ⟨hp1,h⟩:=h
 refine st_set (want0 rfl) (x_storeA (a:=p1) (vs:=[(.func (.func 109) #[] #[]),(.func (.func 111) #[] #[])]) (by kernel_rfl) (by kernel_rfl) rfl (Tryz.sizeOf174 _) rfl hp1) ?_
 intro w2 hn1
 have h:=h w2 hn1
 refine wpL_nil (th_n (wpE_seq (rg (q0 (.agg #[(.func (.func 113) #[] #[]),(.func (.func 114) #[] #[])]) (sn (O:=(.cells #[(.nilFunc:Value),(.nilFunc:Value)] 174)) (x_alloc (Tryz.zeroValue174 _) rfl) ?_)))))
 intro p2 w3 hn21
 have h:=h p2 w3 hn21
 obtain ⟨hp2,h⟩:=h
 refine st_set (want0 rfl) (x_storeA (a:=p2) (vs:=[(.func (.func 113) #[] #[]),(.func (.func 114) #[] #[])]) (by kernel_rfl) (by kernel_rfl) rfl (Tryz.sizeOf174 _) rfl hp2) ?_
 intro w4 hn2
 have h:=h w4 hn2
 refine wpL_nil (th_n (wpE_seq (rg (q0 (.agg #[(.func (.func 115) #[] #[]),(.func (.func 116) #[] #[])]) (sn (O:=(.cells #[(.nilFunc:Value),(.nilFunc:Value)] 174)) (x_alloc (Tryz.zeroValue174 _) rfl) ?_)))))
 intro p3 w5 hn20
 have h:=h p3 w5 hn20
 obtain ⟨hp3,h⟩:=h
 refine st_set (want0 rfl) (x_storeA (a:=p3) (vs:=[(.func (.func 115) #[] #[]),(.func (.func 116) #[] #[])]) (by kernel_rfl) (by kernel_rfl) rfl (Tryz.sizeOf174 _) rfl hp3) ?_
 intro w6 hn3
 have h:=h w6 hn3
 refine wpL_nil (th_n (wpE_seq (rg (q0 (.agg #[(.func (.func 117) #[] #[]),(.func (.func 119) #[] #[])]) (sn (O:=(.cells #[(.nilFunc:Value),(.nilFunc:Value)] 174)) (x_alloc (Tryz.zeroValue174 _) rfl) ?_)))))
 intro p4 w7 hn19
 have h:=h p4 w7 hn19
 obtain ⟨hp4,h⟩:=h
 refine st_set (want0 rfl) (x_storeA (a:=p4) (vs:=[(.func (.func 117) #[] #[]),(.func (.func 119) #[] #[])]) (by kernel_rfl) (by kernel_rfl) rfl (Tryz.sizeOf174 _) rfl hp4) ?_
 intro w8 hn4
 have h:=h w8 hn4
 refine wpL_nil (th_n (wpE_seq (rg (q0 (.agg #[(.func (.func 121) #[] #[]),(.func (.func 122) #[] #[])]) (sn (O:=(.cells #[(.nilFunc:Value),(.nilFunc:Value)] 174)) (x_alloc (Tryz.zeroValue174 _) rfl) ?_)))))
 intro p5 w9 hn18
 have h:=h p5 w9 hn18
 obtain ⟨hp5,h⟩:=h
 refine st_set (want0 rfl) (x_storeA (a:=p5) (vs:=[(.func (.func 121) #[] #[]),(.func (.func 122) #[] #[])]) (by kernel_rfl) (by kernel_rfl) rfl (Tryz.sizeOf174 _) rfl hp5) ?_
 intro w10 hn5
 have h:=h w10 hn5
 refine wpL_nil (th_n (wpE_seq (rg (q0 (.agg #[(.func (.func 123) #[] #[]),(.func (.func 124) #[] #[])]) (sn (O:=(.cells #[(.nilFunc:Value),(.nilFunc:Value)] 174)) (x_alloc (Tryz.zeroValue174 _) rfl) ?_)))))
 intro p6 w11 hn17
 have h:=h p6 w11 hn17
 obtain ⟨hp6,h⟩:=h
 refine st_set (want0 rfl) (x_storeA (a:=p6) (vs:=[(.func (.func 123) #[] #[]),(.func (.func 124) #[] #[])]) (by kernel_rfl) (by kernel_rfl) rfl (Tryz.sizeOf174 _) rfl hp6) ?_
 intro w12 hn6
 have h:=h w12 hn6
 refine wpL_nil (th_n (wpE_seq (rg (st_new (O:=(.map #[] 0)) (fun p=>.map (some p.block)) (want0 rfl) (by kernel_rfl) ?_))))
 intro p7 w13 hn16
 have h:=h p7 w13 hn16
 obtain ⟨vput1,vget1,hv24,h⟩:=h
 refine q2 (.agg #[vput1,vget1]) (x_loadA (a:=p1) (vs:=[vput1,vget1]) (by kernel_rfl) (Tryz.isAgg174 _) (Tryz.sizeOf174 _) rfl hv24) (st_new (O:=(.cells #[vput1,vget1] 174)) (fun p=>(Sl.mk (some p) 1 1).v) (want0 rfl) (x_buildSlice (vs:=#[(0,(.agg #[vput1,vget1]))]) (by kernel_rfl) (by kernel_rfl)) ?_)
 intro p8 w14 hn15
 have h:=h p8 w14 hn15
 obtain ⟨w15,hv23,h⟩:=h
 refine st_skip (want0 rfl) (x_insert (by kernel_rfl) (by kernel_rfl) (by kernel_rfl) hv23) ?_
 obtain ⟨vput2,vget2,hv22,h⟩:=h
 refine q2 (.agg #[vput2,vget2]) (x_loadA (a:=p3) (vs:=[vput2,vget2]) (by kernel_rfl) (Tryz.isAgg174 _) (Tryz.sizeOf174 _) rfl hv22) (st_new (O:=(.cells #[vput2,vget2] 174)) (fun p=>(Sl.mk (some p) 1 1).v) (want0 rfl) (x_buildSlice (vs:=#[(0,(.agg #[vput2,vget2]))]) (by kernel_rfl) (by kernel_rfl)) ?_)
 intro p9 w16 hn14
 have h:=h p9 w16 hn14
 obtain ⟨w17,hv21,h⟩:=h
 refine st_skip (want0 rfl) (x_insert (by kernel_rfl) (by kernel_rfl) (by kernel_rfl) hv21) ?_
 obtain ⟨vput3,vget3,hv20,h⟩:=h
 refine q2 (.agg #[vput3,vget3]) (x_loadA (a:=p4) (vs:=[vput3,vget3]) (by kernel_rfl) (Tryz.isAgg174 _) (Tryz.sizeOf174 _) rfl hv20) (st_new (O:=(.cells #[vput3,vget3] 174)) (fun p=>(Sl.mk (some p) 1 1).v) (want0 rfl) (x_buildSlice (vs:=#[(0,(.agg #[vput3,vget3]))]) (by kernel_rfl) (by kernel_rfl)) ?_)
 intro p10 w18 hn13
 have h:=h p10 w18 hn13
 obtain ⟨w19,hv19,h⟩:=h
 refine st_skip (want0 rfl) (x_insert (by kernel_rfl) (by kernel_rfl) (by kernel_rfl) hv19) ?_
 obtain ⟨vput4,vget4,hv18,h⟩:=h
 refine q2 (.agg #[vput4,vget4]) (x_loadA (a:=p5) (vs:=[vput4,vget4]) (by kernel_rfl) (Tryz.isAgg174 _) (Tryz.sizeOf174 _) rfl hv18) ?_
 obtain ⟨vput5,vget5,hv17,h⟩:=h
 refine q2 (.agg #[vput5,vget5]) (x_loadA (a:=p6) (vs:=[vput5,vget5]) (by kernel_rfl) (Tryz.isAgg174 _) (Tryz.sizeOf174 _) rfl hv17) (st_new (O:=(.cells #[vput4,vget4,vput5,vget5] 174)) (fun p=>(Sl.mk (some p) 2 2).v) (want0 rfl) (x_buildSlice (vs:=#[(0,(.agg #[vput4,vget4])),(1,(.agg #[vput5,vget5]))]) (by kernel_rfl) (by kernel_rfl)) ?_)
 intro p11 w20 hn12
 have h:=h p11 w20 hn12
 obtain ⟨w21,hv16,h⟩:=h
 refine st_skip (want0 rfl) (x_insert (by kernel_rfl) (by kernel_rfl) (by kernel_rfl) hv16) ?_
 obtain ⟨vput6,vget6,hv15,h⟩:=h
 refine q2 (.agg #[vput6,vget6]) (x_loadA (a:=p5) (vs:=[vput6,vget6]) (by kernel_rfl) (Tryz.isAgg174 _) (Tryz.sizeOf174 _) rfl hv15) (st_new (O:=(.cells #[vput6,vget6] 174)) (fun p=>(Sl.mk (some p) 1 1).v) (want0 rfl) (x_buildSlice (vs:=#[(0,(.agg #[vput6,vget6]))]) (by kernel_rfl) (by kernel_rfl)) ?_)
 intro p12 w22 hn11
 have h:=h p12 w22 hn11
 obtain ⟨w23,hv14,h⟩:=h
 refine st_skip (want0 rfl) (x_insert (by kernel_rfl) (by kernel_rfl) (by kernel_rfl) hv14) ?_
 obtain ⟨vput7,vget7,hv13,h⟩:=h
 refine q2 (.agg #[vput7,vget7]) (x_loadA (a:=p1) (vs:=[vput7,vget7]) (by kernel_rfl) (Tryz.isAgg174 _) (Tryz.sizeOf174 _) rfl hv13) (st_new (O:=(.cells #[vput7,vget7] 174)) (fun p=>(Sl.mk (some p) 1 1).v) (want0 rfl) (x_buildSlice (vs:=#[(0,(.agg #[vput7,vget7]))]) (by kernel_rfl) (by kernel_rfl)) ?_)
 intro p13 w24 hn10
 have h:=h p13 w24 hn10
 obtain ⟨w25,hv12,h⟩:=h
 refine st_skip (want0 rfl) (x_insert (by kernel_rfl) (by kernel_rfl) (by kernel_rfl) hv12) ?_
 obtain ⟨vput8,vget8,hv11,h⟩:=h
 refine q2 (.agg #[vput8,vget8]) (x_loadA (a:=p1) (vs:=[vput8,vget8]) (by kernel_rfl) (Tryz.isAgg174 _) (Tryz.sizeOf174 _) rfl hv11) ?_
 obtain ⟨vput9,vget9,hv10,h⟩:=h
 refine q2 (.agg #[vput9,vget9]) (x_loadA (a:=p5) (vs:=[vput9,vget9]) (by kernel_rfl) (Tryz.isAgg174 _) (Tryz.sizeOf174 _) rfl hv10) (st_new (O:=(.cells #[vput8,vget8,vput9,vget9] 174)) (fun p=>(Sl.mk (some p) 2 2).v) (want0 rfl) (x_buildSlice (vs:=#[(0,(.agg #[vput8,vget8])),(1,(.agg #[vput9,vget9]))]) (by kernel_rfl) (by kernel_rfl)) ?_)
 intro p14 w26 hn9
 have h:=h p14 w26 hn9
 obtain ⟨w27,hv9,h⟩:=h
 refine st_skip (want0 rfl) (x_insert (by kernel_rfl) (by kernel_rfl) (by kernel_rfl) hv9) ?_
 obtain ⟨vput10,vget10,hv8,h⟩:=h
 refine q2 (.agg #[vput10,vget10]) (x_loadA (a:=p1) (vs:=[vput10,vget10]) (by kernel_rfl) (Tryz.isAgg174 _) (Tryz.sizeOf174 _) rfl hv8) ?_
 obtain ⟨vput11,vget11,hv7,h⟩:=h
 refine q2 (.agg #[vput11,vget11]) (x_loadA (a:=p2) (vs:=[vput11,vget11]) (by kernel_rfl) (Tryz.isAgg174 _) (Tryz.sizeOf174 _) rfl hv7) ?_
 obtain ⟨vput12,vget12,hv6,h⟩:=h
 refine q2 (.agg #[vput12,vget12]) (x_loadA (a:=p5) (vs:=[vput12,vget12]) (by kernel_rfl) (Tryz.isAgg174 _) (Tryz.sizeOf174 _) rfl hv6) (st_new (O:=(.cells #[vput10,vget10,vput11,vget11,vput12,vget12] 174)) (fun p=>(Sl.mk (some p) 3 3).v) (want0 rfl) (x_buildSlice (vs:=#[(0,(.agg #[vput10,vget10])),(1,(.agg #[vput11,vget11])),(2,(.agg #[vput12,vget12]))]) (by kernel_rfl) (by kernel_rfl)) ?_)
 intro p15 w28 hn8
 have h:=h p15 w28 hn8
 obtain ⟨w29,hv5,h⟩:=h
 refine st_skip (want0 rfl) (x_insert (by kernel_rfl) (by kernel_rfl) (by kernel_rfl) hv5) ?_
 obtain ⟨vput13,vget13,hv4,h⟩:=h
 refine q2 (.agg #[vput13,vget13]) (x_loadA (a:=p1) (vs:=[vput13,vget13]) (by kernel_rfl) (Tryz.isAgg174 _) (Tryz.sizeOf174 _) rfl hv4) ?_
 obtain ⟨vput14,vget14,hv3,h⟩:=h
 refine q2 (.agg #[vput14,vget14]) (x_loadA (a:=p2) (vs:=[vput14,vget14]) (by kernel_rfl) (Tryz.isAgg174 _) (Tryz.sizeOf174 _) rfl hv3) ?_
 obtain ⟨vput15,vget15,hv2,h⟩:=h
 refine q2 (.agg #[vput15,vget15]) (x_loadA (a:=p5) (vs:=[vput15,vget15]) (by kernel_rfl) (Tryz.isAgg174 _) (Tryz.sizeOf174 _) rfl hv2) (st_new (O:=(.cells #[vput13,vget13,vput14,vget14,vput15,vget15] 174)) (fun p=>(Sl.mk (some p) 3 3).v) (want0 rfl) (x_buildSlice (vs:=#[(0,(.agg #[vput13,vget13])),(1,(.agg #[vput14,vget14])),(2,(.agg #[vput15,vget15]))]) (by kernel_rfl) (by kernel_rfl)) ?_)
 intro p16 w30 hn7
 have h:=h p16 w30 hn7
 obtain ⟨w31,hv1,h⟩:=h
 refine st_skip (want0 rfl) (x_insert (by kernel_rfl) (by kernel_rfl) (by kernel_rfl) hv1) (q0 (.map (some p7.block)) (q0 (.map (some p7.block)) (wpL_nil (th_n (wpE_ret (rs1 Tryz.results75 (v:=(.map (some p7.block))) ?_))))))
 exact ⟨(some p7.block),rfl,h⟩
def m_L1_l1 (p3 p6:Addr) (I1:List (Int)→NP→WP) (pre1:List (Int)) (z2:Int) (Y1:NP) (A1:World) (aK aL:Int) (aM aN:Int) (aO:ByteArray) (aU aV:Int) (v5:Sl) (x1:Int) (Hl1:NP) (wl1:World) (Kc1:Int→NP→WP) (_K:Sl→WP):Prop :=
 Br (decide (x1<(v5.len:Int)))
  (∃a1:Addr,At v5 x1 2 a1 ∧
  ∃vput1:Value,∃vget1:Value,Row wl1 a1 [vput1,vget1] ∧
  ∀(p9:Addr) (w16:World),New wl1 (.cells #[(.nilFunc:Value),(.nilFunc:Value)] 174) p9 w16 →
  ([vput1,vget1].all oneCell=true∧∀j,j<2→CanW w16 (p9.add j))∧¬ Hl1 p9.block∧∀w17:World,w17=storeRow w16 p9 [vput1,vget1] →
  ∃v6:Value,w17.cell? p9=some v6 ∧
  ∃v7:Sl,w17.cell? p3=some v7.v ∧
  ∃v8:Option Nat,w17.cell? p6=some (.map v8) ∧
  ∃(f2:FuncId) (fs1 cs2:Array Value),v6=.func (.func f2) fs1 cs2 ∧
  (∀args w,(callFunc f2 args).run Tryz.prog w=.ok (.enter f2 args) w)∧Calls Tryz.prog f2 (fs1++#[v7.v,(.agg #[(vi aK),(vi aL),(vi aM),(vu aN),(vs aO),(vi aU),(vi aV)]),(.map v8)]++cs2) w17 (fun e w18=>∃r4:Sl,e=.returned r4.v∧
   Kept Hl1 w17 w18 ∧
   CanW w18 p3∧¬ Hl1 p3.block∧∀w19:World,w19=w18.setCell p3 r4.v →
   Kc1 (q6.wrap (x1+1)) Hl1 w19))
  (∃v9:Option Nat,wl1.cell? p6=some (.map v9) ∧
  ∃v10:Option Nat,wl1.cell? p6=some (.map v10) ∧
  ∃z3:Int,(Builtin.len_ #[152] 3 #[(.map v10)]).run Tryz.prog wl1=.ok (vi z3) wl1 ∧
  ∃w20:World,(Instr.mapUpdate 152 (.map v9) (vi z2) (vi z3)).run Tryz.prog wl1=.ok () w20 ∧
  Kept Hl1 wl1 w20 ∧
  Kept Y1 A1 w20∧I1 (pre1++[z2]) Y1 w20)
def m_L1 (p1:Option Addr) (t1:Int) (w0:World) (K:Sl→WP):Prop :=
 ∀(p2:Addr) (w1:World),New w0 (.cells #[(vp p1)] 26) p2 w1 →
 ∀(p3:Addr) (w2:World),New w1 (.cells #[Sl.nil.v] 23) p3 w2 →
 Calls Tryz.prog 75 #[] w2 (fun e w3=>∃r1:Option Nat,e=.returned (.map r1)∧
  Kept None w2 w3 ∧
  ∀(p4:Addr) (w4:World),New w3 (.cells #[(.map none)] 127) p4 w4 →
  CanW w4 p4∧¬ None p4.block∧∀w5:World,w5=w4.setCell p4 (.map r1) →
  ∀(p5:Addr) (w6:World),New w5 (.map #[] 0) p5 w6 →
  ∀(p6:Addr) (w7:World),New w6 (.cells #[(.map none)] 152) p6 w7 →
  CanW w7 p6∧¬ None p6.block∧∀w8:World,w8=w7.setCell p6 (.map (some p5.block)) →
  ∃v1:Option Addr,w8.cell? p2=some (vp v1) ∧
  Calls Tryz.prog 79 #[(vp v1),(vi t1)] w8 (fun e w9=>∃r2:Value,e=.returned r2∧
   Kept None w8 w9 ∧
   ∃(f1:FuncId) (cs1:Array Value),r2=.func (.func f1) #[] cs1∧(∀args w,(callFunc f1 args).run Tryz.prog w=.ok (.enter f1 args) w) ∧
   ∃(xs1:List (Int)) (Rd1:WP),IterC Tryz.prog f1 cs1 (fun (z2:Int)=>#[(vi z2)]) xs1 Rd1 w9 ∧
   ∃(I1:List (Int)→NP→WP),RngI w0 Rd1 I1 (fun _ _ _=>False) (fun _ _ _=>False)∧I1 [] None w9 ∧
   (∀(pre1:List (Int)) (z2:Int) (Y1:NP) (A1:World),I1 pre1 Y1 A1→Hst w0 Y1 A1 Y1 A1→(∃post,xs1=pre1++z2 :: post) →
    ∃v2:Option Addr,A1.cell? p2=some (vp v2) ∧
    Calls Tryz.prog 43 #[(vp v2),(vi z2)] A1 (fun e w10=>∃aK aL:Int,∃aM aN:Int,∃aO:ByteArray,∃aU aV:Int,∃r3:Bool,e=.returned (.tuple #[(.agg #[(vi aK),(vi aL),(vi aM),(vu aN),(vs aO),(vi aU),(vi aV)]),(vb r3)])∧
     Kept None A1 w10 ∧
     ∀(H1:NP) (w12:World),Hst A1 None w10 H1 w12 →
     ∃v3:Sl,w12.cell? p3=some v3.v ∧
     ∀(p8:Addr) (w13:World),New w12 (.cells #[(.int .u8 (IntKind.u8.wrap aK))] 5) p8 w13 →
     ∃s1:Sl,∃w14:World,(Builtin.append_ #[23,23] 23 #[v3.v,(Sl.mk (some p8) 1 1).v]).run Tryz.prog w13=.ok s1.v w14 ∧
     Kept H1 w13 w14 ∧
     CanW w14 p3∧¬ H1 p3.block∧∀w15:World,w15=w14.setCell p3 s1.v →
     ∃v4:Option Nat,w15.cell? p4=some (.map v4) ∧
     ∃v5:Sl,(Instr.lookup 127 (.map v4) (vi aK) false).run Tryz.prog w15=.ok v5.v w15 ∧
     ∃(I2:Int→NP→WP) (mu1:Int→World→Nat),I2 0 H1 w15 ∧
      ∀(x1:Int) (Hl1:NP) (wl1:World),Hst A1 Hl1 wl1 Hl1 wl1→I2 x1 Hl1 wl1→m_L1_l1 p3 p6 I1 pre1 z2 Y1 A1 aK aL aM aN aO aU aV v5 x1 Hl1 wl1 (fun y'0 H' w'=>I2 y'0 H' w'∧mu1 y'0 w'<mu1 x1 wl1) K)) ∧
   ∀(H2:NP) (w21:World),Hst w0 H2 w21 H2 w21→(∀b,None b→H2 b)→Kept None w9 w21→I1 xs1 H2 w21 →
   ∃v11:Sl,w21.cell? p3=some v11.v ∧
   ∀(w22:World),Hst w0 H2 w21 H2 w22 →
   K v11 w22))
theorem w_L1 (p1 : Option Addr) (t1 : Int) (w0 : World) (K : Sl → WP) (h : m_L1 p1 t1 w0 K) :
  Calls Tryz.prog 67 #[(vp p1),(vi t1)] w0 (fun e w'=>∃r5:Sl,e=.returned r5.v∧K r5 w'):=by
 unfold m_L1 at h
 refine cw (args:=[(vp p1),(vi t1)]) Tryz.func67 Tryz.ntmps67 ?_
 have hs:=Hst.start w0
 have hb:=HB.nil None w0
 refine wpE_seq (rg (sn (O:=(.cells #[(vp p1)] 26)) xb ?_))
 intro p2 w1 hn14
 have h:=h p2 w1 hn14
 have hs:=hs.again (Ext.new (F:=None) hn14).keptP
 have hb:=hb.kept (Ext.new (F:=None) hn14).keptP
 refine q0 Sl.nil.v (wpL_nil (th_n (wpE_seq (rg (sn (O:=(.cells #[Sl.nil.v] 23)) (x_alloc (Tryz.zeroValue23 _) rfl) ?_)))))
 intro p3 w2 hn13
 have h:=h p3 w2 hn13
 have hs:=hs.again (Ext.new (F:=None) hn13).keptP
 have hb:=hb.kept (Ext.new (F:=None) hn13).keptP
 refine wpL_nil (th_n (wpE_seq (rg ?_)))
 refine sc Tryz.call75 (h.mono ?_)
 rintro e w3 ⟨r1,rfl,hk,h⟩
 refine ⟨_,rfl,?_⟩
 obtain ⟨hs,hb⟩:=hk.hh hs hb
 refine sn (O:=(.cells #[(.map none)] 127)) (x_alloc (Tryz.zeroValue127 _) rfl) ?_
 intro p4 w4 hn12
 have h:=h p4 w4 hn12
 have hs:=hs.again (Ext.new (F:=None) hn12).keptP
 have hb:=hb.kept (Ext.new (F:=None) hn12).keptP
 obtain ⟨hp1,hnh,h⟩:=h
 refine st_set (want0 rfl) (x_store (a:=p4) (v:=(.map r1)) (by kernel_rfl) (by kernel_rfl) rfl (Tryz.sizeOf127 _) hp1) ?_
 intro w5 hn1
 have h:=h w5 hn1
 have hk:=Kept.sc hnh hn1
 obtain ⟨hs,hb⟩:=hk.hh hs hb
 refine wpL_nil (th_n (wpE_seq (rg (st_new (O:=(.map #[] 0)) (fun p=>.map (some p.block)) (want0 rfl) (by kernel_rfl) ?_))))
 intro p5 w6 hn11
 have h:=h p5 w6 hn11
 have hs:=hs.again (Ext.new (F:=None) hn11).keptP
 have hb:=hb.kept (Ext.new (F:=None) hn11).keptP
 refine sn (O:=(.cells #[(.map none)] 152)) (x_alloc (Tryz.zeroValue152 _) rfl) ?_
 intro p6 w7 hn10
 have h:=h p6 w7 hn10
 have hs:=hs.again (Ext.new (F:=None) hn10).keptP
 have hb:=hb.kept (Ext.new (F:=None) hn10).keptP
 obtain ⟨hp2,hnh,h⟩:=h
 refine st_set (want0 rfl) (x_store (a:=p6) (v:=(.map (some p5.block))) (by kernel_rfl) (by kernel_rfl) rfl (Tryz.sizeOf152 _) hp2) ?_
 intro w8 hn2
 have h:=h w8 hn2
 have hk:=Kept.sc hnh hn2
 obtain ⟨hs,hb⟩:=hk.hh hs hb
 refine wpL_nil (th_n (wpE_seqC (rg ?_)))
 obtain ⟨v1,hv17,h⟩:=h
 refine q2 (vp v1) (xl (Tryz.isAgg26 _) hv17) (q0 (vi t1) ?_)
 refine sc Tryz.call79 (h.mono ?_)
 rintro e w9 ⟨r2,rfl,hk,h⟩
 refine ⟨_,rfl,?_⟩
 obtain ⟨hs,hb⟩:=hk.hh hs hb
 refine wpL_nil (th_n ?_)
 obtain ⟨f1,cs1,hv1,hf1,h⟩:=h
 obtain ⟨xs1,Rd1,hit,I1,hRI,h0,hbody,h⟩:=h
 refine wpB_range (encs:=(fun (z2:Int)=>#[(vi z2)])) (Eq.trans (b:=r2) (by kernel_rfl) hv1) hf1 hit (fun _=>rfl) (by decide) hs I1 (fun _ _ _=>False) (fun _ _ _=>False) hRI h0 ?ha ?hr ?ht
 case ha =>
  intro l z2 w23
  refine rg (q0 (vi z2) (wpL_nil (th_n ?_)))
  refine ⟨rfl,?_⟩
  intro pre1 Y1 A1 hi hY hpost
  have h:=hbody pre1 z2 Y1 A1 hi hY hpost
  have hs:=Hst.start A1
  have hb:=HB.nil None A1
  refine wpE_block (wpE_seq (rg ?_))
  obtain ⟨v2,hv15,h⟩:=h
  refine q2 (vp v2) (xl (Tryz.isAgg26 _) hv15) (q0 (vi z2) ?_)
  refine sc Tryz.call43 (h.mono ?_)
  rintro e w10 ⟨aK,aL,aM,aN,aO,aU,aV,r3,rfl,hk,h⟩
  refine ⟨_,rfl,?_⟩
  obtain ⟨hs,hb⟩:=hk.hh hs hb
  refine q0 (.tuple #[(.agg #[(vi aK),(vi aL),(vi aM),(vu aN),(vs aO),(vi aU),(vi aV)]),(vb r3)]) (q0 (.agg #[(vi aK),(vi aL),(vi aM),(vu aN),(vs aO),(vi aU),(vi aV)]) (q0 (vb r3) (sn (O:=(.cells #[(vi 0),(vi 0),(vi 0),(vu 0),(vs ⟨#[]⟩),(vi 0),(vi 0)] 86)) (x_alloc (Tryz.zeroValue86 _) rfl) ?_)))
  intro p7 w11 hn3
  obtain ⟨H1,hs,hb⟩:=hs.alloc hb hn3
  refine st_set (want0 rfl) (x_storeA (a:=p7) (vs:=[(vi aK),(vi aL),(vi aM),(vu aN),(vs aO),(vi aU),(vi aV)]) (by kernel_rfl) (by kernel_rfl) rfl (Tryz.sizeOf86 _) rfl (hb.canWs0 0 7 gZ (by kernel_rfl))) ?_
  intro w12 hn4
  have hsb:Hst A1 None w10 H1 w12∧HB H1 w12 [(p7,[(vi aK),(vi aL),(vi aM),(vu aN),(vs aO),(vi aU),(vi aV)],86)]:=by
   rw [hn4]
   exact hb.store0 (i:=0) (vs:=[(vi aK),(vi aL),(vi aM),(vu aN),(vs aO),(vi aU),(vi aV)]) hs gZ (by kernel_rfl) (by kernel_rfl)
  obtain ⟨hs,hb⟩:=hsb
  refine q0 (vb r3) (wpL_nil (th_n (wpE_seq (rg ?_))))
  have h:=h H1 w12 hs
  have hs:=hs.here
  obtain ⟨v3,hv14,h⟩:=h
  refine q2 v3.v (xl (Tryz.isAgg23 _) hv14) (q0 (vp (some p7)) (q2 (vi aK) (xl (Tryz.isAgg3 _) (hb.c0 0 gZ)) (q0 (.int .u8 (IntKind.u8.wrap aK)) (st_new (O:=(.cells #[(.int .u8 (IntKind.u8.wrap aK))] 5)) (fun p=>(Sl.mk (some p) 1 1).v) (want0 rfl) (x_buildSlice (vs:=#[(0,(.int .u8 (IntKind.u8.wrap aK)))]) (by kernel_rfl) (by kernel_rfl)) ?_))))
  intro p8 w13 hn9
  have h:=h p8 w13 hn9
  have hs:=hs.again (Ext.new (F:=None) hn9).keptP
  have hb:=hb.kept (Ext.new (F:=None) hn9).keptP
  obtain ⟨s1,w14,hv13,hk,h⟩:=h
  refine st (v:=s1.v) (want0 rfl) (x_builtin (args:=#[v3.v,(Sl.mk (some p8) 1 1).v]) (by kernel_rfl) (fun _=>rfl) hv13) ?_
  obtain ⟨hs,hb⟩:=hk.hh hs hb
  obtain ⟨hp3,hnh,h⟩:=h
  refine st_set (want0 rfl) (x_store (a:=p3) (v:=s1.v) (by kernel_rfl) (by kernel_rfl) rfl (Tryz.sizeOf23 _) hp3) ?_
  intro w15 hn5
  have h:=h w15 hn5
  have hk:=Kept.sc hnh hn5
  obtain ⟨hs,hb⟩:=hk.hh hs hb
  refine wpL_nil (th_n (wpE_seq (wpE_seq (rg ?_))))
  obtain ⟨v4,hv12,h⟩:=h
  refine q2 (.map v4) (xl (Tryz.isAgg127 _) hv12) (q0 (vp (some p7)) (q2 (vi aK) (xl (Tryz.isAgg3 _) (hb.c0 0 gZ)) ?_))
  obtain ⟨v5,hv11,h⟩:=h
  refine q2 v5.v (x_lookup (by kernel_rfl) (by kernel_rfl) hv11) (q0 (vi (v5.len:Int)) (q0 (vi 0) (wpL_nil (th_n (wpE_block ?_)))))
  obtain ⟨I2,mu1,h0,hr⟩:=h
  refine wpE_loop (σ:=Int×NP×World) (fun s ρ w=>w=s.2.2∧Has ρ [(5,(vp (some p3))),(7,(vp (some p6))),(8,(vi z2)),(9,(vp (some p7))),(34,v5.v),(35,(vi (v5.len:Int))),(36,(vi s.1))]∧Hst A1 s.2.1 w s.2.1 w∧HB s.2.1 w [(p7,[(vi aK),(vi aL),(vi aM),(vu aN),(vs aO),(vi aU),(vi aV)],86)]∧I2 s.1 s.2.1 s.2.2) (fun s=>mu1 s.1 s.2.2) (0,H1,w15) ⟨rfl,hm,hs,hb,h0⟩ ?_
  rintro ⟨x1,Hl1,wl1⟩ ρ w ⟨hw,hH,hs,hb,hI⟩
  obtain rfl:wl1=w:=(show w=wl1 from hw).symm
  have hH:Has ρ [(5,(vp (some p3))),(7,(vp (some p6))),(8,(vi z2)),(9,(vp (some p7))),(34,v5.v),(35,(vi (v5.len:Int))),(36,(vi x1))]:=hH
  have hs:Hst A1 Hl1 wl1 Hl1 wl1:=hs
  have hb:HB Hl1 wl1 [(p7,[(vi aK),(vi aL),(vi aM),(vu aN),(vs aO),(vi aU),(vi aV)],86)]:=hb
  have h:=hr x1 Hl1 wl1 hs hI
  unfold m_L1_l1 at h
  refine wpE_has hH ?_
  refine wpE_seq (rg (q0 (vb (decide (x1<(v5.len:Int)))) (wpL_nil (th_n (wpE_seq ?_)))))
  refine wpE_cond (t:=(decide (x1<(v5.len:Int)))) (by kernel_rfl) (fun hc1=>?_) (fun hc1=>?_)
  ·have h:=h.1 hc1
   refine wpE_skip (th_n (wpE_seq (wpE_block (wpE_seq (rg ?_)))))
   obtain ⟨a1,hv6,h⟩:=h
   refine q2 (vp (some a1)) (xi (Tryz.runUnderlying170 _) (Tryz.sizeOf174 _) hv6) ?_
   obtain ⟨vput1,vget1,hv5,h⟩:=h
   refine q2 (.agg #[vput1,vget1]) (x_loadA (a:=a1) (vs:=[vput1,vget1]) (by kernel_rfl) (Tryz.isAgg174 _) (Tryz.sizeOf174 _) rfl hv5) (sn (O:=(.cells #[(.nilFunc:Value),(.nilFunc:Value)] 174)) (x_alloc (Tryz.zeroValue174 _) rfl) ?_)
   intro p9 w16 hn8
   have h:=h p9 w16 hn8
   have hs:=hs.again (Ext.new (F:=None) hn8).keptP
   have hb:=hb.kept (Ext.new (F:=None) hn8).keptP
   obtain ⟨hp4,hnh,h⟩:=h
   refine st_set (want0 rfl) (x_storeA (a:=p9) (vs:=[vput1,vget1]) (by kernel_rfl) (by kernel_rfl) hp4.1 (Tryz.sizeOf174 _) rfl hp4.2) ?_
   intro w17 hn6
   have h:=h w17 hn6
   have hk:Kept Hl1 w16 w17:=by rw [hn6];exact Kept.storeRow hnh
   obtain ⟨hs,hb⟩:=hk.hh hs hb
   refine wpL_nil (th_n (rg (q0 (vp (some p9)) ?_)))
   obtain ⟨v6,hv4,h⟩:=h
   refine q2 v6 (xl (Tryz.isAgg171 _) hv4) ?_
   obtain ⟨v7,hv3,h⟩:=h
   refine q2 v7.v (xl (Tryz.isAgg23 _) hv3) (q2 (.agg #[(vi aK),(vi aL),(vi aM),(vu aN),(vs aO),(vi aU),(vi aV)]) (x_loadA (a:=p7) (vs:=[(vi aK),(vi aL),(vi aM),(vu aN),(vs aO),(vi aU),(vi aV)]) (by kernel_rfl) (Tryz.isAgg86 _) (Tryz.sizeOf86 _) rfl (hb.row0 0 7 gZ (by kernel_rfl))) ?_)
   obtain ⟨v8,hv2,h⟩:=h
   refine q2 (.map v8) (xl (Tryz.isAgg152 _) hv2) ?_
   obtain ⟨f2,fs1,cs2,hp5,h⟩:=h
   obtain ⟨hf2,h⟩:=h
   refine st_call (want0 rfl) (x_callmE (fs:=fs1) (caps:=cs2) (args:=#[v7.v,(.agg #[(vi aK),(vi aL),(vi aM),(vu aN),(vs aO),(vi aU),(vi aV)]),(.map v8)]) (by kernel_rfl) hp5 hf2 (by kernel_rfl) rfl) (h.mono ?_)
   rintro e w18 ⟨r4,rfl,hk,h⟩
   refine ⟨_,rfl,?_⟩
   obtain ⟨hs,hb⟩:=hk.hh hs hb
   obtain ⟨hp6,hnh,h⟩:=h
   refine st_set (want0 rfl) (x_store (a:=p3) (v:=r4.v) (by kernel_rfl) (by kernel_rfl) rfl (Tryz.sizeOf23 _) hp6) ?_
   intro w19 hn7
   have h:=h w19 hn7
   have hk:=Kept.sc hnh hn7
   obtain ⟨hs,hb⟩:=hk.hh hs hb
   refine wpL_nil (bl_n (th_n (rg (q0 (vi (q6.wrap (x1+1))) (q0 (vi (q6.wrap (x1+1))) (wpL_nil (th_n ?_)))))))
   exact ⟨((q6.wrap (x1+1)),Hl1,w19),⟨rfl,hm,hs,hb,h.1⟩,h.2⟩
  ·have h:=h.2 hc1
   refine wpE_exit (th_x (th_x (bl_eq (th_n (rg ?_)))))
   obtain ⟨v9,hv10,h⟩:=h
   refine q2 (.map v9) (xl (Tryz.isAgg152 _) hv10) (q0 (vi z2) ?_)
   obtain ⟨v10,hv9,h⟩:=h
   refine q2 (.map v10) (xl (Tryz.isAgg152 _) hv9) ?_
   obtain ⟨z3,hv8,h⟩:=h
   refine q2 (vi z3) (x_builtin (args:=#[(.map v10)]) (by kernel_rfl) (fun _=>rfl) hv8) ?_
   obtain ⟨w20,hv7,hk,h⟩:=h
   refine st_skip (want0 rfl) (x_mapUpdate (by kernel_rfl) (by kernel_rfl) (by kernel_rfl) hv7) ?_
   obtain ⟨hs,hb⟩:=hk.hh hs hb
   refine wpL_nil (bl_n ?_)
   exact rd_n h
 case hr =>
  intro D1 H2 w21 hs' hD hDe dG hk1 hio1
  have hb':=hb.behind hk1 dG hD hDe
  have hs:=hs'
  have hb:=hb'
  have h:=h H2 w21 hs dG hk1 (hio1.elim id (fun h=>h.elim (fun _ h=>h.elim)))
  refine wpE_seq (rg ?_)
  obtain ⟨v11,hv16,h⟩:=h
  refine q2 v11.v (xl (Tryz.isAgg23 _) hv16) (q0 v11.v (wpL_nil (th_n (wpE_ret (af_r hb.dead ?_)))))
  intro w22 hw'
  have hl:=hb.leave hs hw'
  obtain ⟨hs,hb⟩:=hl
  -- behind the loop
  have h:=h w22 hs
  have hs:=hs.here
  refine rs1 Tryz.results67 (v:=v11.v) ?_
  exact ⟨v11,rfl,h⟩
 case ht =>
  intro _ _ _ _ _ _ _ h
  exact h.elim
def m_H2 (p1:Option Addr) (t1:Int) (w0:World) (K:Sl→Int→WP):Prop :=
 Calls Tryz.prog 43 #[(vp p1),(vi t1)] w0 (fun e w1=>∃aK aL:Int,∃aM aN:Int,∃aO:ByteArray,∃aU aV:Int,∃r1:Bool,e=.returned (.tuple #[(.agg #[(vi aK),(vi aL),(vi aM),(vu aN),(vs aO),(vi aU),(vi aV)]),(vb r1)])∧
  Kept None w0 w1 ∧
  Br (!r1)
   (∀(H1:NP) (w3:World),Hst w0 None w1 H1 w3 →
   K Sl.nil 51 w3)
   (∀(H1:NP) (w3:World),Hst w0 None w1 H1 w3 →
   Calls Tryz.prog 67 #[(vp p1),(vi t1)] w3 (fun e w4=>∃r2:Sl,e=.returned r2.v∧
    Kept H1 w3 w4 ∧
    Br (decide ((r2.len:Int)>4096))
     (K Sl.nil 1 w4)
     (K r2 0 w4))))
theorem w_H2 (p1 : Option Addr) (t1 : Int) (w0 : World) (K : Sl → Int → WP) (h : m_H2 p1 t1 w0 K) :
  Calls Tryz.prog 30 #[(vp p1),(vi t1)] w0 (fun e w'=>∃r3:Sl,∃r4:Int,e=.returned (.tuple #[r3.v,(vi r4)])∧K r3 r4 w'):=by
 unfold m_H2 at h
 refine cw (args:=[(vp p1),(vi t1)]) Tryz.func30 Tryz.ntmps30 ?_
 have hs:=Hst.start w0
 have hb:=HB.nil None w0
 refine wpE_seq (rg (q0 Sl.nil.v (q0 (vi 0) (wpL_nil (th_n (wpE_seq (wpE_seq (rg (q0 (vp p1) (q0 (vi t1) ?_))))))))))
 refine sc Tryz.call43 (h.mono ?_)
 rintro e w1 ⟨aK,aL,aM,aN,aO,aU,aV,r1,rfl,hk,h⟩
 refine ⟨_,rfl,?_⟩
 obtain ⟨hs,hb⟩:=hk.hh hs hb
 refine q0 (.tuple #[(.agg #[(vi aK),(vi aL),(vi aM),(vu aN),(vs aO),(vi aU),(vi aV)]),(vb r1)]) (q0 (.agg #[(vi aK),(vi aL),(vi aM),(vu aN),(vs aO),(vi aU),(vi aV)]) (q0 (vb r1) (sn (O:=(.cells #[(vi 0),(vi 0),(vi 0),(vu 0),(vs ⟨#[]⟩),(vi 0),(vi 0)] 86)) (x_alloc (Tryz.zeroValue86 _) rfl) ?_)))
 intro p2 w2 hn1
 obtain ⟨H1,hs,hb⟩:=hs.alloc hb hn1
 refine st_set (want0 rfl) (x_storeA (a:=p2) (vs:=[(vi aK),(vi aL),(vi aM),(vu aN),(vs aO),(vi aU),(vi aV)]) (by kernel_rfl) (by kernel_rfl) rfl (Tryz.sizeOf86 _) rfl (hb.canWs0 0 7 gZ (by kernel_rfl))) ?_
 intro w3 hn2
 have hsb:Hst w0 None w1 H1 w3∧HB H1 w3 [(p2,[(vi aK),(vi aL),(vi aM),(vu aN),(vs aO),(vi aU),(vi aV)],86)]:=by
  rw [hn2]
  exact hb.store0 (i:=0) (vs:=[(vi aK),(vi aL),(vi aM),(vu aN),(vs aO),(vi aU),(vi aV)]) hs gZ (by kernel_rfl) (by kernel_rfl)
 obtain ⟨hs,hb⟩:=hsb
 refine q0 (vb r1) (wpL_nil (th_n (wpE_seq (rg (q0 (vb r1) (q0 (vb (!r1)) (wpL_nil (th_n ?_))))))))
 refine wpE_cond (t:=(!r1)) (by kernel_rfl) (fun hc1=>?_) (fun hc1=>?_)
 ·have h:=h.1 hc1
  refine wpE_seq (rg (q0 Sl.nil.v (q0 (vi 51) (wpL_nil (th_n (wpE_ret (th_r ?_)))))))
  have h:=h H1 w3 hs
  have hs:=hs.here
  refine res2 (.inl rfl) Tryz.results30 (v:=Sl.nil.v) (by kernel_rfl) (v':=(vi 51)) (by kernel_rfl) ?_
  exact ⟨Sl.nil,51,rfl,h⟩
 ·have h:=h.2 hc1
  refine wpE_skip (th_n (wpE_seq (rg (q0 (vp p1) (q0 (vi t1) ?_)))))
  have h:=h H1 w3 hs
  have hs:=hs.here
  refine sc Tryz.call67 (h.mono ?_)
  rintro e w4 ⟨r2,rfl,hk,h⟩
  refine ⟨_,rfl,?_⟩
  obtain ⟨hs,hb⟩:=hk.hh hs hb
  refine q0 r2.v (wpL_nil (th_n (wpE_seq (wpE_seq (rg (q0 r2.v (q0 (vi (r2.len:Int)) (q0 (vb (decide ((r2.len:Int)>4096))) (wpL_nil (th_n ?_))))))))))
  refine wpE_cond (t:=(decide ((r2.len:Int)>4096))) (by kernel_rfl) (fun hc2=>?_) (fun hc2=>?_)
  ·have h:=h.1 hc2
   refine wpE_seq (rg (q0 Sl.nil.v (q0 (vi 1) (wpL_nil (th_n (wpE_ret (th_r (res2 (.inl rfl) Tryz.results30 (v:=Sl.nil.v) (by kernel_rfl) (v':=(vi 1)) (by kernel_rfl) ?_))))))))
   exact ⟨Sl.nil,1,rfl,h⟩
  ·have h:=h.2 hc2
   refine wpE_skip (th_n (wpE_seq (rg (q0 r2.v (q0 r2.v (q0 (vi 0) (wpL_nil (th_n (wpE_ret (res2 (.inl rfl) Tryz.results30 (v:=r2.v) (by kernel_rfl) (v':=(vi 0)) (by kernel_rfl) ?_))))))))))
   exact ⟨r2,0,rfl,h⟩
def m_I2 (p1:Sl) (w0:World) (K:(Option Addr)→WP):Prop :=
 Calls Tryz.prog 108 #[p1.v] w0 (fun e w1=>∃r1:Sl,e=.returned r1.v∧
  ∀(p2:Addr) (w2:World),New w1 (.cells #[r1.v,(vi 0),(vi 0),(vi 0)] 184) p2 w2 →
  K (some p2) w2)
theorem w_I2 (p1 : Sl) (w0 : World) (K : (Option Addr) → WP) (h : m_I2 p1 w0 K) :
  Calls Tryz.prog 74 #[p1.v] w0 (fun e w'=>∃r2:Option Addr,e=.returned (vp r2)∧K r2 w'):=by
 unfold m_I2 at h
 refine cw (args:=[p1.v]) Tryz.func74 Tryz.ntmps74 (wpE_seq (rg (q0 (vp none) (wpL_nil (th_n (wpE_seq (rg (q0 p1.v ?_))))))))
 refine sc Tryz.call108 (h.mono ?_)
 rintro e w1 ⟨r1,rfl,h⟩
 refine ⟨_,rfl,?_⟩
 refine q0 (.agg #[r1.v,(vi 0),(vi 0),(vi 0)]) (sn (O:=(.cells #[r1.v,(vi 0),(vi 0),(vi 0)] 184)) xb ?_)
 intro p2 w2 hn1
 have h:=h p2 w2 hn1
 refine q0 (vp (some p2)) (wpL_nil (th_n (wpE_ret (rs1 Tryz.results74 (v:=(vp (some p2))) ?_))))
 exact ⟨(some p2),rfl,h⟩
def m_J2 (r1:Option Addr) (w0:World) (K:Int→WP):Prop :=
 Br (Option.isNone r1)
  (K 0 w0)
  (∃a1:Addr,r1=some a1 ∧
  ∀(w1:World),Hst w0 None w0 None w1 →
  ∃v1:Sl,w1.cell? a1=some v1.v ∧
  ∃a2:Addr,r1=some a2 ∧
  ∃v2:Int,w1.cell? (a2.add 1)=some (vi v2) ∧
  K (q6.wrap ((v1.len:Int) - v2)) w1)
theorem w_J2 (r1 : Option Addr) (w0 : World) (K : Int → WP) (h : m_J2 r1 w0 K) :
  Calls Tryz.prog 76 #[(vp r1)] w0 (fun e w'=>∃r2:Int,e=.returned (vi r2)∧K r2 w'):=by
 unfold m_J2 at h
 refine cw (args:=[(vp r1)]) Tryz.func76 Tryz.ntmps76 ?_
 have hs:=Hst.start w0
 have hb:=HB.nil None w0
 refine wpE_seq (rg (q0 (vi 0) (wpL_nil (th_n (wpE_seq (wpE_seq (rg (q0 (vp r1) (q2 (vb (Option.isNone r1)) (x_ptreq (by kernel_rfl) rfl Tryz.underlying125) (wpL_nil (th_n ?_)))))))))))
 refine wpE_cond (t:=(Option.isNone r1)) (by kernel_rfl) (fun hc1=>?_) (fun hc1=>?_)
 ·have h:=h.1 hc1
  refine wpE_seq (rg (q0 (vi 0) (wpL_nil (th_n (wpE_ret (th_r (rs1 Tryz.results76 (v:=(vi 0)) ?_)))))))
  exact ⟨0,rfl,h⟩
 ·have h:=h.2 hc1
  refine wpE_skip (th_n (wpE_seq (wpE_drawnQ (by kernel_rfl) (by kernel_rfl) (by kernel_rfl) (by kernel_rfl) ?_)))
  intro w1 hw1
  have hs:Hst w0 None w0 None w1:=by rw [hw1];exact hs.drew
  have hb:HB None w1 []:=by rw [hw1];exact hb.drew
  refine qq 0 (vp r1) Kp0 (qg 1 ?_)
  obtain ⟨a1,hp1,h⟩:=h
  refine sxQ (v:=(vp (some a1))) Kp1 (want0 rfl) rfl (x_nilCheck (p:=r1) (by kernel_rfl) hp1) (qq 2 (vp (some a1)) Kp2 (qg 3 ?_))
  have h:=h w1 hs
  have hs:=hs.here
  obtain ⟨v1,hv2,h⟩:=h
  refine sxQ (v:=v1.v) Kp3 (want0 rfl) rfl (xl (Tryz.isAgg23 _) hv2) (qq 4 (vi (v1.len:Int)) Kp4 (qq 5 (vp r1) Kp5 (qg 6 ?_)))
  obtain ⟨a2,hp2,h⟩:=h
  refine sxQ (v:=(vp (some a2))) Kp6 (want0 rfl) rfl (x_nilCheck (p:=r1) (by kernel_rfl) hp2) (qq 7 (vp (some (a2.add 1))) Kp7 (qg 8 ?_))
  obtain ⟨v2,hv1,h⟩:=h
  refine sxQ (v:=(vi v2)) Kp8 (want0 rfl) rfl (xl (Tryz.isAgg3 _) hv1) (qq 9 (vi (q6.wrap ((v1.len:Int) - v2))) Kp9 (qq 10 (vi (q6.wrap ((v1.len:Int) - v2))) (pickA (S8 (pickS (pickS pickZ)))) (wn (th_n (wpE_ret (rs1 Tryz.results76 (v:=(vi (q6.wrap ((v1.len:Int) - v2)))) ?_))))))
  exact ⟨(q6.wrap ((v1.len:Int) - v2)),rfl,h⟩
def m_K2 (r1:Option Addr) (w0:World) (K:Int→WP):Prop :=
 Br (Option.isNone r1)
  (K 0 w0)
  (∃a1:Addr,r1=some a1 ∧
  ∃v1:Int,w0.cell? (a1.add 1)=some (vi v1) ∧
  K v1 w0)
theorem w_K2 (r1 : Option Addr) (w0 : World) (K : Int → WP) (h : m_K2 r1 w0 K) :
  Calls Tryz.prog 77 #[(vp r1)] w0 (fun e w'=>∃r2:Int,e=.returned (vi r2)∧K r2 w'):=by
 unfold m_K2 at h
 refine cw (args:=[(vp r1)]) Tryz.func77 Tryz.ntmps77 (wpE_seq (rg (q0 (vi 0) (wpL_nil (th_n (wpE_seq (wpE_seq (rg (q0 (vp r1) (q2 (vb (Option.isNone r1)) (x_ptreq (by kernel_rfl) rfl Tryz.underlying125) (wpL_nil ?_)))))))))))
 refine th_n ?_
 refine wpE_cond (t:=(Option.isNone r1)) (by kernel_rfl) (fun hc1=>?_) (fun hc1=>?_)
 ·have h:=h.1 hc1
  refine wpE_seq (rg (q0 (vi 0) (wpL_nil (th_n (wpE_ret (th_r (rs1 Tryz.results77 (v:=(vi 0)) ?_)))))))
  exact ⟨0,rfl,h⟩
 ·have h:=h.2 hc1
  refine wpE_skip (th_n (wpE_seq (rg (q0 (vp r1) ?_))))
  obtain ⟨a1,hp1,h⟩:=h
  refine q2 (vp (some a1)) (x_nilCheck (p:=r1) (by kernel_rfl) hp1) (q0 (vp (some (a1.add 1))) ?_)
  obtain ⟨v1,hv1,h⟩:=h
  refine q2 (vi v1) (xl (Tryz.isAgg3 _) hv1) (q0 (vi v1) (wpL_nil (th_n (wpE_ret (rs1 Tryz.results77 (v:=(vi v1)) ?_)))))
  exact ⟨v1,rfl,h⟩
def m_L2 (r1:Option Addr) (w0:World) (K:Int→WP):Prop :=
 ∀(p1:Addr) (w1:World),New w0 (.cells #[(vp r1)] 125) p1 w1 →
 ∀(p2:Addr) (w2:World),New w1 (.cells #[(.int .u8 0)] 5) p2 w2 →
 ∃v1:Option Addr,w2.cell? p1=some (vp v1) ∧
 Calls Tryz.prog 146 #[(vp v1),(.func (.func 150) #[] #[(vp (some p1)),(vp (some p2))])] w2 (fun e w3=>e=.returned (.tuple #[])∧
  ∃v2:Int,w3.cell? p2=some (.int .u8 v2) ∧
  CanW w3 p2∧∀w4:World,w4=w3.setCell p2 (.int .u8 v2) →
  ∃aJ:Int,w4.cell? p2=some (.int .u8 aJ) ∧
  K aJ w4)
theorem w_L2 (r1 : Option Addr) (w0 : World) (K : Int → WP) (h : m_L2 r1 w0 K) :
  Calls Tryz.prog 125 #[(vp r1)] w0 (fun e w'=>∃r2:Int,e=.returned (.int .u8 r2)∧K r2 w'):=by
 unfold m_L2 at h
 refine cw (args:=[(vp r1)]) Tryz.func125 Tryz.ntmps125 (wpE_seq (rg (sn (O:=(.cells #[(vp r1)] 125)) xb ?_)))
 intro p1 w1 hn3
 have h:=h p1 w1 hn3
 refine sn (O:=(.cells #[(.int .u8 0)] 5)) (x_alloc (Tryz.zeroValue5 _) rfl) ?_
 intro p2 w2 hn2
 have h:=h p2 w2 hn2
 refine wpL_nil (th_n (wpE_seq (rg ?_)))
 obtain ⟨v1,hv3,h⟩:=h
 refine q2 (vp v1) (xl (Tryz.isAgg125 _) hv3) (q0 (.func (.func 150) #[] #[(vp (some p1)),(vp (some p2))]) ?_)
 refine sc Tryz.call146 (h.mono ?_)
 rintro e w3 ⟨rfl,h⟩
 refine ⟨_,rfl,?_⟩
 refine wpL_nil (th_n (wpE_seq (rg ?_)))
 obtain ⟨v2,hv2,h⟩:=h
 refine q2 (.int .u8 v2) (xl (Tryz.isAgg5 _) hv2) ?_
 obtain ⟨hp1,h⟩:=h
 refine st_set (want0 rfl) (x_store (a:=p2) (v:=(.int .u8 v2)) (by kernel_rfl) (by kernel_rfl) rfl (Tryz.sizeOf5 _) hp1) ?_
 intro w4 hn1
 have h:=h w4 hn1
 refine wpL_nil (th_n (wpE_ret ?_))
 obtain ⟨aJ,hv1,h⟩:=h
 refine resG (.inl rfl) (vs:=[(.int .u8 aJ)]) (v:=(.int .u8 aJ)) Tryz.results125 ⟨(RV.cell1 (A:=p2) (by kernel_rfl) (Tryz.isAgg5 _) hv1),trivial⟩ (by kernel_rfl) ?_
 exact ⟨aJ,rfl,h⟩
def m_M2 (r1:Option Addr) (w0:World) (K:Int→Int→WP):Prop :=
 Br (Option.isNone r1)
  (K 0 0 w0)
  (∃a1:Addr,r1=some a1 ∧
  ∀(w1:World),Hst w0 None w0 None w1 →
  ∃v1:Int,w1.cell? (a1.add 2)=some (vi v1) ∧
  ∃a2:Addr,r1=some a2 ∧
  ∃v2:Int,w1.cell? (a2.add 3)=some (vi v2) ∧
  K v1 v2 w1)
theorem w_M2 (r1 : Option Addr) (w0 : World) (K : Int → Int → WP) (h : m_M2 r1 w0 K) :
  Calls Tryz.prog 126 #[(vp r1)] w0 (fun e w'=>∃r2 r3:Int,e=.returned (.tuple #[(vi r2),(vi r3)])∧K r2 r3 w'):=by
 unfold m_M2 at h
 refine cw (args:=[(vp r1)]) Tryz.func126 Tryz.ntmps126 ?_
 have hs:=Hst.start w0
 have hb:=HB.nil None w0
 refine wpE_seq (rg (q0 (vi 0) (q0 (vi 0) (wpL_nil (th_n (wpE_seq (wpE_seq (rg (q0 (vp r1) (q2 (vb (Option.isNone r1)) (x_ptreq (by kernel_rfl) rfl Tryz.underlying125) (wpL_nil ?_)))))))))))
 refine th_n ?_
 refine wpE_cond (t:=(Option.isNone r1)) (by kernel_rfl) (fun hc1=>?_) (fun hc1=>?_)
 ·have h:=h.1 hc1
  refine wpE_seq (rg (q0 (vi 0) (q0 (vi 0) (wpL_nil (th_n (wpE_ret (th_r (res2 (.inl rfl) Tryz.results126 (v:=(vi 0)) (by kernel_rfl) (v':=(vi 0)) (by kernel_rfl) ?_))))))))
  exact ⟨0,0,rfl,h⟩
 ·have h:=h.2 hc1
  refine wpE_skip (th_n (wpE_seq (wpE_drawnQ (by kernel_rfl) (by kernel_rfl) (by kernel_rfl) (by kernel_rfl) ?_)))
  intro w1 hw1
  have hs:Hst w0 None w0 None w1:=by rw [hw1];exact hs.drew
  have hb:HB None w1 []:=by rw [hw1];exact hb.drew
  refine qq 0 (vp r1) Kp0 (qg 1 ?_)
  obtain ⟨a1,hp1,h⟩:=h
  refine sxQ (v:=(vp (some a1))) Kp1 (want0 rfl) rfl (x_nilCheck (p:=r1) (by kernel_rfl) hp1) (qq 2 (vp (some (a1.add 2))) Kp2 (qg 3 ?_))
  have h:=h w1 hs
  have hs:=hs.here
  obtain ⟨v1,hv2,h⟩:=h
  refine sxQ (v:=(vi v1)) Kp3 (want0 rfl) rfl (xl (Tryz.isAgg31 _) hv2) (qq 4 (vp r1) Kp4 (qg 5 ?_))
  obtain ⟨a2,hp2,h⟩:=h
  refine sxQ (v:=(vp (some a2))) Kp5 (want0 rfl) rfl (x_nilCheck (p:=r1) (by kernel_rfl) hp2) (qq 6 (vp (some (a2.add 3))) Kp6 (qg 7 ?_))
  obtain ⟨v2,hv1,h⟩:=h
  refine sxQ (v:=(vi v2)) Kp7 (want0 rfl) rfl (xl (Tryz.isAgg3 _) hv1) (qq 8 (vi v1) Kp8 (qq 9 (vi v2) Kp9 (wn (th_n (wpE_ret (res2 (.inl rfl) Tryz.results126 (v:=(vi v1)) (by kernel_rfl) (v':=(vi v2)) (by kernel_rfl) ?_))))))
  exact ⟨v1,v2,rfl,h⟩
def s_L (n1:Int):Int :=
 (cond (decide (n1>2147483647)) (-1) (q6.wrap n1))
theorem pw_L (n1 : Int) (w0 : World) :
  Calls Tryz.prog 127 #[(vu n1)] w0 (fun e w'=>∃b'0:Bool,((decide (n1>2147483647))=b'0)∧(e=.returned (vi (cond b'0 (-1) (q6.wrap n1))))∧Pure w0 w'):=by
 refine cw (args:=[(vu n1)]) Tryz.func127 Tryz.ntmps127 (wpE_seq (rg (q0 (vi 0) (wpL_nil (th_n (wpE_seq (wpE_seq (rg (q0 (vu n1) (q0 (vb (decide (n1>2147483647))) (wpL_nil ?_)))))))))))
 refine th_n ?_
 refine wpE_cond (t:=(decide (n1>2147483647))) (by kernel_rfl) (fun hc1=>?_) (fun hc1=>?_)
 ·refine wpE_seq (rg (q0 (vi (-1)) (wpL_nil (th_n (wpE_ret (th_r (rs1 Tryz.results127 (v:=(vi (-1))) ?_)))))))
  exact ⟨true,hc1,by kernel_rfl,Ext.refl _⟩
 ·refine wpE_skip (th_n (wpE_seq (rg (q0 (vu n1) (q0 (vi (q6.wrap n1)) (q0 (vi (q6.wrap n1)) (wpL_nil (th_n (wpE_ret (rs1 Tryz.results127 (v:=(vi (q6.wrap n1))) ?_))))))))))
  exact ⟨false,hc1,by kernel_rfl,Ext.refl _⟩
theorem p_L (n1:Int) (w0:World):Calls Tryz.prog 127 #[(.int .u64 n1)] w0 (fun e w'=>e=.returned (.int .i64 (s_L n1))∧Pure w0 w'):=by
 refine (pw_L n1 w0).mono ?_
 rintro e w' ⟨b'0,e0,h,E⟩
 subst e0
 exact ⟨h,E⟩
def s_O (aB aA:Int) (aC aD:Int) (aE:ByteArray) (aF aG:Int):Int :=
 (cond (((((decide (aA<0)) || (decide (aA≥16))) || (decide (aC<0))) || (decide (aC≥16))) || (((aB == 8) || (aB == 9)) && (aA == aC))) 50 0)
theorem pw_O (aB aA : Int) (aC aD : Int) (aE : ByteArray) (aF aG : Int) (w0 : World) :
  Calls Tryz.prog 128 #[(.agg #[(vi aB),(vi aA),(vi aC),(vu aD),(vs aE),(vi aF),(vi aG)])] w0 (fun e w'=>∃b'0:Bool,((((((decide (aA<0)) || (decide (aA≥16))) || (decide (aC<0))) || (decide (aC≥16))) || (((aB == 8) || (aB == 9)) && (aA == aC)))=b'0)∧(e=.returned (vi (cond b'0 50 0)))∧Pure w0 w'):=by
 refine cw (args:=[(.agg #[(vi aB),(vi aA),(vi aC),(vu aD),(vs aE),(vi aF),(vi aG)])]) Tryz.func128 Tryz.ntmps128 ?_
 have hs:=Hst.start w0
 have hb:=HB.nil None w0
 refine wpE_seq (rg (sn (O:=(.cells #[(vi aB),(vi aA),(vi aC),(vu aD),(vs aE),(vi aF),(vi aG)] 86)) xb ?_))
 intro p1 w1 hn1
 obtain ⟨H1,hs,hb⟩:=hs.alloc hb hn1
 refine q0 (vi 0) (wpL_nil (th_n (wpE_seq ?_)))
 refine wpE_via (fun ρ wJ=>∃HJ:NP,Hst w0 None w0 HJ wJ∧HB HJ wJ [(p1,[(vi aB),(vi aA),(vi aC),(vu aD),(vs aE),(vi aF),(vi aG)],86)]∧Has ρ [(1,(vp (some p1))),(3,(vb ((aB == 8) || (aB == 9))))]) ?_ ?_
 ·refine rg (q0 (vp (some p1)) (q2 (vi aB) (xl (Tryz.isAgg3 _) (hb.c0 0 gZ)) (q0 (vb (aB == 8)) (q0 (vb (aB == 8)) ?_))))
  refine wpL_join 4 (fun ρ wJ=>∃b3'0:Bool,∃HJ:NP,((aB == 8)=b3'0)∧Hst w0 None w0 HJ wJ∧HB HJ wJ [(p1,[(vi aB),(vi aA),(vi aC),(vu aD),(vs aE),(vi aF),(vi aG)],86)]∧Has ρ [(1,(vp (some p1))),(11,(vb (b3'0 || (aB == 9))))]) ?_ ?_
  ·rintro ρ w4 ⟨b3'0,H4,he0,hs,hb,hH⟩
   subst he0
   refine wpL_has hH ?_
   refine q0 (vb ((aB == 8) || (aB == 9))) (wpL_nil (th_n ?_))
   exact ⟨_,hs,hb,hm⟩
  ·rcases Bool.eq_false_or_eq_true (aB == 8) with hg4 | hg4
   ·refine sk (yD 7 hg4) (sk (yD 7 hg4) (sk (yD 7 hg4) (q2 (vb true) (xT hg4) (wpL_nil ?_))))
    exact ⟨true,_,hg4,hs,hb,hm⟩
   ·refine q1 (vp (some p1)) (want1 rfl (yD 7 hg4)) (stp (v:=(vi aB)) (want1 rfl (yD 7 hg4)) (xl (Tryz.isAgg3 _) (hb.c0 0 gZ)) (q1 (vb (aB == 9)) (want1 rfl (yD 7 hg4)) (q2 (vb (aB == 9)) (xF hg4) (wpL_nil ?_))))
    exact ⟨false,_,hg4,hs,hb,hm⟩
 ·rintro ρ w3 ⟨H3,hs,hb,hH⟩
  refine norm_has hH ?_
  refine th_n (wpE_seq (wpE_seq ?_))
  refine wpE_via (fun ρ wJ=>∃b8'0:Bool,∃HJ:NP,(((((decide (aA<0)) || (decide (aA≥16))) || (decide (aC<0))) || (decide (aC≥16)))=b8'0)∧Hst w0 None w0 HJ wJ∧HB HJ wJ [(p1,[(vi aB),(vi aA),(vi aC),(vu aD),(vs aE),(vi aF),(vi aG)],86)]∧Has ρ [(39,(vb (b8'0 || (((aB == 8) || (aB == 9)) && (aA == aC)))))]) ?_ ?_
  ·refine rg (q0 (vp (some (p1.add 1))) (q2 (vi aA) (xl (Tryz.isAgg3 _) (hb.c 0 1 gZ)) (q0 (vb (decide (aA<0))) (q0 (vb (decide (aA<0))) ?_))))
   refine wpL_join 4 (fun ρ wJ=>∃b9'0:Bool,∃HJ:NP,((decide (aA<0))=b9'0)∧Hst w0 None w0 HJ wJ∧HB HJ wJ [(p1,[(vi aB),(vi aA),(vi aC),(vu aD),(vs aE),(vi aF),(vi aG)],86)]∧Has ρ [(1,(vp (some p1))),(3,(vb ((aB == 8) || (aB == 9)))),(19,(vb (b9'0 || (decide (aA≥16)))))]) ?_ ?_
   ·rintro ρ w10 ⟨b9'0,H10,he0,hs,hb,hH⟩
    subst he0
    refine wpL_has hH ?_
    refine q0 (vb ((decide (aA<0)) || (decide (aA≥16)))) ?_
    refine wpL_join 4 (fun ρ wJ=>∃b10'0:Bool,∃HJ:NP,(((decide (aA<0)) || (decide (aA≥16)))=b10'0)∧Hst w0 None w0 HJ wJ∧HB HJ wJ [(p1,[(vi aB),(vi aA),(vi aC),(vu aD),(vs aE),(vi aF),(vi aG)],86)]∧Has ρ [(1,(vp (some p1))),(3,(vb ((aB == 8) || (aB == 9)))),(24,(vb (b10'0 || (decide (aC<0)))))]) ?_ ?_
    ·rintro ρ w11 ⟨b10'0,H11,he0,hs,hb,hH⟩
     subst he0
     refine wpL_has hH ?_
     refine q0 (vb (((decide (aA<0)) || (decide (aA≥16))) || (decide (aC<0)))) ?_
     refine wpL_join 4 (fun ρ wJ=>∃b11'0:Bool,∃HJ:NP,((((decide (aA<0)) || (decide (aA≥16))) || (decide (aC<0)))=b11'0)∧Hst w0 None w0 HJ wJ∧HB HJ wJ [(p1,[(vi aB),(vi aA),(vi aC),(vu aD),(vs aE),(vi aF),(vi aG)],86)]∧Has ρ [(1,(vp (some p1))),(3,(vb ((aB == 8) || (aB == 9)))),(29,(vb (b11'0 || (decide (aC≥16)))))]) ?_ ?_
     ·rintro ρ w12 ⟨b11'0,H12,he0,hs,hb,hH⟩
      subst he0
      refine wpL_has hH ?_
      refine q0 (vb ((((decide (aA<0)) || (decide (aA≥16))) || (decide (aC<0))) || (decide (aC≥16)))) ?_
      rcases Bool.eq_false_or_eq_true ((((decide (aA<0)) || (decide (aA≥16))) || (decide (aC<0))) || (decide (aC≥16))) with hg20 | hg20
      ·refine sk (yD 30 hg20) (sk (yD 30 hg20) (sm (sm (sm (sm (sm (sk (yD 30 hg20) (q2 (vb true) (xT hg20) (wpL_nil (th_n ?_))))))))))
       exact ⟨true,_,hg20,hs,hb,hm⟩
      ·refine q1 (vb ((aB == 8) || (aB == 9))) (want1 rfl (yD 30 hg20)) (q1 (vb ((aB == 8) || (aB == 9))) (want1 rfl (yD 30 hg20)) ?_)
       refine wpL_join 6 (fun ρ wJ=>∃b12'0:Bool,∃HJ:NP,(((aB == 8) || (aB == 9))=b12'0)∧Hst w0 None w0 HJ wJ∧HB HJ wJ [(p1,[(vi aB),(vi aA),(vi aC),(vu aD),(vs aE),(vi aF),(vi aG)],86)]∧Has ρ [(30,(vb ((((decide (aA<0)) || (decide (aA≥16))) || (decide (aC<0))) || (decide (aC≥16))))),(38,(vb (b12'0 && (aA == aC))))]) ?_ ?_
       ·rintro ρ w13 ⟨b12'0,H13,he0,hs,hb,hH⟩
        subst he0
        refine wpL_has hH ?_
        refine q2 (vb (((aB == 8) || (aB == 9)) && (aA == aC))) (xF hg20) (wpL_nil (th_n ?_))
        exact ⟨false,_,hg20,hs,hb,hm⟩
       ·rcases Bool.eq_false_or_eq_true ((aB == 8) || (aB == 9)) with hg22 | hg22
        ·refine q1 (vp (some (p1.add 1))) (want1 rfl (yD 32 hg22)) (stp (v:=(vi aA)) (want1 rfl (yD 32 hg22)) (xl (Tryz.isAgg3 _) (hb.c 0 1 gZ)) (q1 (vp (some (p1.add 2))) (want1 rfl (yD 32 hg22)) (stp (v:=(vi aC)) (want1 rfl (yD 32 hg22)) (xl (Tryz.isAgg3 _) (hb.c 0 2 gZ)) (q1 (vb (aA == aC)) (want1 rfl (yD 32 hg22)) (stp (v:=(vb (aA == aC))) (want1 rfl (yD 30 hg20)) (xT hg22) (wpL_nil ?_))))))
         exact ⟨true,_,hg22,hs,hb,hm⟩
        ·refine sk (yD 32 hg22) (sk (yD 32 hg22) (sk (yD 32 hg22) (sk (yD 32 hg22) (sk (yD 32 hg22) (stp (v:=(vb false)) (want1 rfl (yD 30 hg20)) (xF hg22) (wpL_nil ?_))))))
         exact ⟨false,_,hg22,hs,hb,hm⟩
     ·rcases Bool.eq_false_or_eq_true (((decide (aA<0)) || (decide (aA≥16))) || (decide (aC<0))) with hg19 | hg19
      ·refine sk (yD 25 hg19) (sk (yD 25 hg19) (sk (yD 25 hg19) (q2 (vb true) (xT hg19) (wpL_nil ?_))))
       exact ⟨true,_,hg19,hs,hb,hm⟩
      ·refine q1 (vp (some (p1.add 2))) (want1 rfl (yD 25 hg19)) (stp (v:=(vi aC)) (want1 rfl (yD 25 hg19)) (xl (Tryz.isAgg3 _) (hb.c 0 2 gZ)) (q1 (vb (decide (aC≥16))) (want1 rfl (yD 25 hg19)) (q2 (vb (decide (aC≥16))) (xF hg19) (wpL_nil ?_))))
       exact ⟨false,_,hg19,hs,hb,hm⟩
    ·rcases Bool.eq_false_or_eq_true ((decide (aA<0)) || (decide (aA≥16))) with hg17 | hg17
     ·refine sk (yD 20 hg17) (sk (yD 20 hg17) (sk (yD 20 hg17) (q2 (vb true) (xT hg17) (wpL_nil ?_))))
      exact ⟨true,_,hg17,hs,hb,hm⟩
     ·refine q1 (vp (some (p1.add 2))) (want1 rfl (yD 20 hg17)) (stp (v:=(vi aC)) (want1 rfl (yD 20 hg17)) (xl (Tryz.isAgg3 _) (hb.c 0 2 gZ)) (q1 (vb (decide (aC<0))) (want1 rfl (yD 20 hg17)) (q2 (vb (decide (aC<0))) (xF hg17) (wpL_nil ?_))))
      exact ⟨false,_,hg17,hs,hb,hm⟩
   ·rcases Bool.eq_false_or_eq_true (decide (aA<0)) with hg15 | hg15
    ·refine sk (yD 15 hg15) (sk (yD 15 hg15) (sk (yD 15 hg15) (q2 (vb true) (xT hg15) (wpL_nil ?_))))
     exact ⟨true,_,hg15,hs,hb,hm⟩
    ·refine q1 (vp (some (p1.add 1))) (want1 rfl (yD 15 hg15)) (stp (v:=(vi aA)) (want1 rfl (yD 15 hg15)) (xl (Tryz.isAgg3 _) (hb.c 0 1 gZ)) (q1 (vb (decide (aA≥16))) (want1 rfl (yD 15 hg15)) (q2 (vb (decide (aA≥16))) (xF hg15) (wpL_nil ?_))))
     exact ⟨false,_,hg15,hs,hb,hm⟩
  ·rintro ρ w9 ⟨b8'0,H9,he0,hs,hb,hH⟩
   subst he0
   refine norm_has hH ?_
   refine th_n ?_
   refine wpE_cond (t:=(((((decide (aA<0)) || (decide (aA≥16))) || (decide (aC<0))) || (decide (aC≥16))) || (((aB == 8) || (aB == 9)) && (aA == aC)))) (by kernel_rfl) (fun hc1=>?_) (fun hc1=>?_)
   ·refine wpE_seq (rg (q0 (vi 50) (wpL_nil (th_n (wpE_ret (th_r (rs1 Tryz.results128 (v:=(vi 50)) ?_)))))))
    exact ⟨true,hc1,by kernel_rfl,(Ext.refl (F:=None) _).hst hs⟩
   ·refine wpE_skip (th_n (wpE_seq (rg (q0 (vi 0) (wpL_nil (th_n (wpE_ret (rs1 Tryz.results128 (v:=(vi 0)) ?_))))))))
    exact ⟨false,hc1,by kernel_rfl,(Ext.refl (F:=None) _).hst hs⟩
theorem p_O (aB aA:Int) (aC aD:Int) (aE:ByteArray) (aF aG:Int) (w0:World):Calls Tryz.prog 128 #[(.agg #[(.int .i64 aB),(.int .i64 aA),(.int .i64 aC),(.int .u64 aD),(.string aE),(.int .i64 aF),(.int .i64 aG)])] w0 (fun e w'=>e=.returned (.int .i64 (s_O aB aA aC aD aE aF aG))∧Pure w0 w'):=by
 refine (pw_O aB aA aC aD aE aF aG w0).mono ?_
 rintro e w' ⟨b'0,e0,h,E⟩
 subst e0
 exact ⟨h,E⟩
def m_G_j4 (aJ:Option Addr) (p1:Addr) (H:NP) (w:World) (K:Int→WP):Prop :=
 ∃bD bE:Int,∃bF bG:Int,∃bH:ByteArray,∃dH dI:Int,Row w p1 [(vi bD),(vi bE),(vi bF),(vu bG),(vs bH),(vi dH),(vi dI)] ∧
 Calls Tryz.prog 129 #[(vp aJ),(.agg #[(vi bD),(vi bE),(vi bF),(vu bG),(vs bH),(vi dH),(vi dI)])] w (fun e w14=>∃r8:Int,∃r9:Bool,e=.returned (.tuple #[(vi r8),(vb r9)])∧
  Kept H w w14 ∧
  Br r9
   (K 72 w14)
   (∃dJ dK:Int,∃dL dM:Int,∃dN:ByteArray,∃dO dP:Int,Row w14 p1 [(vi dJ),(vi dK),(vi dL),(vu dM),(vs dN),(vi dO),(vi dP)] ∧
   Calls Tryz.prog 66 #[(vp aJ),(.agg #[(vi dJ),(vi dK),(vi dL),(vu dM),(vs dN),(vi dO),(vi dP)])] w14 (fun e w15=>∃r10 r11:Int,e=.returned (.tuple #[(vi r10),(vi r11)])∧
    Kept H w14 w15 ∧
    K r11 w15)))
def m_G_j3 (aJ:Option Addr) (p1:Addr) (H:NP) (w:World) (K:Int→WP):Prop :=
 ∃v7:Int,w.cell? (p1.add 11)=some (vi v7) ∧
 Br (decide (v7>1))
  (∃v8:Int,w.cell? (p1.add 10)=some (vu v8) ∧
  CanW w (p1.add 6)∧¬ H (p1.add 6).block∧∀w16:World,w16=w.setCell (p1.add 6) (vi (q6.wrap (IntKind.u64.wrap (v8+1)))) →
  m_G_j4 aJ p1 H w16 K)
  (m_G_j4 aJ p1 H w K)
def m_G_j2 (aJ:Option Addr) (p1:Addr) (x2:Bool) (H:NP) (w:World) (K:Int→WP):Prop :=
 Br x2
  (K 71 w)
  (∃v6:Int,w.cell? (p1.add 11)=some (vi v6) ∧
  Br (decide (v6>0))
   (∃v9:Int,w.cell? (p1.add 9)=some (vu v9) ∧
   CanW w (p1.add 5)∧¬ H (p1.add 5).block∧∀w17:World,w17=w.setCell (p1.add 5) (vi (q6.wrap (IntKind.u64.wrap (v9+1)))) →
   m_G_j3 aJ p1 H w17 K)
   (m_G_j3 aJ p1 H w K))
def m_G_j5 (aJ:Option Addr) (p1:Addr) (r7:Int) (x3:Bool) (H:NP) (w:World) (K:Int→WP):Prop :=
 Br x3
  (m_G_j2 aJ p1 true H w K)
  (∃v11:Int,w.cell? (p1.add 11)=some (vi v11) ∧
  Br (decide (v11>1))
   (∃v12:Int,w.cell? (p1.add 10)=some (vu v12) ∧
   m_G_j2 aJ p1 (decide (v12≥(IntKind.u64.wrap r7))) H w K)
   (m_G_j2 aJ p1 false H w K))
def m_G_l1 (aJ:Option Addr) (r1:Option Addr) (p1:Addr) (v2:Sl) (x1:Int) (w0:World) (Hl1:NP) (wl1:World) (Kc1:Int→NP→WP) (K:Int→WP):Prop :=
 Br (decide (x1<(v2.len:Int)))
  (∃a1:Addr,At v2 x1 2 a1 ∧
  ∃vput1:Value,∃vget1:Value,Row wl1 a1 [vput1,vget1] ∧
  ∀(p2:Addr) (w3:World),New wl1 (.cells #[(.nilFunc:Value),(.nilFunc:Value)] 174) p2 w3 →
  ([vput1,vget1].all oneCell=true∧∀j,j<2→CanW w3 (p2.add j))∧¬ Hl1 p2.block∧∀w4:World,w4=storeRow w3 p2 [vput1,vget1] →
  ∃v3:Value,w4.cell? (p2.add 1)=some v3 ∧
  ∃(f1:FuncId) (fs1 cs1:Array Value),v3=.func (.func f1) fs1 cs1 ∧
  (∀args w,(callFunc f1 args).run Tryz.prog w=.ok (.enter f1 args) w)∧Calls Tryz.prog f1 (fs1++#[(vp r1),(vp (some p1))]++cs1) w4 (fun e w5=>e=.returned (.tuple #[])∧
   Kept Hl1 w4 w5 ∧
   Kc1 (q6.wrap (x1+1)) Hl1 w5))
  (Calls Tryz.prog 126 #[(vp r1)] wl1 (fun e w6=>∃r3 r4:Int,e=.returned (.tuple #[(vi r3),(vi r4)])∧
   Kept Hl1 wl1 w6 ∧
   Br (r3 != 0)
    (K r3 w6)
    (∃C1:WP,C1 w6.drew∧∀w7,w7=w6.drew →
    ∃v4:Int,w7.cell? (p1.add 7)=some (vu v4) ∧
    ∃v5:Int,(∀w',C1 w'→w'.cell? (p1.add 8)=some (vu v5)) ∧
    Calls Tryz.prog 127 #[(vu v4)] w7 (fun e w8=>∃r5:Int,e=.returned (vi r5)∧C1 w8∧
     Kept Hl1 w7 w8 ∧
     Calls Tryz.prog 127 #[(vu v5)] w8 (fun e w9=>∃r6:Int,e=.returned (vi r6)∧C1 w9∧
      Kept Hl1 w8 w9 ∧
      CanW w9 (p1.add 1)∧¬ Hl1 (p1.add 1).block∧∀w10:World,w10=w9.setCell (p1.add 1) (vi r5)→C1 w10 ∧
      CanW w10 (p1.add 2)∧¬ Hl1 (p1.add 2).block∧∀w11:World,w11=w10.setCell (p1.add 2) (vi r6) →
      ∃aW aX:Int,∃aY aZ:Int,∃bA:ByteArray,∃bB bC:Int,Row w11 p1 [(vi aW),(vi aX),(vi aY),(vu aZ),(vs bA),(vi bB),(vi bC)] ∧
      Br (((s_O aW aX aY aZ bA bB bC):Int) != 0)
       (∀(w12:World),Hst w0 Hl1 w11 Hl1 w12 →
       K (s_O aW aX aY aZ bA bB bC) w12)
       (∀(w12:World),Hst w0 Hl1 w11 Hl1 w12 →
       Calls Tryz.prog 13 #[(vp aJ)] w12 (fun e w13=>∃r7:Int,e=.returned (vi r7)∧
        Kept Hl1 w12 w13 ∧
        ∃v10:Int,w13.cell? (p1.add 11)=some (vi v10) ∧
        Br (decide (v10>0))
         (∃v13:Int,w13.cell? (p1.add 9)=some (vu v13) ∧
         m_G_j5 aJ p1 r7 (decide (v13≥(IntKind.u64.wrap r7))) Hl1 w13 K)
         (m_G_j5 aJ p1 r7 false Hl1 w13 K))))))))
def m_G (aJ:Option Addr) (r1:Option Addr) (kinds1:Option Nat) (w0:World) (K:Int→WP):Prop :=
 Calls Tryz.prog 125 #[(vp r1)] w0 (fun e w1=>∃r2:Int,e=.returned (.int .u8 r2)∧
  Kept None w0 w1 ∧
  ∀(p1:Addr) (w2:World),New w1 (.cells #[(vi (q6.wrap r2)),(vi 0),(vi 0),(vu 0),(vs ⟨#[]⟩),(vi 0),(vi 0),(vu 0),(vu 0),(vu 0),(vu 0),(vi 0)] 188) p1 w2 →
  ∃v1:Int,w2.cell? p1=some (vi v1) ∧
  ∃v2:Sl,∃ok1:Bool,(Instr.lookup 127 (.map kinds1) (vi v1) true).run Tryz.prog w2=.ok (.tuple #[v2.v,(vb ok1)]) w2 ∧
  Br (!ok1)
   (K 70 w2)
   (∃(I1:Int→NP→WP) (mu1:Int→World→Nat),I1 0 None w2 ∧
    ∀(x1:Int) (Hl1:NP) (wl1:World),Hst w0 Hl1 wl1 Hl1 wl1→I1 x1 Hl1 wl1→m_G_l1 aJ r1 p1 v2 x1 w0 Hl1 wl1 (fun y'0 H' w'=>I1 y'0 H' w'∧mu1 y'0 w'<mu1 x1 wl1) K))
theorem w_G (aJ : Option Addr) (r1 : Option Addr) (kinds1 : Option Nat) (w0 : World) (K : Int → WP) (h : m_G aJ r1 kinds1 w0 K) :
  Calls Tryz.prog 78 #[(vp aJ),(vp r1),(.map kinds1)] w0 (fun e w'=>∃r12:Int,e=.returned (vi r12)∧K r12 w'):=by
 unfold m_G at h
 refine cw (args:=[(vp aJ),(vp r1),(.map kinds1)]) Tryz.func78 Tryz.ntmps78 ?_
 have hs:=Hst.start w0
 have hb:=HB.nil None w0
 refine wpE_seq (rg (q0 (vi 0) (wpL_nil (th_n (wpE_seq (rg (q0 (vp r1) ?_)))))))
 refine sc Tryz.call125 (h.mono ?_)
 rintro e w1 ⟨r2,rfl,hk,h⟩
 refine ⟨_,rfl,?_⟩
 obtain ⟨hs,hb⟩:=hk.hh hs hb
 refine q0 (vi (q6.wrap r2)) (q0 (.agg #[(vi (q6.wrap r2)),(vi 0),(vi 0),(vu 0),(vs ⟨#[]⟩),(vi 0),(vi 0)]) (q0 (.agg #[(vi (q6.wrap r2)),(vi 0),(vi 0),(vu 0),(vs ⟨#[]⟩),(vi 0),(vi 0),(vu 0),(vu 0),(vu 0),(vu 0),(vi 0)]) (sn (O:=(.cells #[(vi (q6.wrap r2)),(vi 0),(vi 0),(vu 0),(vs ⟨#[]⟩),(vi 0),(vi 0),(vu 0),(vu 0),(vu 0),(vu 0),(vi 0)] 188)) xb ?_)))
 intro p1 w2 hn7
 have h:=h p1 w2 hn7
 have hs:=hs.again (Ext.new (F:=None) hn7).keptP
 have hb:=hb.kept (Ext.new (F:=None) hn7).keptP
 refine q0 (vp (some p1)) (wpL_nil (th_n (wpE_seq (rg (q0 (.map kinds1) (q0 (vp (some p1)) (q0 (vp (some p1)) (q0 (vp (some p1)) (q0 (vp (some p1)) ?_)))))))))
 obtain ⟨v1,hv18,h⟩:=h
 refine q2 (vi v1) (xl (Tryz.isAgg3 _) hv18) ?_
 obtain ⟨v2,ok1,hv17,h⟩:=h
 refine q2 (.tuple #[v2.v,(vb ok1)]) (x_lookup (by kernel_rfl) (by kernel_rfl) hv17) (q0 (.tuple #[v2.v,(vb ok1)]) (q0 v2.v (q0 (vb ok1) (q0 v2.v (q0 (vb ok1) (wpL_nil (th_n (wpE_seq (wpE_seq (rg (q0 (vb ok1) ?_)))))))))))
 refine q0 (vb (!ok1)) (wpL_nil (th_n ?_))
 refine wpE_cond (t:=(!ok1)) (by kernel_rfl) (fun hc1=>?_) (fun hc1=>?_)
 ·have h:=h.1 hc1
  refine wpE_seq (rg (q0 (vi 70) (wpL_nil (th_n (wpE_ret (th_r (rs1 Tryz.results78 (v:=(vi 70)) ?_)))))))
  exact ⟨70,rfl,h⟩
 ·have h:=h.2 hc1
  refine wpE_skip (th_n (wpE_seq (wpE_seq (rg (q0 v2.v (q0 (vi (v2.len:Int)) (q0 (vi 0) (wpL_nil (th_n (wpE_block ?_))))))))))
  obtain ⟨I1,mu1,h0,hr⟩:=h
  refine wpE_loop (σ:=Int×NP×World) (fun s ρ w=>w=s.2.2∧Has ρ [(0,(vp aJ)),(1,(vp r1)),(7,(vp (some p1))),(38,v2.v),(39,(vi (v2.len:Int))),(40,(vi s.1))]∧Hst w0 s.2.1 w s.2.1 w∧HB s.2.1 w []∧I1 s.1 s.2.1 s.2.2) (fun s=>mu1 s.1 s.2.2) (0,None,w2) ⟨rfl,hm,hs,hb,h0⟩ ?_
  rintro ⟨x1,Hl1,wl1⟩ ρ w ⟨hw,hH,hs,hb,hI⟩
  obtain rfl:wl1=w:=(show w=wl1 from hw).symm
  have hH:Has ρ [(0,(vp aJ)),(1,(vp r1)),(7,(vp (some p1))),(38,v2.v),(39,(vi (v2.len:Int))),(40,(vi x1))]:=hH
  have hs:Hst w0 Hl1 wl1 Hl1 wl1:=hs
  have hb:HB Hl1 wl1 []:=hb
  have h:=hr x1 Hl1 wl1 hs hI
  unfold m_G_l1 at h
  refine wpE_has hH ?_
  refine wpE_seq (rg (q0 (vb (decide (x1<(v2.len:Int)))) (wpL_nil (th_n (wpE_seq ?_)))))
  refine wpE_cond (t:=(decide (x1<(v2.len:Int)))) (by kernel_rfl) (fun hc2=>?_) (fun hc2=>?_)
  ·have h:=h.1 hc2
   refine wpE_skip (th_n (wpE_seq (wpE_block (wpE_seq (rg ?_)))))
   obtain ⟨a1,hv3,h⟩:=h
   refine q2 (vp (some a1)) (xi (Tryz.runUnderlying170 _) (Tryz.sizeOf174 _) hv3) ?_
   obtain ⟨vput1,vget1,hv2,h⟩:=h
   refine q2 (.agg #[vput1,vget1]) (x_loadA (a:=a1) (vs:=[vput1,vget1]) (by kernel_rfl) (Tryz.isAgg174 _) (Tryz.sizeOf174 _) rfl hv2) (sn (O:=(.cells #[(.nilFunc:Value),(.nilFunc:Value)] 174)) (x_alloc (Tryz.zeroValue174 _) rfl) ?_)
   intro p2 w3 hn2
   have h:=h p2 w3 hn2
   have hs:=hs.again (Ext.new (F:=None) hn2).keptP
   have hb:=hb.kept (Ext.new (F:=None) hn2).keptP
   obtain ⟨hp1,hnh,h⟩:=h
   refine st_set (want0 rfl) (x_storeA (a:=p2) (vs:=[vput1,vget1]) (by kernel_rfl) (by kernel_rfl) hp1.1 (Tryz.sizeOf174 _) rfl hp1.2) ?_
   intro w4 hn1
   have h:=h w4 hn1
   have hk:Kept Hl1 w3 w4:=by rw [hn1];exact Kept.storeRow hnh
   obtain ⟨hs,hb⟩:=hk.hh hs hb
   refine wpL_nil (th_n (rg (q0 (vp (some (p2.add 1))) ?_)))
   obtain ⟨v3,hv1,h⟩:=h
   refine q2 v3 (xl (Tryz.isAgg172 _) hv1) (q0 (vp r1) (q0 (vp (some p1)) ?_))
   obtain ⟨f1,fs1,cs1,hp2,h⟩:=h
   obtain ⟨hf1,h⟩:=h
   refine st_call (want0 rfl) (x_callmE (fs:=fs1) (caps:=cs1) (args:=#[(vp r1),(vp (some p1))]) (by kernel_rfl) hp2 hf1 (by kernel_rfl) rfl) (h.mono ?_)
   rintro e w5 ⟨rfl,hk,h⟩
   refine ⟨_,rfl,?_⟩
   obtain ⟨hs,hb⟩:=hk.hh hs hb
   refine wpL_nil (bl_n (th_n (rg (q0 (vi (q6.wrap (x1+1))) (q0 (vi (q6.wrap (x1+1))) (wpL_nil (th_n ?_)))))))
   exact ⟨((q6.wrap (x1+1)),Hl1,w5),⟨rfl,hm,hs,hb,h.1⟩,h.2⟩
  ·have h:=h.2 hc2
   refine wpE_exit (th_x (th_x (bl_eq (th_n (wpE_seq (wpE_seq (rg (q0 (vp r1) ?_))))))))
   refine sc Tryz.call126 (h.mono ?_)
   rintro e w6 ⟨r3,r4,rfl,hk,h⟩
   refine ⟨_,rfl,?_⟩
   obtain ⟨hs,hb⟩:=hk.hh hs hb
   refine q0 (.tuple #[(vi r3),(vi r4)]) (q0 (vi r3) (q0 (vi r4) (q0 (vi r3) (q0 (vi r4) (wpL_nil (th_n (wpE_seq (rg (q0 (vi r3) (q0 (vb (r3 != 0)) (wpL_nil ?_)))))))))))
   refine th_n ?_
   refine wpE_cond (t:=(r3 != 0)) (by kernel_rfl) (fun hc3=>?_) (fun hc3=>?_)
   ·have h:=h.1 hc3
    refine wpE_seq (rg (q0 (vi r3) (q0 (vi r3) (wpL_nil (th_n (wpE_ret (th_r (rs1 Tryz.results78 (v:=(vi r3)) ?_))))))))
    exact ⟨r3,rfl,h⟩
   ·have h:=h.2 hc3
    refine wpE_skip (th_n (wpE_seq ?_))
    obtain ⟨C1,hC,h⟩:=h
    refine wpE_drawnC C1 [6,11,15,19] [19] (by kernel_rfl) (by kernel_rfl) (by kernel_rfl) (by kernel_rfl) hC ?_
    intro w7 hw7
    have h:=h w7 hw7
    have hs:Hst w0 Hl1 w6 Hl1 w7:=by rw [hw7];exact hs.drew
    have hb:HB Hl1 w7 []:=by rw [hw7];exact hb.drew
    have hs:=hs.here
    refine qx 0 (vp (some p1)) Kp0 (qx 1 (vp (some p1)) Kp1 (qx 2 (vp (some p1)) Kp2 (qx 3 (vp (some p1)) Kp3 (qx 4 (vp (some (p1.add 7))) Kp4 (qg 5 ?_)))))
    obtain ⟨v4,hv16,h⟩:=h
    refine sye Kp5 (xl (Tryz.isAgg47 _) hv16) (qx 7 (vp (some p1)) Kp7 (qx 8 (vp (some p1)) Kp8 (qx 9 (vp (some (p1.add 8))) Kp9 (qg 10 ?_))))
    obtain ⟨v5,hv15,h⟩:=h
    refine sy (v:=(vu v5)) (pickA (S8 (pickS (pickS pickZ)))) (fun w' hw'=>(xl (Tryz.isAgg47 _) (hv15 w' hw'))) (lg 6 ?_)
    refine sl_call Kp6 (want0 rfl) (by kernel_rfl) (xc Tryz.call127) (h.mono ?_)
    rintro e w8 ⟨r5,rfl,hC,hk,h⟩
    refine ⟨_,rfl,.inr hC,?_⟩
    obtain ⟨hs,hb⟩:=hk.hh hs hb
    refine lg 11 ?_
    refine sl_call (pickA (S8 (pickS (pickS (pickS pickZ))))) (want0 rfl) (by kernel_rfl) (xc Tryz.call127) (h.mono ?_)
    rintro e w9 ⟨r6,rfl,hC,hk,h⟩
    refine ⟨_,rfl,.inr hC,?_⟩
    obtain ⟨hs,hb⟩:=hk.hh hs hb
    refine qx 12 (vp (some p1)) (pickA (S8 (S4 pickZ))) (qx 13 (vp (some p1)) (pickA (S8 (S4 (pickS pickZ)))) (qx 14 (vp (some (p1.add 1))) (pickA (S8 (S4 (pickS (pickS pickZ))))) (lg 15 ?_)))
    obtain ⟨hp3,hnh,h⟩:=h
    refine sl_t (pickA (S8 (S4 (pickS (pickS (pickS pickZ)))))) (xs (v:=(vi r5)) (Tryz.sizeOf3 _) hp3) ?_
    intro w10 hn3
    have h:=h w10 hn3
    refine ⟨.inr h.1,?_⟩
    have h:=h.2
    have hk:=Kept.sc hnh hn3
    obtain ⟨hs,hb⟩:=hk.hh hs hb
    refine qx 16 (vp (some p1)) (pickA (S8 (S8 pickZ))) (qx 17 (vp (some p1)) (pickA (S8 (S8 (pickS pickZ)))) (qx 18 (vp (some (p1.add 2))) (pickA (S8 (S8 (pickS (pickS pickZ))))) (lg 19 ?_)))
    obtain ⟨hp4,hnh,h⟩:=h
    refine sl_t (pickA (S8 (S8 (pickS (pickS (pickS pickZ)))))) (xs (v:=(vi r6)) (Tryz.sizeOf3 _) hp4) ?_
    intro w11 hn4
    have h:=h w11 hn4
    refine ⟨.inl (by kernel_rfl),?_⟩
    have hk:=Kept.sc hnh hn4
    obtain ⟨hs,hb⟩:=hk.hh hs hb
    refine wn (th_n (wpE_seq (wpE_seq (rg (q0 (vp (some p1)) (q0 (vp (some p1)) (q0 (vp (some p1)) ?_)))))))
    obtain ⟨aW,aX,aY,aZ,bA,bB,bC,hv14,h⟩:=h
    refine q2 (.agg #[(vi aW),(vi aX),(vi aY),(vu aZ),(vs bA),(vi bB),(vi bC)]) (x_loadA (a:=p1) (vs:=[(vi aW),(vi aX),(vi aY),(vu aZ),(vs bA),(vi bB),(vi bC)]) (by kernel_rfl) (Tryz.isAgg86 _) (Tryz.sizeOf86 _) rfl hv14) ?_
    refine sc Tryz.call128 ((p_O aW aX aY aZ bA bB bC w11).mono ?_)
    rintro e w12 ⟨he,hE⟩
    refine ⟨(vi (s_O aW aX aY aZ bA bB bC)),he.trans (by kernel_rfl),?_⟩
    have hs:=hs.pure hE
    have hb:=hb.pure hE
    refine q0 (vi (s_O aW aX aY aZ bA bB bC)) (wpL_nil (th_n (wpE_seq (rg (q0 (vi (s_O aW aX aY aZ bA bB bC)) (q0 (vb (((s_O aW aX aY aZ bA bB bC):Int) != 0)) (wpL_nil (th_n ?_))))))))
    refine wpE_cond (t:=(((s_O aW aX aY aZ bA bB bC):Int) != 0)) (by kernel_rfl) (fun hc4=>?_) (fun hc4=>?_)
    ·have h:=h.1 hc4
     refine wpE_seq (rg (q0 (vi (s_O aW aX aY aZ bA bB bC)) (q0 (vi (s_O aW aX aY aZ bA bB bC)) (wpL_nil (th_n (wpE_ret (th_r ?_)))))))
     have h:=h w12 hs
     have hs:=hs.here
     refine rs1 Tryz.results78 (v:=(vi (s_O aW aX aY aZ bA bB bC))) ?_
     exact ⟨(s_O aW aX aY aZ bA bB bC),rfl,h⟩
    ·have h:=h.2 hc4
     refine wpE_skip (th_n (wpE_seq (rg (q0 (vp aJ) ?_))))
     have h:=h w12 hs
     have hs:=hs.here
     refine sc Tryz.call13 (h.mono ?_)
     rintro e w13 ⟨r7,rfl,hk,h⟩
     refine ⟨_,rfl,?_⟩
     obtain ⟨hs,hb⟩:=hk.hh hs hb
     refine q0 (vu (IntKind.u64.wrap r7)) (q0 (vu (IntKind.u64.wrap r7)) (wpL_nil (th_n (wpE_seq (wpE_seq ?_)))))
     refine wpE_joinT (fun ρ w=>∃x2:Bool,∃H:NP,Has ρ [(0,(vp aJ)),(7,(vp (some p1))),(114,(vb x2))]∧Hst w0 H w H w∧HB H w []∧m_G_j2 aJ p1 x2 H w K) ?_ ?_
     ·rintro ρ w ⟨x2,H,hH,hs,hb,h⟩
      unfold m_G_j2 at h
      refine wpE_has hH ?_
      refine wpE_cond (t:=x2) (by kernel_rfl) (fun hc5=>?_) (fun hc5=>?_)
      ·have h:=h.1 hc5
       refine wpE_seq (rg (q0 (vi 71) (wpL_nil (th_n (wpE_ret (th_r (rs1 Tryz.results78 (v:=(vi 71)) ?_)))))))
       exact ⟨71,rfl,h⟩
      ·have h:=h.2 hc5
       refine wpE_skip (th_n (wpE_seq (wpE_seq (rg (q0 (vp (some p1)) (q0 (vp (some p1)) (q0 (vp (some (p1.add 11))) ?_)))))))
       obtain ⟨v6,hv9,h⟩:=h
       refine q2 (vi v6) (xl (Tryz.isAgg3 _) hv9) (q0 (vb (decide (v6>0))) (wpL_nil (th_n ?_)))
       refine wpE_joinT (fun ρ w=>∃H:NP,Has ρ [(0,(vp aJ)),(7,(vp (some p1)))]∧Hst w0 H w H w∧HB H w []∧m_G_j3 aJ p1 H w K) ?_ ?_
       ·rintro ρ w ⟨H,hH,hs,hb,h⟩
        unfold m_G_j3 at h
        refine wpE_has hH ?_
        refine wpE_seq (wpE_seq (rg (q0 (vp (some p1)) (q0 (vp (some p1)) (q0 (vp (some (p1.add 11))) ?_)))))
        obtain ⟨v7,hv7,h⟩:=h
        refine q2 (vi v7) (xl (Tryz.isAgg3 _) hv7) (q0 (vb (decide (v7>1))) (wpL_nil (th_n ?_)))
        refine wpE_joinT (fun ρ w=>∃H:NP,Has ρ [(0,(vp aJ)),(7,(vp (some p1)))]∧Hst w0 H w H w∧HB H w []∧m_G_j4 aJ p1 H w K) ?_ ?_
        ·rintro ρ w ⟨H,hH,hs,hb,h⟩
         unfold m_G_j4 at h
         refine wpE_has hH ?_
         refine wpE_seq (wpE_seq (rg (q0 (vp aJ) (q0 (vp (some p1)) (q0 (vp (some p1)) (q0 (vp (some p1)) ?_))))))
         obtain ⟨bD,bE,bF,bG,bH,dH,dI,hv5,h⟩:=h
         refine q2 (.agg #[(vi bD),(vi bE),(vi bF),(vu bG),(vs bH),(vi dH),(vi dI)]) (x_loadA (a:=p1) (vs:=[(vi bD),(vi bE),(vi bF),(vu bG),(vs bH),(vi dH),(vi dI)]) (by kernel_rfl) (Tryz.isAgg86 _) (Tryz.sizeOf86 _) rfl hv5) ?_
         refine sc Tryz.call129 (h.mono ?_)
         rintro e w14 ⟨r8,r9,rfl,hk,h⟩
         refine ⟨_,rfl,?_⟩
         obtain ⟨hs,hb⟩:=hk.hh hs hb
         refine q0 (.tuple #[(vi r8),(vb r9)]) (q0 (vi r8) (q0 (vb r9) (q0 (vi r8) (q0 (vb r9) (wpL_nil (th_n (wpE_seq (rg (q0 (vb r9) (wpL_nil (th_n ?_)))))))))))
         refine wpE_cond (t:=r9) (by kernel_rfl) (fun hc6=>?_) (fun hc6=>?_)
         ·have h:=h.1 hc6
          refine wpE_seq (rg (q0 (vi 72) (wpL_nil (th_n (wpE_ret (th_r (rs1 Tryz.results78 (v:=(vi 72)) ?_)))))))
          exact ⟨72,rfl,h⟩
         ·have h:=h.2 hc6
          refine wpE_skip (th_n (wpE_seq (rg (q0 (vp aJ) (q0 (vp (some p1)) (q0 (vp (some p1)) (q0 (vp (some p1)) ?_)))))))
          obtain ⟨dJ,dK,dL,dM,dN,dO,dP,hv4,h⟩:=h
          refine q2 (.agg #[(vi dJ),(vi dK),(vi dL),(vu dM),(vs dN),(vi dO),(vi dP)]) (x_loadA (a:=p1) (vs:=[(vi dJ),(vi dK),(vi dL),(vu dM),(vs dN),(vi dO),(vi dP)]) (by kernel_rfl) (Tryz.isAgg86 _) (Tryz.sizeOf86 _) rfl hv4) ?_
          refine sc Tryz.call66 (h.mono ?_)
          rintro e w15 ⟨r10,r11,rfl,hk,h⟩
          refine ⟨_,rfl,?_⟩
          obtain ⟨hs,hb⟩:=hk.hh hs hb
          refine q0 (.tuple #[(vi r10),(vi r11)]) (q0 (vi r10) (q0 (vi r11) (q0 (vi r10) (q0 (vi r11) (wpL_nil (th_n (wpE_seq (rg (q0 (vi r11) (q0 (vi r11) (wpL_nil ?_)))))))))))
          refine th_n (wpE_ret (rs1 Tryz.results78 (v:=(vi r11)) ?_))
          exact ⟨r11,rfl,h⟩
        ·refine wpE_cond (t:=(decide (v7>1))) (by kernel_rfl) (fun hc7=>?_) (fun hc7=>?_)
         ·have h:=h.1 hc7
          refine rg (q0 (vp (some p1)) (q0 (vp (some p1)) (q0 (vp (some p1)) (q0 (vp (some (p1.add 10))) ?_))))
          obtain ⟨v8,hv6,h⟩:=h
          refine q2 (vu v8) (xl (Tryz.isAgg47 _) hv6) (q0 (vu (IntKind.u64.wrap (v8+1))) (q0 (vi (q6.wrap (IntKind.u64.wrap (v8+1)))) (q0 (vp (some p1)) (q0 (vp (some p1)) (q0 (vp (some (p1.add 6))) ?_)))))
          obtain ⟨hp5,hnh,h⟩:=h
          refine st_set (want0 rfl) (x_store (a:=(p1.add 6)) (v:=(vi (q6.wrap (IntKind.u64.wrap (v8+1))))) (by kernel_rfl) (by kernel_rfl) rfl (Tryz.sizeOf30 _) hp5) ?_
          intro w16 hn5
          have h:=h w16 hn5
          have hk:=Kept.sc hnh hn5
          obtain ⟨hs,hb⟩:=hk.hh hs hb
          refine wpL_nil (th_n ?_)
          exact ⟨H,hm,hs,hb,h⟩
         ·have h:=h.2 hc7
          refine wpE_skip (th_n ?_)
          exact ⟨H,hm,hs,hb,h⟩
       ·refine wpE_cond (t:=(decide (v6>0))) (by kernel_rfl) (fun hc8=>?_) (fun hc8=>?_)
        ·have h:=h.1 hc8
         refine rg (q0 (vp (some p1)) (q0 (vp (some p1)) (q0 (vp (some p1)) (q0 (vp (some (p1.add 9))) ?_))))
         obtain ⟨v9,hv8,h⟩:=h
         refine q2 (vu v9) (xl (Tryz.isAgg47 _) hv8) (q0 (vu (IntKind.u64.wrap (v9+1))) (q0 (vi (q6.wrap (IntKind.u64.wrap (v9+1)))) (q0 (vp (some p1)) (q0 (vp (some p1)) (q0 (vp (some (p1.add 5))) ?_)))))
         obtain ⟨hp6,hnh,h⟩:=h
         refine st_set (want0 rfl) (x_store (a:=(p1.add 5)) (v:=(vi (q6.wrap (IntKind.u64.wrap (v9+1))))) (by kernel_rfl) (by kernel_rfl) rfl (Tryz.sizeOf30 _) hp6) ?_
         intro w17 hn6
         have h:=h w17 hn6
         have hk:=Kept.sc hnh hn6
         obtain ⟨hs,hb⟩:=hk.hh hs hb
         refine wpL_nil (th_n ?_)
         exact ⟨H,hm,hs,hb,h⟩
        ·have h:=h.2 hc8
         refine wpE_skip (th_n ?_)
         exact ⟨H,hm,hs,hb,h⟩
     ·refine rg (q0 (vp (some p1)) (q0 (vp (some p1)) (q0 (vp (some (p1.add 11))) ?_)))
      obtain ⟨v10,hv13,h⟩:=h
      refine q2 (vi v10) (xl (Tryz.isAgg3 _) hv13) (q0 (vb (decide (v10>0))) (q0 (vb (decide (v10>0))) ?_))
      refine wpL_join 7 (fun ρ w=>∃x3:Bool,∃H:NP,Has ρ [(0,(vp aJ)),(7,(vp (some p1))),(15,(vu (IntKind.u64.wrap r7))),(99,(vb x3))]∧Hst w0 H w H w∧HB H w []∧m_G_j5 aJ p1 r7 x3 H w K) ?_ ?_
      ·rintro ρ w ⟨x3,H,hH,hs,hb,h⟩
       unfold m_G_j5 at h
       refine wpL_has hH ?_
       refine q0 (vb x3) ?_
       rcases Bool.eq_false_or_eq_true x3 with hg1 | hg1
       ·have h:=h.1 hg1
        refine sk (yD 100 hg1) (sk (yD 100 hg1) (sk (yD 100 hg1) (sk (yD 100 hg1) (sk (yD 100 hg1) (sk (yD 100 hg1) (sm (sm (sm (sm (sm (sm ?_)))))))))))
        refine sk (yD 100 hg1) (q2 (vb true) (xT hg1) (wpL_nil (th_n ?_)))
        exact ⟨true,H,hm,hs,hb,h⟩
       ·have h:=h.2 hg1
        refine q1 (vp (some p1)) (want1 rfl (yD 100 hg1)) (q1 (vp (some p1)) (want1 rfl (yD 100 hg1)) (q1 (vp (some (p1.add 11))) (want1 rfl (yD 100 hg1)) ?_))
        obtain ⟨v11,hv11,h⟩:=h
        refine stp (v:=(vi v11)) (want1 rfl (yD 100 hg1)) (xl (Tryz.isAgg3 _) hv11) (q1 (vb (decide (v11>1))) (want1 rfl (yD 100 hg1)) (q1 (vb (decide (v11>1))) (want1 rfl (yD 100 hg1)) ?_))
        rcases Bool.eq_false_or_eq_true (decide (v11>1)) with hg2 | hg2
        ·have h:=h.1 hg2
         refine q1 (vp (some p1)) (want1 rfl (yD 106 hg2)) (q1 (vp (some p1)) (want1 rfl (yD 106 hg2)) (q1 (vp (some (p1.add 10))) (want1 rfl (yD 106 hg2)) ?_))
         obtain ⟨v12,hv10,h⟩:=h
         refine stp (v:=(vu v12)) (want1 rfl (yD 106 hg2)) (xl (Tryz.isAgg47 _) hv10) (q1 (vu (IntKind.u64.wrap r7)) (want1 rfl (yD 106 hg2)) (q1 (vb (decide (v12≥(IntKind.u64.wrap r7)))) (want1 rfl (yD 106 hg2)) (stp (v:=(vb (decide (v12≥(IntKind.u64.wrap r7))))) (want1 rfl (yD 100 hg1)) (xT hg2) (q2 (vb (decide (v12≥(IntKind.u64.wrap r7)))) (xF hg1) (wpL_nil (th_n ?_))))))
         exact ⟨(decide (v12≥(IntKind.u64.wrap r7))),H,hm,hs,hb,h⟩
        ·have h:=h.2 hg2
         refine sk (yD 106 hg2) (sk (yD 106 hg2) (sk (yD 106 hg2) (sk (yD 106 hg2) (sk (yD 106 hg2) (sk (yD 106 hg2) (stp (v:=(vb false)) (want1 rfl (yD 100 hg1)) (xF hg2) (q2 (vb false) (xF hg1) (wpL_nil (th_n ?_)))))))))
         exact ⟨false,H,hm,hs,hb,h⟩
      ·rcases Bool.eq_false_or_eq_true (decide (v10>0)) with hg3 | hg3
       ·have h:=h.1 hg3
        refine q1 (vp (some p1)) (want1 rfl (yD 92 hg3)) (q1 (vp (some p1)) (want1 rfl (yD 92 hg3)) (q1 (vp (some (p1.add 9))) (want1 rfl (yD 92 hg3)) ?_))
        obtain ⟨v13,hv12,h⟩:=h
        refine stp (v:=(vu v13)) (want1 rfl (yD 92 hg3)) (xl (Tryz.isAgg47 _) hv12) (q1 (vu (IntKind.u64.wrap r7)) (want1 rfl (yD 92 hg3)) (q1 (vb (decide (v13≥(IntKind.u64.wrap r7)))) (want1 rfl (yD 92 hg3)) (q2 (vb (decide (v13≥(IntKind.u64.wrap r7)))) (xT hg3) (wpL_nil ?_))))
        exact ⟨(decide (v13≥(IntKind.u64.wrap r7))),Hl1,hm,hs,hb,h⟩
       ·have h:=h.2 hg3
        refine sk (yD 92 hg3) (sk (yD 92 hg3) (sk (yD 92 hg3) (sk (yD 92 hg3) (sk (yD 92 hg3) (sk (yD 92 hg3) (q2 (vb false) (xF hg3) (wpL_nil ?_)))))))
        exact ⟨false,Hl1,hm,hs,hb,h⟩
def m_M1_l1 (r1:Option Addr) (r2:Option Addr) (r3:Option Nat) (places1:Sl) (w0:World) (Hl1:NP) (wl1:World) (Kc1:Sl→NP→WP) (K:(Option Addr)→Int→Int→WP):Prop :=
 Calls Tryz.prog 76 #[(vp r2)] wl1 (fun e w4=>∃r4:Int,e=.returned (vi r4)∧
  Kept Hl1 wl1 w4 ∧
  Br (decide (r4>0))
   (Calls Tryz.prog 77 #[(vp r2)] w4 (fun e w5=>∃r5:Int,e=.returned (vi r5)∧
    Kept Hl1 w4 w5 ∧
    Calls Tryz.prog 78 #[(vp r1),(vp r2),(.map r3)] w5 (fun e w6=>∃r6:Int,e=.returned (vi r6)∧
     Kept Hl1 w5 w6 ∧
     Br (r6 != 0)
      (K none r6 r5 w6)
      (∀(p1:Addr) (w7:World),New w6 (.cells #[(vi r5)] 3) p1 w7 →
      ∃s1:Sl,∃w8:World,(Builtin.append_ #[43,43] 43 #[places1.v,(Sl.mk (some p1) 1 1).v]).run Tryz.prog w7=.ok s1.v w8 ∧
      Kept Hl1 w7 w8 ∧
      Kc1 s1 Hl1 w8))))
   (∀(p2:Addr) (w9:World),New w4 (.cells #[(vi 0)] 3) p2 w9 →
   CanW w9 p2∧¬ Hl1 p2.block∧∀w10:World,w10=w9.setCell p2 (vi 0) →
   Calls Tryz.prog 13 #[(vp r1)] w10 (fun e w11=>∃r7:Int,e=.returned (vi r7)∧
    Kept Hl1 w10 w11 ∧
    Calls Tryz.prog 79 #[(vp r1),(vi r7)] w11 (fun e w12=>∃r8:Value,e=.returned r8∧
     Kept Hl1 w11 w12 ∧
     ∃(f1:FuncId) (cs1:Array Value),r8=.func (.func f1) #[] cs1∧(∀args w,(callFunc f1 args).run Tryz.prog w=.ok (.enter f1 args) w) ∧
     ∃(xs1:List (Int)) (Rd1:WP),IterC Tryz.prog f1 cs1 (fun (z2:Int)=>#[(vi z2)]) xs1 Rd1 w12 ∧
     ∃(I2 Ix1:List (Int)→NP→WP),RngI w0 Rd1 I2 Ix1 (fun _ _ _=>False)∧I2 [] Hl1 w12 ∧
     (∀(pre1:List (Int)) (z2:Int) (Y1:NP) (A1:World),I2 pre1 Y1 A1→Hst w0 Y1 A1 Y1 A1→(∃post,xs1=pre1++z2 :: post) →
      ∃v1:Int,A1.cell? p2=some (vi v1) ∧
      Br (z2 != (q6.wrap (v1+1)))
       (Kept Y1 A1 A1∧Ix1 (pre1++[z2]) Y1 A1)
       (∃v2:Int,A1.cell? p2=some (vi v2) ∧
       CanW A1 p2∧¬ None p2.block∧∀w13:World,w13=A1.setCell p2 (vi (q6.wrap (v2+1))) →
       Kept Y1 A1 w13∧I2 (pre1++[z2]) Y1 w13)) ∧
     ∀(H1:NP) (w14:World),Hst w0 H1 w14 H1 w14→(∀b,Hl1 b→H1 b)→Kept Hl1 w12 w14→(I2 xs1 H1 w14∨∃pre,Ix1 pre H1 w14) →
     ∃v3:Int,w14.cell? p2=some (vi v3) ∧
     Br (decide (v3<(places1.len:Int)))
      (∀(w15:World),Hst w0 H1 w14 H1 w15 →
      ∃v4:Int,w15.cell? p2=some (vi v4) ∧
      ∃a1:Addr,At places1 v4 1 a1 ∧
      ∃v5:Int,w15.cell? a1=some (vi v5) ∧
      ∀(w16:World),Hst w0 H1 w15 H1 w16 →
      K none 73 v5 w16)
      (∀(w17:World),Hst w0 H1 w14 H1 w17 →
      K r1 0 0 w17)))))
def m_M1 (b1:Sl) (w0:World) (K:(Option Addr)→Int→Int→WP):Prop :=
 Br (decide ((b1.len:Int)>4096))
  (K none 1 0 w0)
  (Br (((b1.len:Int):Int) == 0)
   (K none 3 0 w0)
   (Calls Tryz.prog 27 #[] w0 (fun e w1=>∃r1:Option Addr,e=.returned (vp r1)∧
    Kept None w0 w1 ∧
    Calls Tryz.prog 74 #[b1.v] w1 (fun e w2=>∃r2:Option Addr,e=.returned (vp r2)∧
     Kept None w1 w2 ∧
     Calls Tryz.prog 75 #[] w2 (fun e w3=>∃r3:Option Nat,e=.returned (.map r3)∧
      Kept None w2 w3 ∧
      ∃(I1:Sl→NP→WP) (mu1:Sl→World→Nat),I1 Sl.nil None w3 ∧
       ∀(places1:Sl) (Hl1:NP) (wl1:World),Hst w0 Hl1 wl1 Hl1 wl1→I1 places1 Hl1 wl1→m_M1_l1 r1 r2 r3 places1 w0 Hl1 wl1 (fun y'0 H' w'=>I1 y'0 H' w'∧mu1 y'0 w'<mu1 places1 wl1) K)))))
theorem w_M1 (b1 : Sl) (w0 : World) (K : (Option Addr) → Int → Int → WP) (h : m_M1 b1 w0 K) :
  Calls Tryz.prog 35 #[b1.v] w0 (fun e w'=>∃r9:Option Addr,∃r10 r11:Int,e=.returned (.tuple #[(vp r9),(vi r10),(vi r11)])∧K r9 r10 r11 w'):=by
 unfold m_M1 at h
 refine cw (args:=[b1.v]) Tryz.func35 Tryz.ntmps35 ?_
 have hs:=Hst.start w0
 have hb:=HB.nil None w0
 refine wpE_seq (rg (q0 (vp none) (q0 (vi 0) (q0 (vi 0) (wpL_nil (th_n (wpE_scope rfl (fun _ _ _ h=>h) (wpE_seq (wpE_block (wpE_seq (rg ?_)))))))))))
 refine q0 b1.v (q0 (vi (b1.len:Int)) (q0 (vb (decide ((b1.len:Int)>4096))) (q0 (vb (decide ((b1.len:Int)>4096))) (wpL_nil (th_n ?_)))))
 refine wpE_cond (t:=(decide ((b1.len:Int)>4096))) (by kernel_rfl) (fun hc1=>?_) (fun hc1=>?_)
 ·have h:=h.1 hc1
  refine wpE_seq (rg (q0 (vp none) (q0 (vi 1) (q0 (vi 0) (wpL_nil (th_n (wpE_ret (bl_r (th_r (res3 (.inl rfl) Tryz.results35 (v:=(vp none)) (by kernel_rfl) (v':=(vi 1)) (by kernel_rfl) (v'':=(vi 0)) (by kernel_rfl) ?_))))))))))
  exact ⟨none,1,0,rfl,h⟩
 ·have h:=h.2 hc1
  refine wpE_seq (rg (q0 b1.v (q0 (vi (b1.len:Int)) (q0 (vb (((b1.len:Int):Int) == 0)) (q0 (vb (((b1.len:Int):Int) == 0)) (wpL_nil (th_n ?_)))))))
  refine wpE_cond (t:=(((b1.len:Int):Int) == 0)) (by kernel_rfl) (fun hc2=>?_) (fun hc2=>?_)
  ·have h:=h.1 hc2
   refine wpE_seq (rg (q0 (vp none) (q0 (vi 3) (q0 (vi 0) (wpL_nil (th_n (wpE_ret (bl_r (th_r (res3 (.inl rfl) Tryz.results35 (v:=(vp none)) (by kernel_rfl) (v':=(vi 3)) (by kernel_rfl) (v'':=(vi 0)) (by kernel_rfl) ?_))))))))))
   exact ⟨none,3,0,rfl,h⟩
  ·have h:=h.2 hc2
   refine wpE_skip (bl_n (th_n (wpE_seq (rg ?_))))
   refine sc Tryz.call27 (h.mono ?_)
   rintro e w1 ⟨r1,rfl,hk,h⟩
   refine ⟨_,rfl,?_⟩
   obtain ⟨hs,hb⟩:=hk.hh hs hb
   refine q0 (vp r1) (wpL_nil (th_n (wpE_seq (rg (q0 b1.v ?_)))))
   refine sc Tryz.call74 (h.mono ?_)
   rintro e w2 ⟨r2,rfl,hk,h⟩
   refine ⟨_,rfl,?_⟩
   obtain ⟨hs,hb⟩:=hk.hh hs hb
   refine q0 (vp r2) (wpL_nil (th_n (wpE_seq (rg ?_))))
   refine sc Tryz.call75 (h.mono ?_)
   rintro e w3 ⟨r3,rfl,hk,h⟩
   refine ⟨_,rfl,?_⟩
   obtain ⟨hs,hb⟩:=hk.hh hs hb
   refine q0 (.map r3) (wpL_nil (th_n (wpE_seq (rg (q0 Sl.nil.v (wpL_nil (th_n (wpE_seq (wpE_block ?_)))))))))
   obtain ⟨I1,mu1,h0,hr⟩:=h
   refine wpE_loop (σ:=Sl×NP×World) (fun s ρ w=>w=s.2.2∧Has ρ [(5,(vp r1)),(6,(vp r2)),(7,(.map r3)),(8,s.1.v)]∧Hst w0 s.2.1 w s.2.1 w∧HB s.2.1 w []∧I1 s.1 s.2.1 s.2.2) (fun s=>mu1 s.1 s.2.2) (Sl.nil,None,w3) ⟨rfl,hm,hs,hb,h0⟩ ?_
   rintro ⟨places1,Hl1,wl1⟩ ρ w ⟨hw,hH,hs,hb,hI⟩
   obtain rfl:wl1=w:=(show w=wl1 from hw).symm
   have hH:Has ρ [(5,(vp r1)),(6,(vp r2)),(7,(.map r3)),(8,places1.v)]:=hH
   have hs:Hst w0 Hl1 wl1 Hl1 wl1:=hs
   have hb:HB Hl1 wl1 []:=hb
   have h:=hr places1 Hl1 wl1 hs hI
   unfold m_M1_l1 at h
   refine wpE_has hH ?_
   refine wpE_seq (wpE_seq (rg (q0 (vp r2) ?_)))
   refine sc Tryz.call76 (h.mono ?_)
   rintro e w4 ⟨r4,rfl,hk,h⟩
   refine ⟨_,rfl,?_⟩
   obtain ⟨hs,hb⟩:=hk.hh hs hb
   refine q0 (vb (decide (r4>0))) (wpL_nil (th_n ?_))
   refine wpE_cond (t:=(decide (r4>0))) (by kernel_rfl) (fun hc3=>?_) (fun hc3=>?_)
   ·have h:=h.1 hc3
    refine wpE_skip (th_n (wpE_block (wpE_seq (rg (q0 (vp r2) ?_)))))
    refine sc Tryz.call77 (h.mono ?_)
    rintro e w5 ⟨r5,rfl,hk,h⟩
    refine ⟨_,rfl,?_⟩
    obtain ⟨hs,hb⟩:=hk.hh hs hb
    refine q0 (vi r5) (wpL_nil (th_n (wpE_seq (wpE_seq (rg (q0 (vp r1) (q0 (vp r2) (q0 (.map r3) ?_))))))))
    refine sc Tryz.call78 (h.mono ?_)
    rintro e w6 ⟨r6,rfl,hk,h⟩
    refine ⟨_,rfl,?_⟩
    obtain ⟨hs,hb⟩:=hk.hh hs hb
    refine q0 (vi r6) (wpL_nil (th_n (wpE_seq (rg (q0 (vi r6) (q0 (vb (r6 != 0)) (wpL_nil (th_n ?_))))))))
    refine wpE_cond (t:=(r6 != 0)) (by kernel_rfl) (fun hc4=>?_) (fun hc4=>?_)
    ·have h:=h.1 hc4
     refine wpE_seq (rg (q0 (vi r6) (q0 (vi r5) (q0 (vp none) (q0 (vi r6) (q0 (vi r5) (wpL_nil (th_n (wpE_ret (th_r (bl_r ?_)))))))))))
     refine th_r (bl_r (th_r (res3 (.inl rfl) Tryz.results35 (v:=(vp none)) (by kernel_rfl) (v':=(vi r6)) (by kernel_rfl) (v'':=(vi r5)) (by kernel_rfl) ?_)))
     exact ⟨none,r6,r5,rfl,h⟩
    ·have h:=h.2 hc4
     refine wpE_skip (th_n (rg (q0 places1.v (q0 (vi r5) (st_new (O:=(.cells #[(vi r5)] 3)) (fun p=>(Sl.mk (some p) 1 1).v) (want0 rfl) (x_buildSlice (vs:=#[(0,(vi r5))]) (by kernel_rfl) (by kernel_rfl)) ?_)))))
     intro p1 w7 hn1
     have h:=h p1 w7 hn1
     have hs:=hs.again (Ext.new (F:=None) hn1).keptP
     have hb:=hb.kept (Ext.new (F:=None) hn1).keptP
     obtain ⟨s1,w8,hv1,hk,h⟩:=h
     refine st (v:=s1.v) (want0 rfl) (x_builtin (args:=#[places1.v,(Sl.mk (some p1) 1 1).v]) (by kernel_rfl) (fun _=>rfl) hv1) ?_
     obtain ⟨hs,hb⟩:=hk.hh hs hb
     refine q0 s1.v (wpL_nil (bl_n (th_n ?_)))
     exact ⟨(s1,Hl1,w8),⟨rfl,hm,hs,hb,h.1⟩,h.2⟩
   ·have h:=h.2 hc3
    refine wpE_exit (th_x (th_x (bl_eq (th_n (wpE_seq (rg (sn (O:=(.cells #[(vi 0)] 3)) (x_alloc (Tryz.zeroValue3 _) rfl) ?_)))))))
    intro p2 w9 hn4
    have h:=h p2 w9 hn4
    have hs:=hs.again (Ext.new (F:=None) hn4).keptP
    have hb:=hb.kept (Ext.new (F:=None) hn4).keptP
    obtain ⟨hp1,hnh,h⟩:=h
    refine st_set (want0 rfl) (x_store (a:=p2) (v:=(vi 0)) (by kernel_rfl) (by kernel_rfl) rfl (Tryz.sizeOf3 _) hp1) ?_
    intro w10 hn2
    have h:=h w10 hn2
    have hk:=Kept.sc hnh hn2
    obtain ⟨hs,hb⟩:=hk.hh hs hb
    refine wpL_nil (th_n (wpE_seq (wpE_label (th_n (wpE_seqC (rg (q0 (vp r1) (q0 (vp r1) ?_))))))))
    refine sc Tryz.call13 (h.mono ?_)
    rintro e w11 ⟨r7,rfl,hk,h⟩
    refine ⟨_,rfl,?_⟩
    obtain ⟨hs,hb⟩:=hk.hh hs hb
    refine sc Tryz.call79 (h.mono ?_)
    rintro e w12 ⟨r8,rfl,hk,h⟩
    refine ⟨_,rfl,?_⟩
    obtain ⟨hs,hb⟩:=hk.hh hs hb
    refine wpL_nil (th_n ?_)
    obtain ⟨f1,cs1,hv2,hf1,h⟩:=h
    obtain ⟨xs1,Rd1,hit,I2,Ix1,hRI,h0,hbody,h⟩:=h
    refine wpB_range (encs:=(fun (z2:Int)=>#[(vi z2)])) (Eq.trans (b:=r8) (by kernel_rfl) hv2) hf1 hit (fun _=>rfl) (by decide) hs I2 Ix1 (fun _ _ _=>False) hRI h0 ?ha ?hr ?ht
    case ha =>
     intro l z2 w18
     refine rg (q0 (vi z2) (wpL_nil (th_n ?_)))
     refine ⟨rfl,?_⟩
     intro pre1 Y1 A1 hi hY hpost
     have h:=hbody pre1 z2 Y1 A1 hi hY hpost
     have hs:=Hst.start A1
     have hb:=HB.nil None A1
     refine wpE_block (wpE_seq (wpE_seq (rg (q0 (vi z2) ?_))))
     obtain ⟨v1,hv4,h⟩:=h
     refine q2 (vi v1) (xl (Tryz.isAgg3 _) hv4) (q0 (vi (q6.wrap (v1+1))) (q0 (vb (z2 != (q6.wrap (v1+1)))) (wpL_nil (th_n ?_))))
     refine wpE_cond (t:=(z2 != (q6.wrap (v1+1)))) (by kernel_rfl) (fun hc5=>?_) (fun hc5=>?_)
     ·have h:=h.1 hc5
      refine wpE_exit (th_x (bl_ne rfl ?_))
      exact rd_x h
     ·have h:=h.2 hc5
      refine wpE_skip (th_n (rg ?_))
      obtain ⟨v2,hv3,h⟩:=h
      refine q2 (vi v2) (xl (Tryz.isAgg3 _) hv3) (q0 (vi (q6.wrap (v2+1))) ?_)
      obtain ⟨hp2,hnh,h⟩:=h
      refine st_set (want0 rfl) (x_store (a:=p2) (v:=(vi (q6.wrap (v2+1)))) (by kernel_rfl) (by kernel_rfl) rfl (Tryz.sizeOf3 _) hp2) ?_
      intro w13 hn3
      have h:=h w13 hn3
      have hk:=Kept.sc hnh hn3
      obtain ⟨hs,hb⟩:=hk.hh hs hb
      refine wpL_nil (bl_n ?_)
      exact rd_n h
    case hr =>
     intro D1 H1 w14 hs' hD hDe dG hk1 hio1
     have hb':=hb.behind hk1 dG hD hDe
     have hs:=hs'
     have hb:=hb'
     have h:=h H1 w14 hs dG hk1 hio1
     refine wpE_seq (wpE_seq (rg ?_))
     obtain ⟨v3,hv8,h⟩:=h
     refine q2 (vi v3) (xl (Tryz.isAgg3 _) hv8) (q0 places1.v (q0 (vi (places1.len:Int)) (q0 (vb (decide (v3<(places1.len:Int)))) (wpL_nil (th_n ?_)))))
     refine wpE_cond (t:=(decide (v3<(places1.len:Int)))) (by kernel_rfl) (fun hc6=>?_) (fun hc6=>?_)
     ·have h:=h.1 hc6
      refine wpE_seq (wpE_drawnQ (by kernel_rfl) (by kernel_rfl) (by kernel_rfl) (by kernel_rfl) ?_)
      intro w15 hw15
      have hs:Hst w0 H1 w14 H1 w15:=by rw [hw15];exact hs.drew
      have hb:HBZ [(D1,.deferred (some []))] H1 w15 []:=by rw [hw15];exact hb.drew
      refine qq 0 places1.v Kp0 (qg 1 ?_)
      have h:=h w15 hs
      have hs:=hs.here
      obtain ⟨v4,hv7,h⟩:=h
      refine sxQ (v:=(vi v4)) Kp1 (want0 rfl) rfl (xl (Tryz.isAgg3 _) hv7) (qg 2 ?_)
      obtain ⟨a1,hv6,h⟩:=h
      refine sxQ (v:=(vp (some a1))) Kp2 (want0 rfl) rfl (xi (Tryz.runUnderlying43 _) (Tryz.sizeOf3 _) hv6) (qg 3 ?_)
      obtain ⟨v5,hv5,h⟩:=h
      refine sxQ (v:=(vi v5)) Kp3 (want0 rfl) rfl (xl (Tryz.isAgg3 _) hv5) (qq 4 (vp none) Kp4 (qq 5 (vi 73) Kp5 (qq 6 (vi v5) Kp6 (wn (th_n (wpE_ret (th_r (af_r hb.dead ?_))))))))
      intro w16 hw'
      have hl:=hb.leave hs hw'
      obtain ⟨hs,hb⟩:=hl
      -- behind the loop
      have h:=h w16 hs
      have hs:=hs.here
      refine res3 (.inl rfl) Tryz.results35 (v:=(vp none)) (by kernel_rfl) (v':=(vi 73)) (by kernel_rfl) (v'':=(vi v5)) (by kernel_rfl) ?_
      exact ⟨none,73,v5,rfl,h⟩
     ·have h:=h.2 hc6
      refine wpE_skip (th_n (wpE_seq (rg (q0 (vp r1) (q0 (vp r1) (q0 (vi 0) (q0 (vi 0) (wpL_nil (th_n (wpE_ret (af_r hb.dead ?_)))))))))))
      intro w17 hw'
      have hl:=hb.leave hs hw'
      obtain ⟨hs,hb⟩:=hl
      -- behind the loop
      have h:=h w17 hs
      have hs:=hs.here
      refine res3 (.inl rfl) Tryz.results35 (v:=(vp r1)) (by kernel_rfl) (v':=(vi 0)) (by kernel_rfl) (v'':=(vi 0)) (by kernel_rfl) ?_
      exact ⟨r1,0,0,rfl,h⟩
    case ht =>
     intro _ _ _ _ _ _ _ h
     exact h.elim
def m_N2 (p1:Option Addr) (b1:Sl) (w0:World) (K:Int→Int→Int→WP):Prop :=
 Br (Option.isNone p1)
  (K 0 2 0 w0)
  (Calls Tryz.prog 35 #[b1.v] w0 (fun e w1=>∃r1:Option Addr,∃r2 r3:Int,e=.returned (.tuple #[(vp r1),(vi r2),(vi r3)])∧
   Br (r2 != 0)
    (K 0 r2 r3 w1)
    (Calls Tryz.prog 13 #[(vp r1)] w1 (fun e w2=>∃r4:Int,e=.returned (vi r4)∧
     Calls Tryz.prog 36 #[(vp p1),(vp r1),(vi r4)] w2 (fun e w3=>∃r5 r6:Int,e=.returned (.tuple #[(vi r5),(vi r6)])∧
      K r5 r6 0 w3)))))
theorem w_N2 (p1 : Option Addr) (b1 : Sl) (w0 : World) (K : Int → Int → Int → WP) (h : m_N2 p1 b1 w0 K) :
  Calls Tryz.prog 8 #[(vp p1),b1.v] w0 (fun e w'=>∃r7 r8 r9:Int,e=.returned (.tuple #[(vi r7),(vi r8),(vi r9)])∧K r7 r8 r9 w'):=by
 unfold m_N2 at h
 refine cw (args:=[(vp p1),b1.v]) Tryz.func8 Tryz.ntmps8 (wpE_seq (rg (q0 (vi 0) (q0 (vi 0) (q0 (vi 0) (wpL_nil (th_n (wpE_seq (wpE_seq (rg (q0 (vp p1) ?_)))))))))))
 refine q2 (vb (Option.isNone p1)) (x_ptreq (by kernel_rfl) rfl Tryz.underlying26) (wpL_nil (th_n ?_))
 refine wpE_cond (t:=(Option.isNone p1)) (by kernel_rfl) (fun hc1=>?_) (fun hc1=>?_)
 ·have h:=h.1 hc1
  refine wpE_seq (rg (q0 (vi 0) (q0 (vi 2) (q0 (vi 0) (wpL_nil (th_n (wpE_ret (th_r (res3 (.inl rfl) Tryz.results8 (v:=(vi 0)) (by kernel_rfl) (v':=(vi 2)) (by kernel_rfl) (v'':=(vi 0)) (by kernel_rfl) ?_)))))))))
  exact ⟨0,2,0,rfl,h⟩
 ·have h:=h.2 hc1
  refine wpE_skip (th_n (wpE_seq (rg (q0 b1.v ?_))))
  refine sc Tryz.call35 (h.mono ?_)
  rintro e w1 ⟨r1,r2,r3,rfl,h⟩
  refine ⟨_,rfl,?_⟩
  refine q0 (.tuple #[(vp r1),(vi r2),(vi r3)]) (q0 (vp r1) (q0 (vi r2) (q0 (vi r3) (q0 (vp r1) (q0 (vi r2) (q0 (vi r3) (wpL_nil (th_n (wpE_seq (wpE_seq (rg ?_)))))))))))
  refine q0 (vi r2) (q0 (vb (r2 != 0)) (wpL_nil (th_n ?_)))
  refine wpE_cond (t:=(r2 != 0)) (by kernel_rfl) (fun hc2=>?_) (fun hc2=>?_)
  ·have h:=h.1 hc2
   refine wpE_seq (rg (q0 (vi r2) (q0 (vi r3) (q0 (vi 0) (q0 (vi r2) (q0 (vi r3) (wpL_nil (th_n (wpE_ret (th_r (res3 (.inl rfl) Tryz.results8 (v:=(vi 0)) (by kernel_rfl) (v':=(vi r2)) (by kernel_rfl) (v'':=(vi r3)) (by kernel_rfl) ?_)))))))))))
   exact ⟨0,r2,r3,rfl,h⟩
  ·have h:=h.2 hc2
   refine wpE_skip (th_n (wpE_seq (rg (q0 (vp p1) (q0 (vp r1) (q0 (vp r1) ?_))))))
   refine sc Tryz.call13 (h.mono ?_)
   rintro e w2 ⟨r4,rfl,h⟩
   refine ⟨_,rfl,?_⟩
   refine sc Tryz.call36 (h.mono ?_)
   rintro e w3 ⟨r5,r6,rfl,h⟩
   refine ⟨_,rfl,?_⟩
   refine q0 (.tuple #[(vi r5),(vi r6)]) (q0 (vi r5) (q0 (vi r6) (q0 (vi r5) (q0 (vi r6) (wpL_nil (th_n (wpE_seq (rg (q0 (vi r5) (q0 (vi r6) (q0 (vi r5) ?_)))))))))))
   refine q0 (vi r6) (q0 (vi 0) (wpL_nil (th_n (wpE_ret (res3 (.inl rfl) Tryz.results8 (v:=(vi r5)) (by kernel_rfl) (v':=(vi r6)) (by kernel_rfl) (v'':=(vi 0)) (by kernel_rfl) ?_)))))
   exact ⟨r5,r6,0,rfl,h⟩
def m_O2 (b1:Sl) (w0:World) (K:Int→Int→WP):Prop :=
 Calls Tryz.prog 35 #[b1.v] w0 (fun e w1=>∃r1:Option Addr,∃r2 r3:Int,e=.returned (.tuple #[(vp r1),(vi r2),(vi r3)])∧
  K r2 r3 w1)
theorem w_O2 (b1 : Sl) (w0 : World) (K : Int → Int → WP) (h : m_O2 b1 w0 K) :
  Calls Tryz.prog 10 #[b1.v] w0 (fun e w'=>∃r4 r5:Int,e=.returned (.tuple #[(vi r4),(vi r5)])∧K r4 r5 w'):=by
 unfold m_O2 at h
 refine cw (args:=[b1.v]) Tryz.func10 Tryz.ntmps10 (wpE_seq (rg (q0 (vi 0) (q0 (vi 0) (wpL_nil (th_n (wpE_seq (rg (q0 b1.v ?_)))))))))
 refine sc Tryz.call35 (h.mono ?_)
 rintro e w1 ⟨r1,r2,r3,rfl,h⟩
 refine ⟨_,rfl,?_⟩
 refine q0 (.tuple #[(vp r1),(vi r2),(vi r3)]) (q0 (vp r1) (q0 (vi r2) (q0 (vi r3) (q0 (vp r1) (q0 (vi r2) (q0 (vi r3) (wpL_nil (th_n (wpE_seq (rg (q0 (vi r2) ?_)))))))))))
 refine q0 (vi r3) (q0 (vi r2) (q0 (vi r3) (wpL_nil (th_n (wpE_ret (res2 (.inl rfl) Tryz.results10 (v:=(vi r2)) (by kernel_rfl) (v':=(vi r3)) (by kernel_rfl) ?_))))))
 exact ⟨r2,r3,rfl,h⟩
def s_D1 (e1:Int):Int :=
 e1
theorem pw_D1 (e1 : Int) (w0 : World) :
  Calls Tryz.prog 12 #[(vi e1)] w0 (fun e w'=>(e=.returned (vi e1))∧Pure w0 w'):=by
 refine cw (args:=[(vi e1)]) Tryz.func12 Tryz.ntmps12 (wpE_seq (rg (q0 (vi 0) (wpL_nil (th_n (wpE_seq (rg (q0 (vi e1) (q0 (vi e1) (wpL_nil (th_n ?_)))))))))))
 refine wpE_ret (rs1 Tryz.results12 (v:=(vi e1)) ?_)
 exact ⟨by kernel_rfl,Ext.refl _⟩
theorem p_D1 (e1:Int) (w0:World):Calls Tryz.prog 12 #[(.int .i64 e1)] w0 (fun e w'=>e=.returned (.int .i64 (s_D1 e1))∧Pure w0 w'):=pw_D1 e1 w0
def m_X_j1 (r4 r8:Int) (r9 r11 r12:Int) (x1:Bool) (w0:World) (H:NP) (w:World) (K:Bool→WP):Prop :=
 ∀y1:Bool,y1=((((x1 && (r9 == 0)) && (r8 == r4)) && (r4 == 2)) && (r11 == 72)) →
 ∀(H6:NP) (w20:World),Hst w0 H w H6 w20 →
 K (y1 && (r12 == 2)) w20
def m_X  (w0:World) (K:Bool→WP):Prop :=
 Calls Tryz.prog 27 #[] w0 (fun e w1=>∃r1:Option Addr,e=.returned (vp r1)∧
  Kept None w0 w1 ∧
  Br (Option.isNone r1)
   (K false w1)
   (Calls Tryz.prog 28 #[(vp r1),(vi 0)] w1 (fun e w2=>∃r2 r3:Int,e=.returned (.tuple #[(vi r2),(vi r3)])∧
    Kept None w1 w2 ∧
    Calls Tryz.prog 29 #[(vp r1),(vi r2),(vi r2)] w2 (fun e w3=>∃r4 r5:Int,e=.returned (.tuple #[(vi r4),(vi r5)])∧
     Kept None w2 w3 ∧
     Calls Tryz.prog 30 #[(vp r1),(vi r4)] w3 (fun e w4=>∃r6:Sl,∃r7:Int,e=.returned (.tuple #[r6.v,(vi r7)])∧
      Kept None w3 w4 ∧
      Calls Tryz.prog 8 #[(vp r1),r6.v] w4 (fun e w5=>∃r8 r9 r10:Int,e=.returned (.tuple #[(vi r8),(vi r9),(vi r10)])∧
       Kept None w4 w5 ∧
       ∀(p1:Addr) (w6:World),New w5 (.cells #[(.int .u8 1),(.int .u8 0),(.int .u8 1),(.int .u8 0)] 5) p1 w6 →
       Calls Tryz.prog 10 #[(Sl.mk (some p1) 4 4).v] w6 (fun e w7=>∃r11 r12:Int,e=.returned (.tuple #[(vi r11),(vi r12)])∧
        Kept None w6 w7 ∧
        Br ((r5 == 0) && (r7 == 0))
         (∀(H1:NP) (w10:World),Hst w0 None w7 H1 w10 →
         ∃c1:ByteArray,(convert 23 9 r6.v).run Tryz.prog w10=.ok (vs c1) w10 ∧
         m_X_j1 r4 r8 r9 r11 r12 (decide (c1=(⟨#[1,0,4,0,0]⟩:ByteArray))) w0 H1 w10 K)
         (∀(H1:NP) (w10:World),Hst w0 None w7 H1 w10 →
         m_X_j1 r4 r8 r9 r11 r12 false w0 H1 w10 K))))))))
theorem w_X  (w0 : World) (K : Bool → WP) (h : m_X  w0 K) :
  Calls Tryz.prog 6 #[] w0 (fun e w'=>∃r13:Bool,e=.returned (vb r13)∧K r13 w'):=by
 unfold m_X at h
 refine cw (args:=[]) Tryz.func6 Tryz.ntmps6 ?_
 have hs:=Hst.start w0
 have hb:=HB.nil None w0
 refine wpE_seq (rg (q0 (vb false) (wpL_nil (th_n (wpE_seq (rg ?_))))))
 refine sc Tryz.call27 (h.mono ?_)
 rintro e w1 ⟨r1,rfl,hk,h⟩
 refine ⟨_,rfl,?_⟩
 obtain ⟨hs,hb⟩:=hk.hh hs hb
 refine q0 (vp r1) (wpL_nil (th_n (wpE_seq (wpE_seq (rg (q0 (vp r1) (q2 (vb (Option.isNone r1)) (x_ptreq (by kernel_rfl) rfl Tryz.underlying26) (wpL_nil (th_n ?_)))))))))
 refine wpE_cond (t:=(Option.isNone r1)) (by kernel_rfl) (fun hc1=>?_) (fun hc1=>?_)
 ·have h:=h.1 hc1
  refine wpE_seq (rg (q0 (vb false) (wpL_nil (th_n (wpE_ret (th_r (rs1 Tryz.results6 (v:=(vb false)) ?_)))))))
  exact ⟨false,rfl,h⟩
 ·have h:=h.2 hc1
  refine wpE_skip (th_n (wpE_seq (rg (q0 (vp r1) ?_))))
  refine sc Tryz.call28 (h.mono ?_)
  rintro e w2 ⟨r2,r3,rfl,hk,h⟩
  refine ⟨_,rfl,?_⟩
  obtain ⟨hs,hb⟩:=hk.hh hs hb
  refine q0 (.tuple #[(vi r2),(vi r3)]) (q0 (vi r2) (q0 (vi r3) (q0 (vi r2) (q0 (vi r3) (wpL_nil (th_n (wpE_seq (rg (q0 (vp r1) (q0 (vi r2) (q0 (vi r2) ?_)))))))))))
  refine sc Tryz.call29 (h.mono ?_)
  rintro e w3 ⟨r4,r5,rfl,hk,h⟩
  refine ⟨_,rfl,?_⟩
  obtain ⟨hs,hb⟩:=hk.hh hs hb
  refine q0 (.tuple #[(vi r4),(vi r5)]) (q0 (vi r4) (q0 (vi r5) (q0 (vi r4) (q0 (vi r5) (wpL_nil (th_n (wpE_seq (rg (q0 (vp r1) (q0 (vi r4) ?_))))))))))
  refine sc Tryz.call30 (h.mono ?_)
  rintro e w4 ⟨r6,r7,rfl,hk,h⟩
  refine ⟨_,rfl,?_⟩
  obtain ⟨hs,hb⟩:=hk.hh hs hb
  refine q0 (.tuple #[r6.v,(vi r7)]) (q0 r6.v (q0 (vi r7) (q0 r6.v (q0 (vi r7) (wpL_nil (th_n (wpE_seq (rg (q0 (vp r1) (q0 r6.v ?_))))))))))
  refine sc Tryz.call8 (h.mono ?_)
  rintro e w5 ⟨r8,r9,r10,rfl,hk,h⟩
  refine ⟨_,rfl,?_⟩
  obtain ⟨hs,hb⟩:=hk.hh hs hb
  refine q0 (.tuple #[(vi r8),(vi r9),(vi r10)]) (q0 (vi r8) (q0 (vi r9) (q0 (vi r10) (q0 (vi r8) (q0 (vi r9) (q0 (vi r10) (wpL_nil (th_n (wpE_seq (rg (st_new (O:=(.cells #[(.int .u8 1),(.int .u8 0),(.int .u8 1),(.int .u8 0)] 5)) (fun p=>(Sl.mk (some p) 4 4).v) (want0 rfl) (x_buildSlice (vs:=#[(0,(.int .u8 1)),(1,(.int .u8 0)),(2,(.int .u8 1)),(3,(.int .u8 0))]) (by kernel_rfl) (by kernel_rfl)) ?_)))))))))))
  intro p1 w6 hn1
  have h:=h p1 w6 hn1
  have hs:=hs.again (Ext.new (F:=None) hn1).keptP
  have hb:=hb.kept (Ext.new (F:=None) hn1).keptP
  refine sc Tryz.call10 (h.mono ?_)
  rintro e w7 ⟨r11,r12,rfl,hk,h⟩
  refine ⟨_,rfl,?_⟩
  obtain ⟨hs,hb⟩:=hk.hh hs hb
  refine q0 (.tuple #[(vi r11),(vi r12)]) (q0 (vi r11) (q0 (vi r12) (q0 (vi r11) (q0 (vi r12) (wpL_nil (th_n (wpE_seq (rg (q0 (vi r5) ?_)))))))))
  refine sc Tryz.call12 ((p_D1 r5 w7).mono ?_)
  rintro e w8 ⟨he,hE⟩
  refine ⟨(vi r5),he.trans (by kernel_rfl),?_⟩
  have hs:=hs.pure hE
  have hb:=hb.pure hE
  refine q0 (vb (r5 == 0)) (q0 (vb (r5 == 0)) ?_)
  refine wpL_join 4 (fun ρ wJ=>∃b1'0:Bool,∃HJ:NP,((r5 == 0)=b1'0)∧Hst w0 None w7 HJ wJ∧HB HJ wJ []∧Has ρ [(4,(vi r4)),(6,r6.v),(8,(vi r8)),(9,(vi r9)),(11,(vi r11)),(12,(vi r12)),(53,(vb (b1'0 && (r7 == 0))))]) ?_ ?_
  ·rintro ρ w10 ⟨b1'0,H1,he0,hs,hb,hH⟩
   subst he0
   refine wpL_has hH ?_
   refine q0 (vb ((r5 == 0) && (r7 == 0))) ?_
   refine wpL_join 4 (fun ρ w=>∃x1:Bool,∃H:NP,Has ρ [(4,(vi r4)),(8,(vi r8)),(9,(vi r9)),(11,(vi r11)),(12,(vi r12)),(58,(vb x1))]∧Hst w0 H w H w∧HB H w []∧m_X_j1 r4 r8 r9 r11 r12 x1 w0 H w K) ?_ ?_
   ·rintro ρ w ⟨x1,H,hH,hs,hb,h⟩
    unfold m_X_j1 at h
    refine wpL_has hH ?_
    refine q0 (vb x1) ?_
    refine wpL_join 4 (fun ρ wJ=>∃b2'0:Bool,∃HJ:NP,(x1=b2'0)∧Hst w0 H w HJ wJ∧HB HJ wJ []∧Has ρ [(4,(vi r4)),(8,(vi r8)),(11,(vi r11)),(12,(vi r12)),(63,(vb (b2'0 && (r9 == 0))))]) ?_ ?_
    ·rintro ρ w13 ⟨b2'0,H2,he0,hs,hb,hH⟩
     subst he0
     refine wpL_has hH ?_
     refine q0 (vb (x1 && (r9 == 0))) ?_
     refine wpL_join 4 (fun ρ wJ=>∃b3'0:Bool,∃HJ:NP,((x1 && (r9 == 0))=b3'0)∧Hst w0 H w HJ wJ∧HB HJ wJ []∧Has ρ [(4,(vi r4)),(11,(vi r11)),(12,(vi r12)),(68,(vb (b3'0 && (r8 == r4))))]) ?_ ?_
     ·rintro ρ w15 ⟨b3'0,H3,he0,hs,hb,hH⟩
      subst he0
      refine wpL_has hH ?_
      refine q0 (vb ((x1 && (r9 == 0)) && (r8 == r4))) ?_
      refine wpL_join 3 (fun ρ wJ=>∃b4'0:Bool,∃HJ:NP,(((x1 && (r9 == 0)) && (r8 == r4))=b4'0)∧Hst w0 H w HJ wJ∧HB HJ wJ []∧Has ρ [(11,(vi r11)),(12,(vi r12)),(72,(vb (b4'0 && (r4 == 2))))]) ?_ ?_
      ·rintro ρ w16 ⟨b4'0,H4,he0,hs,hb,hH⟩
       subst he0
       refine wpL_has hH ?_
       refine q0 (vb (((x1 && (r9 == 0)) && (r8 == r4)) && (r4 == 2))) ?_
       refine wpL_join 4 (fun ρ wJ=>∃b5'0 y1:Bool,∃HJ:NP,((((x1 && (r9 == 0)) && (r8 == r4)) && (r4 == 2))=b5'0)∧(y1=(b5'0 && (r11 == 72)))∧Hst w0 H w HJ wJ∧HB HJ wJ []∧Has ρ [(12,(vi r12)),(77,(vb y1))]) ?_ ?_
       ·rintro ρ w18 ⟨b5'0,y1,H5,he0,hy1,hs,hb,hH⟩
        subst he0
        have h:=h y1 hy1
        refine wpL_has hH ?_
        refine q0 (vb y1) ?_
        refine wpL_join 3 (fun ρ wJ=>∃b6'0:Bool,∃HJ:NP,(y1=b6'0)∧Hst w0 H w HJ wJ∧HB HJ wJ []∧Has ρ [(81,(vb (b6'0 && (r12 == 2))))]) ?_ ?_
        ·rintro ρ w20 ⟨b6'0,H6,he0,hs,hb,hH⟩
         subst he0
         refine wpL_has hH ?_
         refine q0 (vb (y1 && (r12 == 2))) (wpL_nil (th_n (wpE_ret ?_)))
         have h:=h H6 w20 hs
         have hs:=hs.here
         refine rs1 Tryz.results6 (v:=(vb (y1 && (r12 == 2)))) ?_
         exact ⟨(y1 && (r12 == 2)),rfl,h⟩
        ·rcases Bool.eq_false_or_eq_true y1 with hg12 | hg12
         ·refine q1 (vi r12) (want1 rfl (yD 78 hg12)) (q1 (vb (r12 == 2)) (want1 rfl (yD 78 hg12)) (q2 (vb (r12 == 2)) (xT hg12) (wpL_nil ?_)))
          exact ⟨true,_,hg12,hs,hb,hm⟩
         ·refine sk (yD 78 hg12) (sk (yD 78 hg12) (q2 (vb false) (xF hg12) (wpL_nil ?_)))
          exact ⟨false,_,hg12,hs,hb,hm⟩
       ·rcases Bool.eq_false_or_eq_true (((x1 && (r9 == 0)) && (r8 == r4)) && (r4 == 2)) with hg10 | hg10
        ·refine q1 (vi r11) (want1 rfl (yD 73 hg10)) ?_
         refine st_call (want1 rfl (yD 73 hg10)) (xc Tryz.call12) ((p_D1 r11 w16).mono ?_)
         rintro e w19 ⟨he,hE⟩
         refine ⟨(vi r11),he.trans (by kernel_rfl),?_⟩
         have hs:=hs.pure hE
         have hb:=hb.pure hE
         refine q1 (vb (r11 == 72)) (want1 rfl (yD 73 hg10)) (q2 (vb (r11 == 72)) (xT hg10) (wpL_nil ?_))
         exact ⟨true,_,_,hg10,rfl,hs,hb,hm⟩
        ·refine sk (yD 73 hg10) (sk (yD 73 hg10) (sk (yD 73 hg10) (q2 (vb false) (xF hg10) (wpL_nil ?_))))
         exact ⟨false,_,_,hg10,rfl,hs,hb,hm⟩
      ·rcases Bool.eq_false_or_eq_true ((x1 && (r9 == 0)) && (r8 == r4)) with hg8 | hg8
       ·refine q1 (vi r4) (want1 rfl (yD 69 hg8)) (q1 (vb (r4 == 2)) (want1 rfl (yD 69 hg8)) (q2 (vb (r4 == 2)) (xT hg8) (wpL_nil ?_)))
        exact ⟨true,_,hg8,hs,hb,hm⟩
       ·refine sk (yD 69 hg8) (sk (yD 69 hg8) (q2 (vb false) (xF hg8) (wpL_nil ?_)))
        exact ⟨false,_,hg8,hs,hb,hm⟩
     ·rcases Bool.eq_false_or_eq_true (x1 && (r9 == 0)) with hg6 | hg6
      ·refine q1 (vi r8) (want1 rfl (yD 64 hg6)) (q1 (vi r4) (want1 rfl (yD 64 hg6)) (q1 (vb (r8 == r4)) (want1 rfl (yD 64 hg6)) (q2 (vb (r8 == r4)) (xT hg6) (wpL_nil ?_))))
       exact ⟨true,_,hg6,hs,hb,hm⟩
      ·refine sk (yD 64 hg6) (sk (yD 64 hg6) (sk (yD 64 hg6) (q2 (vb false) (xF hg6) (wpL_nil ?_))))
       exact ⟨false,_,hg6,hs,hb,hm⟩
    ·rcases Bool.eq_false_or_eq_true x1 with hg4 | hg4
     ·refine q1 (vi r9) (want1 rfl (yD 59 hg4)) ?_
      refine st_call (want1 rfl (yD 59 hg4)) (xc Tryz.call12) ((p_D1 r9 w).mono ?_)
      rintro e w14 ⟨he,hE⟩
      refine ⟨(vi r9),he.trans (by kernel_rfl),?_⟩
      have hs:=hs.pure hE
      have hb:=hb.pure hE
      refine q1 (vb (r9 == 0)) (want1 rfl (yD 59 hg4)) (q2 (vb (r9 == 0)) (xT hg4) (wpL_nil ?_))
      exact ⟨true,_,hg4,hs,hb,hm⟩
     ·refine sk (yD 59 hg4) (sk (yD 59 hg4) (sk (yD 59 hg4) (q2 (vb false) (xF hg4) (wpL_nil ?_))))
      exact ⟨false,_,hg4,hs,hb,hm⟩
   ·rcases Bool.eq_false_or_eq_true ((r5 == 0) && (r7 == 0)) with hg13 | hg13
    ·have h:=h.1 hg13
     refine q1 r6.v (want1 rfl (yD 54 hg13)) ?_
     have h:=h H1 w10 hs
     have hs:=hs.here
     obtain ⟨c1,hv1,h⟩:=h
     refine stp (v:=(vs c1)) (want1 rfl (yD 54 hg13)) (x_convert (by kernel_rfl) hv1) (stp (v:=(vb (decide (c1=(⟨#[1,0,4,0,0]⟩:ByteArray))))) (want1 rfl (yD 54 hg13)) (x_streq (by kernel_rfl) (by kernel_rfl)) (q2 (vb (decide (c1=(⟨#[1,0,4,0,0]⟩:ByteArray)))) (xT hg13) (wpL_nil ?_)))
     exact ⟨(decide (c1=(⟨#[1,0,4,0,0]⟩:ByteArray))),H1,hm,hs,hb,h⟩
    ·have h:=h.2 hg13
     refine sk (yD 54 hg13) (sk (yD 54 hg13) (sk (yD 54 hg13) (q2 (vb false) (xF hg13) (wpL_nil ?_))))
     have h:=h H1 w10 hs
     have hs:=hs.here
     exact ⟨false,H1,hm,hs,hb,h⟩
  ·rcases Bool.eq_false_or_eq_true (r5 == 0) with hg2 | hg2
   ·refine q1 (vi r7) (want1 rfl (yD 49 hg2)) ?_
    refine st_call (want1 rfl (yD 49 hg2)) (xc Tryz.call12) ((p_D1 r7 w8).mono ?_)
    rintro e w11 ⟨he,hE⟩
    refine ⟨(vi r7),he.trans (by kernel_rfl),?_⟩
    have hs:=hs.pure hE
    have hb:=hb.pure hE
    refine q1 (vb (r7 == 0)) (want1 rfl (yD 49 hg2)) (q2 (vb (r7 == 0)) (xT hg2) (wpL_nil ?_))
    exact ⟨true,_,hg2,hs,hb,hm⟩
   ·refine sk (yD 49 hg2) (sk (yD 49 hg2) (sk (yD 49 hg2) (q2 (vb false) (xF hg2) (wpL_nil ?_))))
    exact ⟨false,_,hg2,hs,hb,hm⟩
def m_N1_l1 (l1:Sl) (r1:Option Addr) (r2:Option Addr) (i1:Int) (wl1:World) (Kc1:Int→WP) (K:(Option Addr)→(Option Addr)→WP):Prop :=
 Br (decide (i1<(l1.len:Int)))
  (∃a1:Addr,At l1 i1 6 a1 ∧
  ∃aW aX:Int,∃aY aZ:Int,∃bA:ByteArray,∃dQ:Sl,Row wl1 a1 [(vi aW),(vi aX),(vi aY),(vu aZ),(vs bA),dQ.v] ∧
  Calls Tryz.prog 33 #[(.agg #[(vi aW),(vi aX),(vi aY),(vu aZ),(vs bA),dQ.v])] wl1 (fun e w3=>∃aK aL:Int,∃aM aN:Int,∃aO:ByteArray,∃bU:Sl,e=.returned (.agg #[(vi aK),(vi aL),(vi aM),(vu aN),(vs aO),bU.v])∧
   Calls Tryz.prog 32 #[(vp r1),(.agg #[(vi aK),(vi aL),(vi aM),(vu aN),(vs aO),bU.v])] w3 (fun e w4=>∃r3 r4:Int,e=.returned (.tuple #[(vi r3),(vi r4)])∧
    ∃a2:Addr,At l1 i1 6 a2 ∧
    ∃bD bE:Int,∃bF bG:Int,∃bH:ByteArray,∃dR:Sl,Row w4 a2 [(vi bD),(vi bE),(vi bF),(vu bG),(vs bH),dR.v] ∧
    Calls Tryz.prog 34 #[(vp r2),(.agg #[(vi bD),(vi bE),(vi bF),(vu bG),(vs bH),dR.v])] w4 (fun e w5=>∃r5 r6:Int,e=.returned (.tuple #[(vi r5),(vi r6)])∧
     Kc1 (q6.wrap (i1+1)) w5))))
  (K r1 r2 wl1)
def m_N1 (l1:Sl) (w0:World) (K:(Option Addr)→(Option Addr)→WP):Prop :=
 Calls Tryz.prog 27 #[] w0 (fun e w1=>∃r1:Option Addr,e=.returned (vp r1)∧
  Calls Tryz.prog 31 #[] w1 (fun e w2=>∃r2:Option Addr,e=.returned (vp r2)∧
   Br (Option.isNone r1)
    (K none r2 w2)
    (∃(I1:Int→WP) (mu1:Int→World→Nat),I1 0 w2 ∧
     ∀(i1:Int) (wl1:World),I1 i1 wl1→m_N1_l1 l1 r1 r2 i1 wl1 (fun y'0 w'=>I1 y'0 w'∧mu1 y'0 w'<mu1 i1 wl1) K)))
theorem w_N1 (l1 : Sl) (w0 : World) (K : (Option Addr) → (Option Addr) → WP) (h : m_N1 l1 w0 K) :
  Calls Tryz.prog 7 #[l1.v] w0 (fun e w'=>∃r7:Option Addr,∃r8:Option Addr,e=.returned (.tuple #[(vp r7),(vp r8)])∧K r7 r8 w'):=by
 unfold m_N1 at h
 refine cw (args:=[l1.v]) Tryz.func7 Tryz.ntmps7 (wpE_seq (rg (q0 (vp none) (q0 (vp none) (wpL_nil (th_n (wpE_seq (rg ?_))))))))
 refine sc Tryz.call27 (h.mono ?_)
 rintro e w1 ⟨r1,rfl,h⟩
 refine ⟨_,rfl,?_⟩
 refine q0 (vp r1) (wpL_nil (th_n (wpE_seq (rg ?_))))
 refine sc Tryz.call31 (h.mono ?_)
 rintro e w2 ⟨r2,rfl,h⟩
 refine ⟨_,rfl,?_⟩
 refine q0 (vp r2) (wpL_nil (th_n (wpE_seq (wpE_seq (rg (q0 (vp r1) (q2 (vb (Option.isNone r1)) (x_ptreq (by kernel_rfl) rfl Tryz.underlying26) (wpL_nil (th_n ?_)))))))))
 refine wpE_cond (t:=(Option.isNone r1)) (by kernel_rfl) (fun hc1=>?_) (fun hc1=>?_)
 ·have h:=h.1 hc1
  refine wpE_seq (rg (q0 (vp r2) (q0 (vp none) (q0 (vp r2) (wpL_nil (th_n (wpE_ret (th_r (res2 (.inl rfl) Tryz.results7 (v:=(vp none)) (by kernel_rfl) (v':=(vp r2)) (by kernel_rfl) ?_)))))))))
  exact ⟨none,r2,rfl,h⟩
 ·have h:=h.2 hc1
  refine wpE_skip (th_n (wpE_seq (wpE_seq (rg (q0 (vi 0) (wpL_nil (th_n (wpE_block ?_))))))))
  obtain ⟨I1,mu1,h0,hr⟩:=h
  refine wpE_loop (σ:=Int×World) (fun s ρ w=>w=s.2∧Has ρ [(0,l1.v),(4,(vp r1)),(5,(vp r2)),(6,(vi s.1))]∧I1 s.1 s.2) (fun s=>mu1 s.1 s.2) (0,w2) ⟨rfl,hm,h0⟩ ?_
  rintro ⟨i1,wl1⟩ ρ w ⟨hw,hH,hI⟩
  obtain rfl:wl1=w:=(show w=wl1 from hw).symm
  have hH:Has ρ [(0,l1.v),(4,(vp r1)),(5,(vp r2)),(6,(vi i1))]:=hH
  have h:=hr i1 wl1 hI
  unfold m_N1_l1 at h
  refine wpE_has hH ?_
  refine wpE_seq (wpE_seq (rg (q0 (vi i1) (q0 l1.v (q0 (vi (l1.len:Int)) (q0 (vb (decide (i1<(l1.len:Int)))) (wpL_nil (th_n ?_))))))))
  refine wpE_cond (t:=(decide (i1<(l1.len:Int)))) (by kernel_rfl) (fun hc2=>?_) (fun hc2=>?_)
  ·have h:=h.1 hc2
   refine wpE_skip (th_n (wpE_seq (wpE_block (wpE_seq (rg (q0 (vp r1) (q0 l1.v (q0 (vi i1) ?_))))))))
   obtain ⟨a1,hv4,h⟩:=h
   refine q2 (vp (some a1)) (xi (Tryz.runUnderlying22 _) (Tryz.sizeOf49 _) hv4) ?_
   obtain ⟨aW,aX,aY,aZ,bA,dQ,hv3,h⟩:=h
   refine q2 (.agg #[(vi aW),(vi aX),(vi aY),(vu aZ),(vs bA),dQ.v]) (x_loadA (a:=a1) (vs:=[(vi aW),(vi aX),(vi aY),(vu aZ),(vs bA),dQ.v]) (by kernel_rfl) (Tryz.isAgg49 _) (Tryz.sizeOf49 _) rfl hv3) ?_
   refine sc Tryz.call33 (h.mono ?_)
   rintro e w3 ⟨aK,aL,aM,aN,aO,bU,rfl,h⟩
   refine ⟨_,rfl,?_⟩
   refine sc Tryz.call32 (h.mono ?_)
   rintro e w4 ⟨r3,r4,rfl,h⟩
   refine ⟨_,rfl,?_⟩
   refine wpL_nil (th_n (rg (q0 (vp r2) (q0 l1.v (q0 (vi i1) ?_)))))
   obtain ⟨a2,hv2,h⟩:=h
   refine q2 (vp (some a2)) (xi (Tryz.runUnderlying22 _) (Tryz.sizeOf49 _) hv2) ?_
   obtain ⟨bD,bE,bF,bG,bH,dR,hv1,h⟩:=h
   refine q2 (.agg #[(vi bD),(vi bE),(vi bF),(vu bG),(vs bH),dR.v]) (x_loadA (a:=a2) (vs:=[(vi bD),(vi bE),(vi bF),(vu bG),(vs bH),dR.v]) (by kernel_rfl) (Tryz.isAgg49 _) (Tryz.sizeOf49 _) rfl hv1) ?_
   refine sc Tryz.call34 (h.mono ?_)
   rintro e w5 ⟨r5,r6,rfl,h⟩
   refine ⟨_,rfl,?_⟩
   refine wpL_nil (bl_n (th_n (rg (q0 (vi i1) (q0 (vi (q6.wrap (i1+1))) (q0 (vi (q6.wrap (i1+1))) (wpL_nil (th_n ?_))))))))
   exact ⟨((q6.wrap (i1+1)),w5),⟨rfl,hm,h.1⟩,h.2⟩
  ·have h:=h.2 hc2
   refine wpE_exit (th_x (th_x (bl_eq (th_n (wpE_seq (rg (q0 (vp r1) (q0 (vp r2) (q0 (vp r1) (q0 (vp r2) (wpL_nil ?_)))))))))))
   refine th_n (wpE_ret (res2 (.inl rfl) Tryz.results7 (v:=(vp r1)) (by kernel_rfl) (v':=(vp r2)) (by kernel_rfl) ?_))
   exact ⟨r1,r2,rfl,h⟩
def m_P2 (p1:Sl) (w0:World) (K:(Option Addr)→WP):Prop :=
 ∀(p2:Addr) (w1:World),New w0 (.cells #[] 5) p2 w1 →
 ∃s1:Sl,∃w2:World,(Builtin.append_ #[23,23] 23 #[(Sl.mk (some p2) 0 0).v,p1.v]).run Tryz.prog w1=.ok s1.v w2 ∧
 ∀(p3:Addr) (w3:World),New w2 (.cells #[s1.v,(vi 0),(vi 0),(vi 0)] 84) p3 w3 →
 K (some p3) w3
theorem w_P2 (p1 : Sl) (w0 : World) (K : (Option Addr) → WP) (h : m_P2 p1 w0 K) :
  Calls Tryz.prog 38 #[p1.v] w0 (fun e w'=>∃r1:Option Addr,e=.returned (vp r1)∧K r1 w'):=by
 unfold m_P2 at h
 refine cw (args:=[p1.v]) Tryz.func38 Tryz.ntmps38 (wpE_seq (rg (q0 (vp none) (wpL_nil (th_n (wpE_seq (rg (st_new (O:=(.cells #[] 5)) (fun p=>(Sl.mk (some p) 0 0).v) (want0 rfl) (x_buildSlice (vs:=#[]) (by kernel_rfl) (by kernel_rfl)) ?_))))))))
 intro p2 w1 hn2
 have h:=h p2 w1 hn2
 refine q0 p1.v ?_
 obtain ⟨s1,w2,hv1,h⟩:=h
 refine st (v:=s1.v) (want0 rfl) (x_builtin (args:=#[(Sl.mk (some p2) 0 0).v,p1.v]) (by kernel_rfl) (fun _=>rfl) hv1) (q0 (.agg #[s1.v,(vi 0),(vi 0),(vi 0)]) (sn (O:=(.cells #[s1.v,(vi 0),(vi 0),(vi 0)] 84)) xb ?_))
 intro p3 w3 hn1
 have h:=h p3 w3 hn1
 refine q0 (vp (some p3)) (wpL_nil (th_n (wpE_ret (rs1 Tryz.results38 (v:=(vp (some p3))) ?_))))
 exact ⟨(some p3),rfl,h⟩
def m_Q2 (r1:Option Addr) (w0:World) (K:Int→WP):Prop :=
 ∃a1:Addr,r1=some a1 ∧
 ∀(w1:World),Hst w0 None w0 None w1 →
 ∃v1:Sl,w1.cell? a1=some v1.v ∧
 ∃a2:Addr,r1=some a2 ∧
 ∃v2:Int,w1.cell? (a2.add 1)=some (vi v2) ∧
 K (q6.wrap ((v1.len:Int) - v2)) w1
theorem w_Q2 (r1 : Option Addr) (w0 : World) (K : Int → WP) (h : m_Q2 r1 w0 K) :
  Calls Tryz.prog 39 #[(vp r1)] w0 (fun e w'=>∃r2:Int,e=.returned (vi r2)∧K r2 w'):=by
 unfold m_Q2 at h
 refine cw (args:=[(vp r1)]) Tryz.func39 Tryz.ntmps39 ?_
 have hs:=Hst.start w0
 have hb:=HB.nil None w0
 refine wpE_seq (rg (q0 (vi 0) (wpL_nil (th_n (wpE_seq (wpE_drawnQ (by kernel_rfl) (by kernel_rfl) (by kernel_rfl) (by kernel_rfl) ?_))))))
 intro w1 hw1
 have hs:Hst w0 None w0 None w1:=by rw [hw1];exact hs.drew
 have hb:HB None w1 []:=by rw [hw1];exact hb.drew
 refine qq 0 (vp r1) Kp0 (qg 1 ?_)
 obtain ⟨a1,hp1,h⟩:=h
 refine sxQ (v:=(vp (some a1))) Kp1 (want0 rfl) rfl (x_nilCheck (p:=r1) (by kernel_rfl) hp1) (qq 2 (vp (some a1)) Kp2 (qg 3 ?_))
 have h:=h w1 hs
 have hs:=hs.here
 obtain ⟨v1,hv2,h⟩:=h
 refine sxQ (v:=v1.v) Kp3 (want0 rfl) rfl (xl (Tryz.isAgg23 _) hv2) (qq 4 (vi (v1.len:Int)) Kp4 (qq 5 (vp r1) Kp5 (qg 6 ?_)))
 obtain ⟨a2,hp2,h⟩:=h
 refine sxQ (v:=(vp (some a2))) Kp6 (want0 rfl) rfl (x_nilCheck (p:=r1) (by kernel_rfl) hp2) (qq 7 (vp (some (a2.add 1))) Kp7 (qg 8 ?_))
 obtain ⟨v2,hv1,h⟩:=h
 refine sxQ (v:=(vi v2)) Kp8 (want0 rfl) rfl (xl (Tryz.isAgg3 _) hv1) (qq 9 (vi (q6.wrap ((v1.len:Int) - v2))) Kp9 (qq 10 (vi (q6.wrap ((v1.len:Int) - v2))) (pickA (S8 (pickS (pickS pickZ)))) (wn (th_n (wpE_ret (rs1 Tryz.results39 (v:=(vi (q6.wrap ((v1.len:Int) - v2)))) ?_))))))
 exact ⟨(q6.wrap ((v1.len:Int) - v2)),rfl,h⟩
def m_R2 (r1:Option Addr) (e1 at1:Int) (w0:World) (K:WP):Prop :=
 ∃a1:Addr,r1=some a1 ∧
 ∃v1:Int,w0.cell? (a1.add 2)=some (vi v1) ∧
 Br (v1 == 0)
  (∃a2:Addr,r1=some a2 ∧
  CanW w0 (a2.add 2)∧∀w1:World,w1=w0.setCell (a2.add 2) (vi e1) →
  ∃a3:Addr,r1=some a3 ∧
  CanW w1 (a3.add 3)∧∀w2:World,w2=w1.setCell (a3.add 3) (vi at1) →
  K w2)
  (K w0)
theorem w_R2 (r1 : Option Addr) (e1 at1 : Int) (w0 : World) (K : WP) (h : m_R2 r1 e1 at1 w0 K) :
  Calls Tryz.prog 132 #[(vp r1),(vi e1),(vi at1)] w0 (fun e w'=>e=.returned (.tuple #[])∧K  w'):=by
 unfold m_R2 at h
 refine cw (args:=[(vp r1),(vi e1),(vi at1)]) Tryz.func132 Tryz.ntmps132 (wpE_seq (rg (q0 (vp r1) ?_)))
 obtain ⟨a1,hp1,h⟩:=h
 refine q2 (vp (some a1)) (x_nilCheck (p:=r1) (by kernel_rfl) hp1) (q0 (vp (some (a1.add 2))) ?_)
 obtain ⟨v1,hv1,h⟩:=h
 refine q2 (vi v1) (xl (Tryz.isAgg3 _) hv1) (q0 (vb (v1 == 0)) (wpL_nil (th_n ?_)))
 refine wpE_cond (t:=(v1 == 0)) (by kernel_rfl) (fun hc1=>?_) (fun hc1=>?_)
 ·have h:=h.1 hc1
  refine wpE_seq (rg (q0 (vp r1) (q0 (vi e1) ?_)))
  obtain ⟨a2,hp2,h⟩:=h
  refine q2 (vp (some a2)) (x_nilCheck (p:=r1) (by kernel_rfl) hp2) (q0 (vp (some (a2.add 2))) ?_)
  obtain ⟨hp3,h⟩:=h
  refine st_set (want0 rfl) (x_store (a:=(a2.add 2)) (v:=(vi e1)) (by kernel_rfl) (by kernel_rfl) rfl (Tryz.sizeOf3 _) hp3) ?_
  intro w1 hn1
  have h:=h w1 hn1
  refine wpL_nil (th_n (rg (q0 (vp r1) (q0 (vi at1) ?_))))
  obtain ⟨a3,hp4,h⟩:=h
  refine q2 (vp (some a3)) (x_nilCheck (p:=r1) (by kernel_rfl) hp4) (q0 (vp (some (a3.add 3))) ?_)
  obtain ⟨hp5,h⟩:=h
  refine st_set (want0 rfl) (x_store (a:=(a3.add 3)) (v:=(vi at1)) (by kernel_rfl) (by kernel_rfl) rfl (Tryz.sizeOf3 _) hp5) ?_
  intro w2 hn2
  have h:=h w2 hn2
  refine wpL_nil (res0 (.inr rfl) Tryz.results132 ?_)
  exact ⟨rfl,h⟩
 ·have h:=h.2 hc1
  refine wpE_skip (res0 (.inr rfl) Tryz.results132 ?_)
  exact ⟨rfl,h⟩
def m_S2 (r1:Option Addr) (w0:World) (K:Int→WP):Prop :=
 ∃a1:Addr,r1=some a1 ∧
 ∃v1:Int,w0.cell? (a1.add 2)=some (vi v1) ∧
 Br (v1 != 0)
  (K 0 w0)
  (∃a2:Addr,r1=some a2 ∧
  ∀(w1:World),Hst w0 None w0 None w1 →
  ∃v2:Int,w1.cell? (a2.add 1)=some (vi v2) ∧
  ∃a3:Addr,r1=some a3 ∧
  ∃v3:Sl,w1.cell? a3=some v3.v ∧
  Br (v2 == (v3.len:Int))
   (∃a4:Addr,r1=some a4 ∧
   ∃v4:Int,w1.cell? (a4.add 1)=some (vi v4) ∧
   Calls Tryz.prog 132 #[(vp r1),(vi 3),(vi v4)] w1 (fun e w2=>e=.returned (.tuple #[])∧
    Kept None w1 w2 ∧
    K 0 w2))
   (∃a5:Addr,r1=some a5 ∧
   ∃v5:Int,w1.cell? (a5.add 1)=some (vi v5) ∧
   ∃a6:Addr,r1=some a6 ∧
   CanW w1 (a6.add 1)∧¬ None (a6.add 1).block∧∀w3:World,w3=w1.setCell (a6.add 1) (vi (q6.wrap (v5+1))) →
   ∃a7:Addr,r1=some a7 ∧
   ∀(w4:World),Hst w0 None w3 None w4 →
   ∃v6:Sl,w4.cell? a7=some v6.v ∧
   ∃a8:Addr,r1=some a8 ∧
   ∃v7:Int,w4.cell? (a8.add 1)=some (vi v7) ∧
   ∃a9:Addr,At v6 (q6.wrap (v7 - 1)) 1 a9 ∧
   ∃v8:Int,w4.cell? a9=some (.int .u8 v8) ∧
   K v8 w4))
theorem w_S2 (r1 : Option Addr) (w0 : World) (K : Int → WP) (h : m_S2 r1 w0 K) :
  Calls Tryz.prog 81 #[(vp r1)] w0 (fun e w'=>∃r2:Int,e=.returned (.int .u8 r2)∧K r2 w'):=by
 unfold m_S2 at h
 refine cw (args:=[(vp r1)]) Tryz.func81 Tryz.ntmps81 ?_
 have hs:=Hst.start w0
 have hb:=HB.nil None w0
 refine wpE_seq (rg (q0 (.int .u8 0) (wpL_nil (th_n (wpE_seq (wpE_seq (rg (q0 (vp r1) ?_))))))))
 obtain ⟨a1,hp1,h⟩:=h
 refine q2 (vp (some a1)) (x_nilCheck (p:=r1) (by kernel_rfl) hp1) (q0 (vp (some (a1.add 2))) ?_)
 obtain ⟨v1,hv9,h⟩:=h
 refine q2 (vi v1) (xl (Tryz.isAgg3 _) hv9) (q0 (vb (v1 != 0)) (wpL_nil (th_n ?_)))
 refine wpE_cond (t:=(v1 != 0)) (by kernel_rfl) (fun hc1=>?_) (fun hc1=>?_)
 ·have h:=h.1 hc1
  refine wpE_seq (rg (q0 (.int .u8 0) (wpL_nil (th_n (wpE_ret (th_r (rs1 Tryz.results81 (v:=(.int .u8 0)) ?_)))))))
  exact ⟨0,rfl,h⟩
 ·have h:=h.2 hc1
  refine wpE_skip (th_n (wpE_seq (wpE_seq (wpE_drawnQ (by kernel_rfl) (by kernel_rfl) (by kernel_rfl) (by kernel_rfl) ?_))))
  intro w1 hw1
  have hs:Hst w0 None w0 None w1:=by rw [hw1];exact hs.drew
  have hb:HB None w1 []:=by rw [hw1];exact hb.drew
  refine qq 0 (vp r1) Kp0 (qg 1 ?_)
  obtain ⟨a2,hp2,h⟩:=h
  refine sxQ (v:=(vp (some a2))) Kp1 (want0 rfl) rfl (x_nilCheck (p:=r1) (by kernel_rfl) hp2) (qq 2 (vp (some (a2.add 1))) Kp2 (qg 3 ?_))
  have h:=h w1 hs
  have hs:=hs.here
  obtain ⟨v2,hv8,h⟩:=h
  refine sxQ (v:=(vi v2)) Kp3 (want0 rfl) rfl (xl (Tryz.isAgg3 _) hv8) (qq 4 (vp r1) Kp4 (qg 5 ?_))
  obtain ⟨a3,hp3,h⟩:=h
  refine sxQ (v:=(vp (some a3))) Kp5 (want0 rfl) rfl (x_nilCheck (p:=r1) (by kernel_rfl) hp3) (qq 6 (vp (some a3)) Kp6 (qg 7 ?_))
  obtain ⟨v3,hv7,h⟩:=h
  refine sxQ (v:=v3.v) Kp7 (want0 rfl) rfl (xl (Tryz.isAgg23 _) hv7) (qq 8 (vi (v3.len:Int)) Kp8 (qq 9 (vb (v2 == (v3.len:Int))) Kp9 (wn (th_n ?_))))
  refine wpE_cond (t:=(v2 == (v3.len:Int))) (by kernel_rfl) (fun hc2=>?_) (fun hc2=>?_)
  ·have h:=h.1 hc2
   refine wpE_seq (rg (q0 (vp r1) (q0 (vp r1) ?_)))
   obtain ⟨a4,hp4,h⟩:=h
   refine q2 (vp (some a4)) (x_nilCheck (p:=r1) (by kernel_rfl) hp4) (q0 (vp (some (a4.add 1))) ?_)
   obtain ⟨v4,hv1,h⟩:=h
   refine q2 (vi v4) (xl (Tryz.isAgg3 _) hv1) ?_
   refine sc Tryz.call132 (h.mono ?_)
   rintro e w2 ⟨rfl,hk,h⟩
   refine ⟨_,rfl,?_⟩
   obtain ⟨hs,hb⟩:=hk.hh hs hb
   refine wpL_nil (th_n (wpE_seq (rg (q0 (.int .u8 0) (wpL_nil (th_n (wpE_ret (th_r (rs1 Tryz.results81 (v:=(.int .u8 0)) ?_)))))))))
   exact ⟨0,rfl,h⟩
  ·have h:=h.2 hc2
   refine wpE_skip (th_n (wpE_seq (rg (q0 (vp r1) ?_))))
   obtain ⟨a5,hp5,h⟩:=h
   refine q2 (vp (some a5)) (x_nilCheck (p:=r1) (by kernel_rfl) hp5) (q0 (vp (some (a5.add 1))) ?_)
   obtain ⟨v5,hv6,h⟩:=h
   refine q2 (vi v5) (xl (Tryz.isAgg3 _) hv6) (q0 (vi (q6.wrap (v5+1))) ?_)
   obtain ⟨a6,hp6,h⟩:=h
   refine q2 (vp (some a6)) (x_nilCheck (p:=r1) (by kernel_rfl) hp6) (q0 (vp (some (a6.add 1))) ?_)
   obtain ⟨hp7,hnh,h⟩:=h
   refine st_set (want0 rfl) (x_store (a:=(a6.add 1)) (v:=(vi (q6.wrap (v5+1)))) (by kernel_rfl) (by kernel_rfl) rfl (Tryz.sizeOf3 _) hp7) ?_
   intro w3 hn1
   have h:=h w3 hn1
   have hk:=Kept.sc hnh hn1
   obtain ⟨hs,hb⟩:=hk.hh hs hb
   refine wpL_nil (th_n (wpE_seq (wpE_drawnQ (by kernel_rfl) (by kernel_rfl) (by kernel_rfl) (by kernel_rfl) ?_)))
   intro w4 hw4
   have hs:Hst w0 None w3 None w4:=by rw [hw4];exact hs.drew
   have hb:HB None w4 []:=by rw [hw4];exact hb.drew
   refine qq 0 (vp r1) Kp0 (qg 1 ?_)
   obtain ⟨a7,hp8,h⟩:=h
   refine sxQ (v:=(vp (some a7))) Kp1 (want0 rfl) rfl (x_nilCheck (p:=r1) (by kernel_rfl) hp8) (qq 2 (vp (some a7)) Kp2 (qg 3 ?_))
   have h:=h w4 hs
   have hs:=hs.here
   obtain ⟨v6,hv5,h⟩:=h
   refine sxQ (v:=v6.v) Kp3 (want0 rfl) rfl (xl (Tryz.isAgg23 _) hv5) (qq 4 (vp r1) Kp4 (qg 5 ?_))
   obtain ⟨a8,hp9,h⟩:=h
   refine sxQ (v:=(vp (some a8))) Kp5 (want0 rfl) rfl (x_nilCheck (p:=r1) (by kernel_rfl) hp9) (qq 6 (vp (some (a8.add 1))) Kp6 (qg 7 ?_))
   obtain ⟨v7,hv4,h⟩:=h
   refine sxQ (v:=(vi v7)) Kp7 (want0 rfl) rfl (xl (Tryz.isAgg3 _) hv4) (qq 8 (vi (q6.wrap (v7 - 1))) Kp8 (qg 9 ?_))
   obtain ⟨a9,hv3,h⟩:=h
   refine sxQ (v:=(vp (some a9))) Kp9 (want0 rfl) rfl (xi (Tryz.runUnderlying23 _) (Tryz.sizeOf5 _) hv3) (qg 10 ?_)
   obtain ⟨v8,hv2,h⟩:=h
   refine sxQ (v:=(.int .u8 v8)) (pickA (S8 (pickS (pickS pickZ)))) (want0 rfl) rfl (xl (Tryz.isAgg5 _) hv2) (qq 11 (.int .u8 v8) (pickA (S8 (pickS (pickS (pickS pickZ))))) (wn (th_n (wpE_ret (rs1 Tryz.results81 (v:=(.int .u8 v8)) ?_)))))
   exact ⟨v8,rfl,h⟩
def s_J (kind1:Int):Bool :=
 (((((kind1 == 1) || (kind1 == 6)) || (kind1 == 7)) || (kind1 == 8)) || (kind1 == 9))
theorem pw_J (kind1 : Int) (w0 : World) :
  Calls Tryz.prog 82 #[(vi kind1)] w0 (fun e w'=>(e=.returned (vb (((((kind1 == 1) || (kind1 == 6)) || (kind1 == 7)) || (kind1 == 8)) || (kind1 == 9))))∧Pure w0 w'):=by
 refine cw (args:=[(vi kind1)]) Tryz.func82 Tryz.ntmps82 (wpE_seq (rg (q0 (vb false) (wpL_nil (th_n (wpE_seq ?_))))))
 refine wpE_via (fun ρ wJ=>w0=wJ∧Has ρ [(2,(vb (((((kind1 == 1) || (kind1 == 6)) || (kind1 == 7)) || (kind1 == 8)) || (kind1 == 9))))]) ?_ ?_
 ·refine rg (q0 (vi kind1) (q0 (vb (kind1 == 1)) (q0 (vb (kind1 == 1)) ?_)))
  refine wpL_join 3 (fun ρ wJ=>∃b6'0:Bool,((kind1 == 1)=b6'0)∧w0=wJ∧Has ρ [(0,(vi kind1)),(8,(vb (b6'0 || (kind1 == 6))))]) ?_ ?_
  ·rintro ρ w6 ⟨b6'0,he0,hw,hH⟩
   subst he0
   subst hw
   refine wpL_has hH ?_
   refine q0 (vb ((kind1 == 1) || (kind1 == 6))) ?_
   refine wpL_join 3 (fun ρ wJ=>∃b7'0:Bool,(((kind1 == 1) || (kind1 == 6))=b7'0)∧w0=wJ∧Has ρ [(0,(vi kind1)),(12,(vb (b7'0 || (kind1 == 7))))]) ?_ ?_
   ·rintro ρ w7 ⟨b7'0,he0,hw,hH⟩
    subst he0
    subst hw
    refine wpL_has hH ?_
    refine q0 (vb (((kind1 == 1) || (kind1 == 6)) || (kind1 == 7))) ?_
    refine wpL_join 3 (fun ρ wJ=>∃b8'0:Bool,((((kind1 == 1) || (kind1 == 6)) || (kind1 == 7))=b8'0)∧w0=wJ∧Has ρ [(0,(vi kind1)),(16,(vb (b8'0 || (kind1 == 8))))]) ?_ ?_
    ·rintro ρ w8 ⟨b8'0,he0,hw,hH⟩
     subst he0
     subst hw
     refine wpL_has hH ?_
     refine q0 (vb ((((kind1 == 1) || (kind1 == 6)) || (kind1 == 7)) || (kind1 == 8))) ?_
     refine wpL_join 3 (fun ρ wJ=>∃b9'0:Bool,(((((kind1 == 1) || (kind1 == 6)) || (kind1 == 7)) || (kind1 == 8))=b9'0)∧w0=wJ∧Has ρ [(20,(vb (b9'0 || (kind1 == 9))))]) ?_ ?_
     ·rintro ρ w9 ⟨b9'0,he0,hw,hH⟩
      subst he0
      subst hw
      refine wpL_has hH ?_
      refine q0 (vb (((((kind1 == 1) || (kind1 == 6)) || (kind1 == 7)) || (kind1 == 8)) || (kind1 == 9))) (wpL_nil (th_n ?_))
      exact ⟨rfl,hm⟩
     ·rcases Bool.eq_false_or_eq_true ((((kind1 == 1) || (kind1 == 6)) || (kind1 == 7)) || (kind1 == 8)) with hg16 | hg16
      ·refine sk (yD 17 hg16) (sk (yD 17 hg16) (q2 (vb true) (xT hg16) (wpL_nil ?_)))
       exact ⟨true,hg16,rfl,hm⟩
      ·refine q1 (vi kind1) (want1 rfl (yD 17 hg16)) (q1 (vb (kind1 == 9)) (want1 rfl (yD 17 hg16)) (q2 (vb (kind1 == 9)) (xF hg16) (wpL_nil ?_)))
       exact ⟨false,hg16,rfl,hm⟩
    ·rcases Bool.eq_false_or_eq_true (((kind1 == 1) || (kind1 == 6)) || (kind1 == 7)) with hg14 | hg14
     ·refine sk (yD 13 hg14) (sk (yD 13 hg14) (q2 (vb true) (xT hg14) (wpL_nil ?_)))
      exact ⟨true,hg14,rfl,hm⟩
     ·refine q1 (vi kind1) (want1 rfl (yD 13 hg14)) (q1 (vb (kind1 == 8)) (want1 rfl (yD 13 hg14)) (q2 (vb (kind1 == 8)) (xF hg14) (wpL_nil ?_)))
      exact ⟨false,hg14,rfl,hm⟩
   ·rcases Bool.eq_false_or_eq_true ((kind1 == 1) || (kind1 == 6)) with hg12 | hg12
    ·refine sk (yD 9 hg12) (sk (yD 9 hg12) (q2 (vb true) (xT hg12) (wpL_nil ?_)))
     exact ⟨true,hg12,rfl,hm⟩
    ·refine q1 (vi kind1) (want1 rfl (yD 9 hg12)) (q1 (vb (kind1 == 7)) (want1 rfl (yD 9 hg12)) (q2 (vb (kind1 == 7)) (xF hg12) (wpL_nil ?_)))
     exact ⟨false,hg12,rfl,hm⟩
  ·rcases Bool.eq_false_or_eq_true (kind1 == 1) with hg10 | hg10
   ·refine sk (yD 5 hg10) (sk (yD 5 hg10) (q2 (vb true) (xT hg10) (wpL_nil ?_)))
    exact ⟨true,hg10,rfl,hm⟩
   ·refine q1 (vi kind1) (want1 rfl (yD 5 hg10)) (q1 (vb (kind1 == 6)) (want1 rfl (yD 5 hg10)) (q2 (vb (kind1 == 6)) (xF hg10) (wpL_nil ?_)))
    exact ⟨false,hg10,rfl,hm⟩
 ·rintro ρ w5 ⟨hw,hH⟩
  subst hw
  refine norm_has hH ?_
  refine th_n (wpE_ret (rs1 Tryz.results82 (v:=(vb (((((kind1 == 1) || (kind1 == 6)) || (kind1 == 7)) || (kind1 == 8)) || (kind1 == 9)))) ?_))
  exact ⟨by kernel_rfl,Ext.refl _⟩
theorem p_J (kind1:Int) (w0:World):Calls Tryz.prog 82 #[(.int .i64 kind1)] w0 (fun e w'=>e=.returned (.bool (s_J kind1))∧Pure w0 w'):=pw_J kind1 w0
def m_O1_l1 (r1:Option Addr) (n1 i1:Int) (w0:World) (Hl1:NP) (wl1:World) (Kc1:Int→Int→NP→WP) (K:Int→WP):Prop :=
 ∃a2:Addr,r1=some a2 ∧
 ∀(w1:World),Hst w0 Hl1 wl1 Hl1 w1 →
 ∃v2:Int,w1.cell? (a2.add 1)=some (vi v2) ∧
 ∃a3:Addr,r1=some a3 ∧
 ∃v3:Sl,w1.cell? a3=some v3.v ∧
 Br (decide ((q6.wrap (v2+i1))≥(v3.len:Int)))
  (∃a4:Addr,r1=some a4 ∧
  ∃v4:Int,w1.cell? (a4.add 1)=some (vi v4) ∧
  Calls Tryz.prog 132 #[(vp r1),(vi 3),(vi v4)] w1 (fun e w2=>e=.returned (.tuple #[])∧
   Kept Hl1 w1 w2 ∧
   K 0 w2))
  (∃a5:Addr,r1=some a5 ∧
  ∀(w3:World),Hst w0 Hl1 w1 Hl1 w3 →
  ∃v5:Sl,w3.cell? a5=some v5.v ∧
  ∃a6:Addr,r1=some a6 ∧
  ∃v6:Int,w3.cell? (a6.add 1)=some (vi v6) ∧
  ∃a7:Addr,At v5 (q6.wrap (v6+i1)) 1 a7 ∧
  ∃v7:Int,w3.cell? a7=some (.int .u8 v7) ∧
  Br ((i1 == 9) && (decide (v7>1)))
   (∃a8:Addr,r1=some a8 ∧
   ∀(H1:NP) (w4:World),Hst w0 Hl1 w3 H1 w4 →
   ∃v8:Int,w4.cell? (a8.add 1)=some (vi v8) ∧
   Calls Tryz.prog 132 #[(vp r1),(vi 11),(vi v8)] w4 (fun e w5=>e=.returned (.tuple #[])∧
    Kept H1 w4 w5 ∧
    K 0 w5))
   (∀(H1:NP) (w4:World),Hst w0 Hl1 w3 H1 w4 →
   ∃z1:Int,(Go.binOp .rem 5 (.int .u8 v7) (.int .u8 128)).run Tryz.prog w4=.ok (.int .u8 z1) w4 ∧
   ∃z2:Int,(Go.binOp .shl 47 (vu (IntKind.u64.wrap z1)) (vu (IntKind.u64.wrap (q6.wrap (7*i1))))).run Tryz.prog w4=.ok (vu z2) w4 ∧
   Br (decide (v7≥128))
    (Kc1 (IntKind.u64.wrap (n1+z2)) (q6.wrap (i1+1)) H1 w4)
    (Br ((v7 == 0) && (decide (i1>0)))
     (∃a9:Addr,r1=some a9 ∧
     ∀(H2:NP) (w6:World),Hst w0 H1 w4 H2 w6 →
     ∃v9:Int,w6.cell? (a9.add 1)=some (vi v9) ∧
     Calls Tryz.prog 132 #[(vp r1),(vi 10),(vi v9)] w6 (fun e w7=>e=.returned (.tuple #[])∧
      Kept H2 w6 w7 ∧
      K 0 w7))
     (∃a10:Addr,r1=some a10 ∧
     ∀(H2:NP) (w6:World),Hst w0 H1 w4 H2 w6 →
     ∃v10:Int,w6.cell? (a10.add 1)=some (vi v10) ∧
     ∃a11:Addr,r1=some a11 ∧
     CanW w6 (a11.add 1)∧¬ H2 (a11.add 1).block∧∀w8:World,w8=w6.setCell (a11.add 1) (vi (q6.wrap ((q6.wrap (v10+i1))+1))) →
     K (IntKind.u64.wrap (n1+z2)) w8))))
def m_O1 (r1:Option Addr) (w0:World) (K:Int→WP):Prop :=
 ∃a1:Addr,r1=some a1 ∧
 ∃v1:Int,w0.cell? (a1.add 2)=some (vi v1) ∧
 Br (v1 != 0)
  (K 0 w0)
  (∃(I1:Int→Int→NP→WP) (mu1:Int→Int→World→Nat),I1 0 0 None w0 ∧
   ∀(n1 i1:Int) (Hl1:NP) (wl1:World),Hst w0 Hl1 wl1 Hl1 wl1→I1 n1 i1 Hl1 wl1→m_O1_l1 r1 n1 i1 w0 Hl1 wl1 (fun y'0 y'1 H' w'=>I1 y'0 y'1 H' w'∧mu1 y'0 y'1 w'<mu1 n1 i1 wl1) K)
theorem w_O1 (r1 : Option Addr) (w0 : World) (K : Int → WP) (h : m_O1 r1 w0 K) :
  Calls Tryz.prog 84 #[(vp r1)] w0 (fun e w'=>∃r2:Int,e=.returned (vu r2)∧K r2 w'):=by
 unfold m_O1 at h
 refine cw (args:=[(vp r1)]) Tryz.func84 Tryz.ntmps84 ?_
 have hs:=Hst.start w0
 have hb:=HB.nil None w0
 refine wpE_seq (rg (q0 (vu 0) (wpL_nil (th_n (wpE_seq (wpE_seq (rg (q0 (vp r1) ?_))))))))
 obtain ⟨a1,hp1,h⟩:=h
 refine q2 (vp (some a1)) (x_nilCheck (p:=r1) (by kernel_rfl) hp1) (q0 (vp (some (a1.add 2))) ?_)
 obtain ⟨v1,hv13,h⟩:=h
 refine q2 (vi v1) (xl (Tryz.isAgg3 _) hv13) (q0 (vb (v1 != 0)) (wpL_nil (th_n ?_)))
 refine wpE_cond (t:=(v1 != 0)) (by kernel_rfl) (fun hc1=>?_) (fun hc1=>?_)
 ·have h:=h.1 hc1
  refine wpE_seq (rg (q0 (vu 0) (wpL_nil (th_n (wpE_ret (th_r (rs1 Tryz.results84 (v:=(vu 0)) ?_)))))))
  exact ⟨0,rfl,h⟩
 ·have h:=h.2 hc1
  refine wpE_skip (th_n (wpE_seq (rg (q0 (vu 0) (wpL_nil (th_n (wpE_seq (rg (q0 (vi 0) (wpL_nil (th_n ?_)))))))))))
  refine wpE_block ?_
  obtain ⟨I1,mu1,h0,hr⟩:=h
  refine wpE_loop (σ:=Int×Int×NP×World) (fun s ρ w=>w=s.2.2.2∧Has ρ [(0,(vp r1)),(3,(vu s.1)),(4,(vi s.2.1))]∧Hst w0 s.2.2.1 w s.2.2.1 w∧HB s.2.2.1 w []∧I1 s.1 s.2.1 s.2.2.1 s.2.2.2) (fun s=>mu1 s.1 s.2.1 s.2.2.2) (0,0,None,w0) ⟨rfl,hm,hs,hb,h0⟩ ?_
  rintro ⟨n1,i1,Hl1,wl1⟩ ρ w ⟨hw,hH,hs,hb,hI⟩
  obtain rfl:wl1=w:=(show w=wl1 from hw).symm
  have hH:Has ρ [(0,(vp r1)),(3,(vu n1)),(4,(vi i1))]:=hH
  have hs:Hst w0 Hl1 wl1 Hl1 wl1:=hs
  have hb:HB Hl1 wl1 []:=hb
  have h:=hr n1 i1 Hl1 wl1 hs hI
  unfold m_O1_l1 at h
  refine wpE_has hH ?_
  refine wpE_seq (wpE_block (wpE_seq (wpE_seq (wpE_drawnQ (by kernel_rfl) (by kernel_rfl) (by kernel_rfl) (by kernel_rfl) ?_))))
  intro w1 hw1
  have hs:Hst w0 Hl1 wl1 Hl1 w1:=by rw [hw1];exact hs.drew
  have hb:HB Hl1 w1 []:=by rw [hw1];exact hb.drew
  refine qq 0 (vp r1) Kp0 (qg 1 ?_)
  obtain ⟨a2,hp2,h⟩:=h
  refine sxQ (v:=(vp (some a2))) Kp1 (want0 rfl) rfl (x_nilCheck (p:=r1) (by kernel_rfl) hp2) (qq 2 (vp (some (a2.add 1))) Kp2 (qg 3 ?_))
  have h:=h w1 hs
  have hs:=hs.here
  obtain ⟨v2,hv12,h⟩:=h
  refine sxQ (v:=(vi v2)) Kp3 (want0 rfl) rfl (xl (Tryz.isAgg3 _) hv12) (qq 4 (vi i1) Kp4 (qq 5 (vi (q6.wrap (v2+i1))) Kp5 (qq 6 (vp r1) Kp6 (qg 7 ?_))))
  obtain ⟨a3,hp3,h⟩:=h
  refine sxQ (v:=(vp (some a3))) Kp7 (want0 rfl) rfl (x_nilCheck (p:=r1) (by kernel_rfl) hp3) (qq 8 (vp (some a3)) Kp8 (qg 9 ?_))
  obtain ⟨v3,hv11,h⟩:=h
  refine sxQ (v:=v3.v) Kp9 (want0 rfl) rfl (xl (Tryz.isAgg23 _) hv11) (qq 10 (vi (v3.len:Int)) (pickA (S8 (pickS (pickS pickZ)))) (qq 11 (vb (decide ((q6.wrap (v2+i1))≥(v3.len:Int)))) (pickA (S8 (pickS (pickS (pickS pickZ))))) (wn (th_n ?_))))
  refine wpE_cond (t:=(decide ((q6.wrap (v2+i1))≥(v3.len:Int)))) (by kernel_rfl) (fun hc2=>?_) (fun hc2=>?_)
  ·have h:=h.1 hc2
   refine wpE_seq (rg (q0 (vp r1) (q0 (vp r1) ?_)))
   obtain ⟨a4,hp4,h⟩:=h
   refine q2 (vp (some a4)) (x_nilCheck (p:=r1) (by kernel_rfl) hp4) (q0 (vp (some (a4.add 1))) ?_)
   obtain ⟨v4,hv1,h⟩:=h
   refine q2 (vi v4) (xl (Tryz.isAgg3 _) hv1) ?_
   refine sc Tryz.call132 (h.mono ?_)
   rintro e w2 ⟨rfl,hk,h⟩
   refine ⟨_,rfl,?_⟩
   obtain ⟨hs,hb⟩:=hk.hh hs hb
   refine wpL_nil (th_n (wpE_seq (rg (q0 (vu 0) (wpL_nil (th_n (wpE_ret (th_r (bl_r (th_r (th_r ?_)))))))))))
   refine bl_r (rs1 Tryz.results84 (v:=(vu 0)) ?_)
   exact ⟨0,rfl,h⟩
  ·have h:=h.2 hc2
   refine wpE_skip (th_n (wpE_seq (wpE_drawnQ (by kernel_rfl) (by kernel_rfl) (by kernel_rfl) (by kernel_rfl) ?_)))
   intro w3 hw3
   have hs:Hst w0 Hl1 w1 Hl1 w3:=by rw [hw3];exact hs.drew
   have hb:HB Hl1 w3 []:=by rw [hw3];exact hb.drew
   refine qq 0 (vp r1) Kp0 (qg 1 ?_)
   obtain ⟨a5,hp5,h⟩:=h
   refine sxQ (v:=(vp (some a5))) Kp1 (want0 rfl) rfl (x_nilCheck (p:=r1) (by kernel_rfl) hp5) (qq 2 (vp (some a5)) Kp2 (qg 3 ?_))
   have h:=h w3 hs
   have hs:=hs.here
   obtain ⟨v5,hv10,h⟩:=h
   refine sxQ (v:=v5.v) Kp3 (want0 rfl) rfl (xl (Tryz.isAgg23 _) hv10) (qq 4 (vp r1) Kp4 (qg 5 ?_))
   obtain ⟨a6,hp6,h⟩:=h
   refine sxQ (v:=(vp (some a6))) Kp5 (want0 rfl) rfl (x_nilCheck (p:=r1) (by kernel_rfl) hp6) (qq 6 (vp (some (a6.add 1))) Kp6 (qg 7 ?_))
   obtain ⟨v6,hv9,h⟩:=h
   refine sxQ (v:=(vi v6)) Kp7 (want0 rfl) rfl (xl (Tryz.isAgg3 _) hv9) (qq 8 (vi i1) Kp8 (qq 9 (vi (q6.wrap (v6+i1))) Kp9 (qg 10 ?_)))
   obtain ⟨a7,hv8,h⟩:=h
   refine sxQ (v:=(vp (some a7))) (pickA (S8 (pickS (pickS pickZ)))) (want0 rfl) rfl (xi (Tryz.runUnderlying23 _) (Tryz.sizeOf5 _) hv8) (qg 11 ?_)
   obtain ⟨v7,hv7,h⟩:=h
   refine sxQ (v:=(.int .u8 v7)) (pickA (S8 (pickS (pickS (pickS pickZ))))) (want0 rfl) rfl (xl (Tryz.isAgg5 _) hv7) (qq 12 (.int .u8 v7) (pickA (S8 (S4 pickZ))) (wn (th_n (wpE_seq (wpE_seq ?_)))))
   refine wpE_via (fun ρ wJ=>∃b1'0:Bool,∃HJ:NP,((i1 == 9)=b1'0)∧Hst w0 Hl1 w3 HJ wJ∧HB HJ wJ []∧Has ρ [(0,(vp r1)),(3,(vu n1)),(4,(vi i1)),(5,(.int .u8 v7)),(48,(vb (b1'0 && (decide (v7>1)))))]) ?_ ?_
   ·refine rg (q0 (vi i1) (q0 (vb (i1 == 9)) (q0 (vb (i1 == 9)) ?_)))
    rcases Bool.eq_false_or_eq_true (i1 == 9) with hg2 | hg2
    ·refine q1 (.int .u8 v7) (want1 rfl (yD 45 hg2)) (q1 (vb (decide (v7>1))) (want1 rfl (yD 45 hg2)) (q2 (vb (decide (v7>1))) (xT hg2) (wpL_nil (th_n ?_))))
     exact ⟨true,_,hg2,hs,hb,hm⟩
    ·refine sk (yD 45 hg2) (sk (yD 45 hg2) (q2 (vb false) (xF hg2) (wpL_nil (th_n ?_))))
     exact ⟨false,_,hg2,hs,hb,hm⟩
   ·rintro ρ w4 ⟨b1'0,H1,he0,hs,hb,hH⟩
    subst he0
    refine norm_has hH ?_
    refine th_n ?_
    refine wpE_cond (t:=((i1 == 9) && (decide (v7>1)))) (by kernel_rfl) (fun hc3=>?_) (fun hc3=>?_)
    ·have h:=h.1 hc3
     refine wpE_seq (rg (q0 (vp r1) (q0 (vp r1) ?_)))
     obtain ⟨a8,hp7,h⟩:=h
     refine q2 (vp (some a8)) (x_nilCheck (p:=r1) (by kernel_rfl) hp7) (q0 (vp (some (a8.add 1))) ?_)
     have h:=h H1 w4 hs
     have hs:=hs.here
     obtain ⟨v8,hv2,h⟩:=h
     refine q2 (vi v8) (xl (Tryz.isAgg3 _) hv2) ?_
     refine sc Tryz.call132 (h.mono ?_)
     rintro e w5 ⟨rfl,hk,h⟩
     refine ⟨_,rfl,?_⟩
     obtain ⟨hs,hb⟩:=hk.hh hs hb
     refine wpL_nil (th_n (wpE_seq (rg (q0 (vu 0) (wpL_nil (th_n (wpE_ret (th_r (bl_r (th_r (th_r ?_)))))))))))
     refine bl_r (rs1 Tryz.results84 (v:=(vu 0)) ?_)
     exact ⟨0,rfl,h⟩
    ·have h:=h.2 hc3
     refine wpE_skip (th_n (wpE_seq (rg (q0 (vu n1) (q0 (.int .u8 v7) ?_)))))
     have h:=h H1 w4 hs
     have hs:=hs.here
     obtain ⟨z1,hv6,h⟩:=h
     refine q2 (.int .u8 z1) (x_bin (by kernel_rfl) (by kernel_rfl) (by kernel_rfl) hv6) (q0 (vu (IntKind.u64.wrap z1)) (q0 (vi i1) (q0 (vi (q6.wrap (7*i1))) (q0 (vu (IntKind.u64.wrap (q6.wrap (7*i1)))) ?_))))
     obtain ⟨z2,hv5,h⟩:=h
     refine q2 (vu z2) (x_bin (by kernel_rfl) (by kernel_rfl) (by kernel_rfl) hv5) (q0 (vu (IntKind.u64.wrap (n1+z2))) (q0 (vu (IntKind.u64.wrap (n1+z2))) (wpL_nil (th_n (wpE_seq (wpE_seq (rg (q0 (.int .u8 v7) (q0 (vb (decide (v7≥128))) (wpL_nil (th_n ?_)))))))))))
     refine wpE_cond (t:=(decide (v7≥128))) (by kernel_rfl) (fun hc4=>?_) (fun hc4=>?_)
     ·have h:=h.1 hc4
      refine wpE_exit (th_x (bl_eq (th_n (rg (q0 (vi i1) (q0 (vi (q6.wrap (i1+1))) (q0 (vi (q6.wrap (i1+1))) (wpL_nil (th_n ?_)))))))))
      exact ⟨((IntKind.u64.wrap (n1+z2)),(q6.wrap (i1+1)),H1,w4),⟨rfl,hm,hs,hb,h.1⟩,h.2⟩
     ·have h:=h.2 hc4
      refine wpE_skip (th_n (wpE_seq (wpE_seq ?_)))
      refine wpE_via (fun ρ wJ=>∃b2'0:Bool,∃HJ:NP,((v7 == 0)=b2'0)∧Hst w0 H1 w4 HJ wJ∧HB HJ wJ []∧Has ρ [(0,(vp r1)),(3,(vu (IntKind.u64.wrap (n1+z2)))),(4,(vi i1)),(71,(vb (b2'0 && (decide (i1>0)))))]) ?_ ?_
      ·refine rg (q0 (.int .u8 v7) (q0 (vb (v7 == 0)) (q0 (vb (v7 == 0)) ?_)))
       rcases Bool.eq_false_or_eq_true (v7 == 0) with hg4 | hg4
       ·refine q1 (vi i1) (want1 rfl (yD 68 hg4)) (q1 (vb (decide (i1>0))) (want1 rfl (yD 68 hg4)) (q2 (vb (decide (i1>0))) (xT hg4) (wpL_nil (th_n ?_))))
        exact ⟨true,_,hg4,hs,hb,hm⟩
       ·refine sk (yD 68 hg4) (sk (yD 68 hg4) (q2 (vb false) (xF hg4) (wpL_nil (th_n ?_))))
        exact ⟨false,_,hg4,hs,hb,hm⟩
      ·rintro ρ w6 ⟨b2'0,H2,he0,hs,hb,hH⟩
       subst he0
       refine norm_has hH ?_
       refine th_n ?_
       refine wpE_cond (t:=((v7 == 0) && (decide (i1>0)))) (by kernel_rfl) (fun hc5=>?_) (fun hc5=>?_)
       ·have h:=h.1 hc5
        refine wpE_seq (rg (q0 (vp r1) (q0 (vp r1) ?_)))
        obtain ⟨a9,hp8,h⟩:=h
        refine q2 (vp (some a9)) (x_nilCheck (p:=r1) (by kernel_rfl) hp8) (q0 (vp (some (a9.add 1))) ?_)
        have h:=h H2 w6 hs
        have hs:=hs.here
        obtain ⟨v9,hv3,h⟩:=h
        refine q2 (vi v9) (xl (Tryz.isAgg3 _) hv3) ?_
        refine sc Tryz.call132 (h.mono ?_)
        rintro e w7 ⟨rfl,hk,h⟩
        refine ⟨_,rfl,?_⟩
        obtain ⟨hs,hb⟩:=hk.hh hs hb
        refine wpL_nil (th_n (wpE_seq (rg (q0 (vu 0) (wpL_nil (th_n (wpE_ret (th_r (bl_r (th_r (th_r ?_)))))))))))
        refine bl_r (rs1 Tryz.results84 (v:=(vu 0)) ?_)
        exact ⟨0,rfl,h⟩
       ·have h:=h.2 hc5
        refine wpE_skip (th_n (wpE_seq (rg (q0 (vp r1) (q0 (vp r1) ?_)))))
        obtain ⟨a10,hp9,h⟩:=h
        refine q2 (vp (some a10)) (x_nilCheck (p:=r1) (by kernel_rfl) hp9) (q0 (vp (some (a10.add 1))) ?_)
        have h:=h H2 w6 hs
        have hs:=hs.here
        obtain ⟨v10,hv4,h⟩:=h
        refine q2 (vi v10) (xl (Tryz.isAgg3 _) hv4) (q0 (vi i1) (q0 (vi (q6.wrap (v10+i1))) (q0 (vi (q6.wrap ((q6.wrap (v10+i1))+1))) ?_)))
        obtain ⟨a11,hp10,h⟩:=h
        refine q2 (vp (some a11)) (x_nilCheck (p:=r1) (by kernel_rfl) hp10) (q0 (vp (some (a11.add 1))) ?_)
        obtain ⟨hp11,hnh,h⟩:=h
        refine st_set (want0 rfl) (x_store (a:=(a11.add 1)) (v:=(vi (q6.wrap ((q6.wrap (v10+i1))+1)))) (by kernel_rfl) (by kernel_rfl) rfl (Tryz.sizeOf3 _) hp11) ?_
        intro w8 hn1
        have h:=h w8 hn1
        have hk:=Kept.sc hnh hn1
        obtain ⟨hs,hb⟩:=hk.hh hs hb
        refine wpL_nil (th_n (wpE_seq (rg (q0 (vu (IntKind.u64.wrap (n1+z2))) (q0 (vu (IntKind.u64.wrap (n1+z2))) (wpL_nil (th_n (wpE_ret (bl_r (th_r (th_r ?_)))))))))))
        refine bl_r (rs1 Tryz.results84 (v:=(vu (IntKind.u64.wrap (n1+z2)))) ?_)
        exact ⟨(IntKind.u64.wrap (n1+z2)),rfl,h⟩
def s_B (n1:Int):Int :=
 (cond (decide (n1>1073741824)) 1073741824 (q6.wrap n1))
theorem pw_B (n1 : Int) (w0 : World) :
  Calls Tryz.prog 83 #[(vu n1)] w0 (fun e w'=>∃b'0:Bool,((decide (n1>1073741824))=b'0)∧(e=.returned (vi (cond b'0 1073741824 (q6.wrap n1))))∧Pure w0 w'):=by
 refine cw (args:=[(vu n1)]) Tryz.func83 Tryz.ntmps83 (wpE_seq (rg (q0 (vi 0) (wpL_nil (th_n (wpE_seq (wpE_seq (rg (q0 (vu n1) (q0 (vb (decide (n1>1073741824))) (wpL_nil ?_)))))))))))
 refine th_n ?_
 refine wpE_cond (t:=(decide (n1>1073741824))) (by kernel_rfl) (fun hc1=>?_) (fun hc1=>?_)
 ·refine wpE_seq (rg (q0 (vi 1073741824) (wpL_nil (th_n (wpE_ret (th_r (rs1 Tryz.results83 (v:=(vi 1073741824)) ?_)))))))
  exact ⟨true,hc1,by kernel_rfl,Ext.refl _⟩
 ·refine wpE_skip (th_n (wpE_seq (rg (q0 (vu n1) (q0 (vi (q6.wrap n1)) (q0 (vi (q6.wrap n1)) (wpL_nil (th_n (wpE_ret (rs1 Tryz.results83 (v:=(vi (q6.wrap n1))) ?_))))))))))
  exact ⟨false,hc1,by kernel_rfl,Ext.refl _⟩
theorem p_B (n1:Int) (w0:World):Calls Tryz.prog 83 #[(.int .u64 n1)] w0 (fun e w'=>e=.returned (.int .i64 (s_B n1))∧Pure w0 w'):=by
 refine (pw_B n1 w0).mono ?_
 rintro e w' ⟨b'0,e0,h,E⟩
 subst e0
 exact ⟨h,E⟩
def m_T2 (r1:Option Addr) (most1:Int) (w0:World) (K:ByteArray→WP):Prop :=
 ∃a1:Addr,r1=some a1 ∧
 ∃v1:Int,w0.cell? (a1.add 1)=some (vi v1) ∧
 Calls Tryz.prog 84 #[(vp r1)] w0 (fun e w1=>∃r2:Int,e=.returned (vu r2)∧
  Kept None w0 w1 ∧
  ∃a2:Addr,r1=some a2 ∧
  ∃v2:Int,w1.cell? (a2.add 2)=some (vi v2) ∧
  Br (v2 != 0)
   (K ⟨#[]⟩ w1)
   (Br ((decide (most1<0)) || (decide (r2>(IntKind.u64.wrap most1))))
    (∃a3:Addr,r1=some a3 ∧
    ∀(H1:NP) (w2:World),Hst w0 None w1 H1 w2 →
    CanW w2 (a3.add 1)∧¬ H1 (a3.add 1).block∧∀w3:World,w3=w2.setCell (a3.add 1) (vi v1) →
    Calls Tryz.prog 132 #[(vp r1),(vi 1),(vi v1)] w3 (fun e w4=>e=.returned (.tuple #[])∧
     Kept H1 w3 w4 ∧
     K ⟨#[]⟩ w4))
    (∃a4:Addr,r1=some a4 ∧
    ∀(H1:NP) (w5:World),Hst w0 None w1 H1 w5 →
    ∃v3:Sl,w5.cell? a4=some v3.v ∧
    ∃a5:Addr,r1=some a5 ∧
    ∃v4:Int,w5.cell? (a5.add 1)=some (vi v4) ∧
    Br (decide (r2>(IntKind.u64.wrap (q6.wrap ((v3.len:Int) - v4)))))
     (∃a6:Addr,r1=some a6 ∧
     CanW w5 (a6.add 1)∧¬ H1 (a6.add 1).block∧∀w6:World,w6=w5.setCell (a6.add 1) (vi v1) →
     Calls Tryz.prog 132 #[(vp r1),(vi 3),(vi v1)] w6 (fun e w7=>e=.returned (.tuple #[])∧
      Kept H1 w6 w7 ∧
      K ⟨#[]⟩ w7))
     (∃a7:Addr,r1=some a7 ∧
     ∀(w8:World),Hst w0 H1 w5 H1 w8 →
     ∃v5:Sl,w8.cell? a7=some v5.v ∧
     ∃a8:Addr,r1=some a8 ∧
     ∃v6:Int,w8.cell? (a8.add 1)=some (vi v6) ∧
     ∃a9:Addr,r1=some a9 ∧
     ∃v7:Int,w8.cell? (a9.add 1)=some (vi v7) ∧
     ∃s1:Sl,(Instr.sliceAt 23 v5.v (some (vi v6)) (some (vi (q6.wrap (v7+(q6.wrap r2))))) none).run Tryz.prog w8=.ok s1.v w8 ∧
     ∃c1:ByteArray,(convert 23 9 s1.v).run Tryz.prog w8=.ok (vs c1) w8 ∧
     ∃a10:Addr,r1=some a10 ∧
     ∃v8:Int,w8.cell? (a10.add 1)=some (vi v8) ∧
     ∃a11:Addr,r1=some a11 ∧
     CanW w8 (a11.add 1)∧¬ H1 (a11.add 1).block∧∀w9:World,w9=w8.setCell (a11.add 1) (vi (q6.wrap (v8+(q6.wrap r2)))) →
     K c1 w9))))
theorem w_T2 (r1 : Option Addr) (most1 : Int) (w0 : World) (K : ByteArray → WP) (h : m_T2 r1 most1 w0 K) :
  Calls Tryz.prog 85 #[(vp r1),(vi most1)] w0 (fun e w'=>∃r3:ByteArray,e=.returned (vs r3)∧K r3 w'):=by
 unfold m_T2 at h
 refine cw (args:=[(vp r1),(vi most1)]) Tryz.func85 Tryz.ntmps85 ?_
 have hs:=Hst.start w0
 have hb:=HB.nil None w0
 refine wpE_seq (rg (q0 (vs ⟨#[]⟩) (wpL_nil (th_n (wpE_seq (rg (q0 (vp r1) ?_)))))))
 obtain ⟨a1,hp1,h⟩:=h
 refine q2 (vp (some a1)) (x_nilCheck (p:=r1) (by kernel_rfl) hp1) (q0 (vp (some (a1.add 1))) ?_)
 obtain ⟨v1,hv10,h⟩:=h
 refine q2 (vi v1) (xl (Tryz.isAgg3 _) hv10) (q0 (vi v1) (wpL_nil (th_n (wpE_seq (rg (q0 (vp r1) ?_))))))
 refine sc Tryz.call84 (h.mono ?_)
 rintro e w1 ⟨r2,rfl,hk,h⟩
 refine ⟨_,rfl,?_⟩
 obtain ⟨hs,hb⟩:=hk.hh hs hb
 refine q0 (vu r2) (wpL_nil (th_n (wpE_seq (wpE_seq (rg (q0 (vp r1) ?_))))))
 obtain ⟨a2,hp2,h⟩:=h
 refine q2 (vp (some a2)) (x_nilCheck (p:=r1) (by kernel_rfl) hp2) (q0 (vp (some (a2.add 2))) ?_)
 obtain ⟨v2,hv9,h⟩:=h
 refine q2 (vi v2) (xl (Tryz.isAgg3 _) hv9) (q0 (vb (v2 != 0)) (wpL_nil (th_n ?_)))
 refine wpE_cond (t:=(v2 != 0)) (by kernel_rfl) (fun hc1=>?_) (fun hc1=>?_)
 ·have h:=h.1 hc1
  refine wpE_seq (rg (q0 (vs ⟨#[]⟩) (wpL_nil (th_n (wpE_ret (th_r (rs1 Tryz.results85 (v:=(vs ⟨#[]⟩)) ?_)))))))
  exact ⟨⟨#[]⟩,rfl,h⟩
 ·have h:=h.2 hc1
  refine wpE_skip (th_n (wpE_seq (wpE_seq ?_)))
  refine wpE_via (fun ρ wJ=>∃b1'0:Bool,∃HJ:NP,((decide (most1<0))=b1'0)∧Hst w0 None w1 HJ wJ∧HB HJ wJ []∧Has ρ [(0,(vp r1)),(5,(vi v1)),(6,(vu r2)),(26,(vb (b1'0 || (decide (r2>(IntKind.u64.wrap most1))))))]) ?_ ?_
  ·refine rg (q0 (vi most1) (q0 (vb (decide (most1<0))) (q0 (vb (decide (most1<0))) ?_)))
   rcases Bool.eq_false_or_eq_true (decide (most1<0)) with hg2 | hg2
   ·refine sk (yD 21 hg2) (sk (yD 21 hg2) (sk (yD 21 hg2) (sk (yD 21 hg2) (q2 (vb true) (xT hg2) (wpL_nil (th_n ?_))))))
    exact ⟨true,_,hg2,hs,hb,hm⟩
   ·refine q1 (vu r2) (want1 rfl (yD 21 hg2)) (q1 (vi most1) (want1 rfl (yD 21 hg2)) (q1 (vu (IntKind.u64.wrap most1)) (want1 rfl (yD 21 hg2)) (q1 (vb (decide (r2>(IntKind.u64.wrap most1)))) (want1 rfl (yD 21 hg2)) (q2 (vb (decide (r2>(IntKind.u64.wrap most1)))) (xF hg2) (wpL_nil (th_n ?_))))))
    exact ⟨false,_,hg2,hs,hb,hm⟩
  ·rintro ρ w2 ⟨b1'0,H1,he0,hs,hb,hH⟩
   subst he0
   refine norm_has hH ?_
   refine th_n ?_
   refine wpE_cond (t:=((decide (most1<0)) || (decide (r2>(IntKind.u64.wrap most1))))) (by kernel_rfl) (fun hc2=>?_) (fun hc2=>?_)
   ·have h:=h.1 hc2
    refine wpE_seq (rg (q0 (vp r1) (q0 (vi v1) ?_)))
    obtain ⟨a3,hp3,h⟩:=h
    refine q2 (vp (some a3)) (x_nilCheck (p:=r1) (by kernel_rfl) hp3) (q0 (vp (some (a3.add 1))) ?_)
    have h:=h H1 w2 hs
    have hs:=hs.here
    obtain ⟨hp4,hnh,h⟩:=h
    refine st_set (want0 rfl) (x_store (a:=(a3.add 1)) (v:=(vi v1)) (by kernel_rfl) (by kernel_rfl) rfl (Tryz.sizeOf3 _) hp4) ?_
    intro w3 hn1
    have h:=h w3 hn1
    have hk:=Kept.sc hnh hn1
    obtain ⟨hs,hb⟩:=hk.hh hs hb
    refine wpL_nil (th_n (wpE_seq (rg (q0 (vp r1) (q0 (vi v1) ?_)))))
    refine sc Tryz.call132 (h.mono ?_)
    rintro e w4 ⟨rfl,hk,h⟩
    refine ⟨_,rfl,?_⟩
    obtain ⟨hs,hb⟩:=hk.hh hs hb
    refine wpL_nil (th_n (wpE_seq (rg (q0 (vs ⟨#[]⟩) (wpL_nil (th_n (wpE_ret (th_r (rs1 Tryz.results85 (v:=(vs ⟨#[]⟩)) ?_)))))))))
    exact ⟨⟨#[]⟩,rfl,h⟩
   ·have h:=h.2 hc2
    refine wpE_skip (th_n (wpE_seq (wpE_seq (wpE_drawnQ (by kernel_rfl) (by kernel_rfl) (by kernel_rfl) (by kernel_rfl) ?_))))
    intro w5 hw5
    have hs:Hst w0 None w1 H1 w5:=by rw [hw5];exact hs.drew
    have hb:HB H1 w5 []:=by rw [hw5];exact hb.drew
    refine qq 0 (vu r2) Kp0 (qq 1 (vp r1) Kp1 (qg 2 ?_))
    obtain ⟨a4,hp5,h⟩:=h
    refine sxQ (v:=(vp (some a4))) Kp2 (want0 rfl) rfl (x_nilCheck (p:=r1) (by kernel_rfl) hp5) (qq 3 (vp (some a4)) Kp3 (qg 4 ?_))
    have h:=h H1 w5 hs
    have hs:=hs.here
    obtain ⟨v3,hv8,h⟩:=h
    refine sxQ (v:=v3.v) Kp4 (want0 rfl) rfl (xl (Tryz.isAgg23 _) hv8) (qq 5 (vi (v3.len:Int)) Kp5 (qq 6 (vp r1) Kp6 (qg 7 ?_)))
    obtain ⟨a5,hp6,h⟩:=h
    refine sxQ (v:=(vp (some a5))) Kp7 (want0 rfl) rfl (x_nilCheck (p:=r1) (by kernel_rfl) hp6) (qq 8 (vp (some (a5.add 1))) Kp8 (qg 9 ?_))
    obtain ⟨v4,hv7,h⟩:=h
    refine sxQ (v:=(vi v4)) Kp9 (want0 rfl) rfl (xl (Tryz.isAgg3 _) hv7) (qq 10 (vi (q6.wrap ((v3.len:Int) - v4))) (pickA (S8 (pickS (pickS pickZ)))) (qq 11 (vu (IntKind.u64.wrap (q6.wrap ((v3.len:Int) - v4)))) (pickA (S8 (pickS (pickS (pickS pickZ))))) (qq 12 (vb (decide (r2>(IntKind.u64.wrap (q6.wrap ((v3.len:Int) - v4)))))) (pickA (S8 (S4 pickZ))) (wn (th_n ?_)))))
    refine wpE_cond (t:=(decide (r2>(IntKind.u64.wrap (q6.wrap ((v3.len:Int) - v4)))))) (by kernel_rfl) (fun hc3=>?_) (fun hc3=>?_)
    ·have h:=h.1 hc3
     refine wpE_seq (rg (q0 (vp r1) (q0 (vi v1) ?_)))
     obtain ⟨a6,hp7,h⟩:=h
     refine q2 (vp (some a6)) (x_nilCheck (p:=r1) (by kernel_rfl) hp7) (q0 (vp (some (a6.add 1))) ?_)
     obtain ⟨hp8,hnh,h⟩:=h
     refine st_set (want0 rfl) (x_store (a:=(a6.add 1)) (v:=(vi v1)) (by kernel_rfl) (by kernel_rfl) rfl (Tryz.sizeOf3 _) hp8) ?_
     intro w6 hn2
     have h:=h w6 hn2
     have hk:=Kept.sc hnh hn2
     obtain ⟨hs,hb⟩:=hk.hh hs hb
     refine wpL_nil (th_n (wpE_seq (rg (q0 (vp r1) (q0 (vi v1) ?_)))))
     refine sc Tryz.call132 (h.mono ?_)
     rintro e w7 ⟨rfl,hk,h⟩
     refine ⟨_,rfl,?_⟩
     obtain ⟨hs,hb⟩:=hk.hh hs hb
     refine wpL_nil (th_n (wpE_seq (rg (q0 (vs ⟨#[]⟩) (wpL_nil (th_n (wpE_ret (th_r (rs1 Tryz.results85 (v:=(vs ⟨#[]⟩)) ?_)))))))))
     exact ⟨⟨#[]⟩,rfl,h⟩
    ·have h:=h.2 hc3
     refine wpE_skip (th_n (wpE_seq (wpE_drawnQ (by kernel_rfl) (by kernel_rfl) (by kernel_rfl) (by kernel_rfl) ?_)))
     intro w8 hw8
     have hs:Hst w0 H1 w5 H1 w8:=by rw [hw8];exact hs.drew
     have hb:HB H1 w8 []:=by rw [hw8];exact hb.drew
     refine qq 0 (vp r1) Kp0 (qg 1 ?_)
     obtain ⟨a7,hp9,h⟩:=h
     refine sxQ (v:=(vp (some a7))) Kp1 (want0 rfl) rfl (x_nilCheck (p:=r1) (by kernel_rfl) hp9) (qq 2 (vp (some a7)) Kp2 (qg 3 ?_))
     have h:=h w8 hs
     have hs:=hs.here
     obtain ⟨v5,hv6,h⟩:=h
     refine sxQ (v:=v5.v) Kp3 (want0 rfl) rfl (xl (Tryz.isAgg23 _) hv6) (qq 4 (vp r1) Kp4 (qg 5 ?_))
     obtain ⟨a8,hp10,h⟩:=h
     refine sxQ (v:=(vp (some a8))) Kp5 (want0 rfl) rfl (x_nilCheck (p:=r1) (by kernel_rfl) hp10) (qq 6 (vp (some (a8.add 1))) Kp6 (qg 7 ?_))
     obtain ⟨v6,hv5,h⟩:=h
     refine sxQ (v:=(vi v6)) Kp7 (want0 rfl) rfl (xl (Tryz.isAgg3 _) hv5) (qq 8 (vp r1) Kp8 (qg 9 ?_))
     obtain ⟨a9,hp11,h⟩:=h
     refine sxQ (v:=(vp (some a9))) Kp9 (want0 rfl) rfl (x_nilCheck (p:=r1) (by kernel_rfl) hp11) (qq 10 (vp (some (a9.add 1))) (pickA (S8 (pickS (pickS pickZ)))) (qg 11 ?_))
     obtain ⟨v7,hv4,h⟩:=h
     refine sxQ (v:=(vi v7)) (pickA (S8 (pickS (pickS (pickS pickZ))))) (want0 rfl) rfl (xl (Tryz.isAgg3 _) hv4) (qq 12 (vu r2) (pickA (S8 (S4 pickZ))) (qq 13 (vi (q6.wrap r2)) (pickA (S8 (S4 (pickS pickZ)))) (qq 14 (vi (q6.wrap (v7+(q6.wrap r2)))) (pickA (S8 (S4 (pickS (pickS pickZ))))) (qg 15 ?_))))
     obtain ⟨s1,hv3,h⟩:=h
     refine sxQ (v:=s1.v) (pickA (S8 (S4 (pickS (pickS (pickS pickZ)))))) (want0 rfl) rfl (x_slice (by kernel_rfl) (by kernel_rfl) (by kernel_rfl) (by kernel_rfl) hv3) (qg 16 ?_)
     obtain ⟨c1,hv2,h⟩:=h
     refine sxQ (v:=(vs c1)) (pickA (S8 (S8 pickZ))) (want0 rfl) rfl (x_convert (by kernel_rfl) hv2) (qq 17 (vs c1) (pickA (S8 (S8 (pickS pickZ)))) (wn (th_n (wpE_seq (rg (q0 (vp r1) (q0 (vp r1) ?_)))))))
     obtain ⟨a10,hp12,h⟩:=h
     refine q2 (vp (some a10)) (x_nilCheck (p:=r1) (by kernel_rfl) hp12) (q0 (vp (some (a10.add 1))) ?_)
     obtain ⟨v8,hv1,h⟩:=h
     refine q2 (vi v8) (xl (Tryz.isAgg3 _) hv1) (q0 (vu r2) (q0 (vi (q6.wrap r2)) (q0 (vi (q6.wrap (v8+(q6.wrap r2)))) ?_)))
     obtain ⟨a11,hp13,h⟩:=h
     refine q2 (vp (some a11)) (x_nilCheck (p:=r1) (by kernel_rfl) hp13) (q0 (vp (some (a11.add 1))) ?_)
     obtain ⟨hp14,hnh,h⟩:=h
     refine st_set (want0 rfl) (x_store (a:=(a11.add 1)) (v:=(vi (q6.wrap (v8+(q6.wrap r2))))) (by kernel_rfl) (by kernel_rfl) rfl (Tryz.sizeOf3 _) hp14) ?_
     intro w9 hn3
     have h:=h w9 hn3
     have hk:=Kept.sc hnh hn3
     obtain ⟨hs,hb⟩:=hk.hh hs hb
     refine wpL_nil (th_n (wpE_seq (rg (q0 (vs c1) (q0 (vs c1) (wpL_nil (th_n (wpE_ret (rs1 Tryz.results85 (v:=(vs c1)) ?_)))))))))
     exact ⟨c1,rfl,h⟩
def m_D_j6 (r1:Option Addr) (i1:Int) (p1:Addr) (r2 aP:Int) (aH aI aQ:Int) (aR:ByteArray) (aS aT:Int) (a1 b3:Int) (w0:World) (H:NP) (w:World) (K:Int→Int→Int→Int→ByteArray→Int→Int→Int→WP):Prop :=
 ∃a2:Addr,r1=some a2 ∧
 ∃v1:Int,w.cell? (a2.add 2)=some (vi v1) ∧
 Br (v1 != 0)
  (∃C1:WP,C1 w.drew∧∀w11,w11=w.drew →
  ∃a3:Addr,r1=some a3 ∧
  ∃v2:Int,(∀w',C1 w'→w'.cell? (a3.add 2)=some (vi v2)) ∧
  (∀j,j<7→CanW w11 (p1.add j))∧¬ H p1.block∧∀w12:World,w12=storeRow w11 p1 [(vi aP),(vi aH),(vi aI),(vu aQ),(vs aR),(vi aS),(vi aT)]→C1 w12 ∧
  ∃bV bW:Int,∃bX bY:Int,∃bZ:ByteArray,∃cA cB:Int,Row w12 p1 [(vi bV),(vi bW),(vi bX),(vu bY),(vs bZ),(vi cA),(vi cB)] ∧
  K bV bW bX bY bZ cA cB v2 w12)
  (∀y1:Bool,y1=(((s_J (q6.wrap r2)) && (decide (aH≥16))) || (((((q6.wrap r2):Int) == 8) || (((q6.wrap r2):Int) == 9)) && ((decide (aI≥16)) || (aI == aH)))) →
  Br y1
   (∀(H9:NP) (w19:World),Hst w0 H w H9 w19 →
   (∀j,j<7→CanW w19 (p1.add j))∧¬ H9 p1.block∧∀w26:World,w26=storeRow w19 p1 [(vi aP),(vi aH),(vi aI),(vu aQ),(vs aR),(vi aS),(vi aT)] →
   ∃cC cD:Int,∃cE cF:Int,∃cG:ByteArray,∃cH cI:Int,Row w26 p1 [(vi cC),(vi cD),(vi cE),(vu cF),(vs cG),(vi cH),(vi cI)] ∧
   K cC cD cE cF cG cH cI 50 w26)
   (∀y2:Bool,y2=(((decide ((s_A (q6.wrap r2))≥1)) && (decide (a1≥i1))) || ((((s_A (q6.wrap r2)):Int) == 2) && (decide (b3≥i1)))) →
   Br y2
    (∀(H17:NP) (w31:World),Hst w0 H w H17 w31 →
    (∀j,j<7→CanW w31 (p1.add j))∧¬ H17 p1.block∧∀w36:World,w36=storeRow w31 p1 [(vi aP),(vi aH),(vi aI),(vu aQ),(vs aR),(vi aS),(vi aT)] →
    ∃cJ cK:Int,∃cL cM:Int,∃cN:ByteArray,∃cO cP:Int,Row w36 p1 [(vi cJ),(vi cK),(vi cL),(vu cM),(vs cN),(vi cO),(vi cP)] ∧
    K cJ cK cL cM cN cO cP 71 w36)
    (∀(H21:NP) (w43:World),Hst w0 H w H21 w43 →
    (∀j,j<7→CanW w43 (p1.add j))∧¬ H21 p1.block∧∀w45:World,w45=storeRow w43 p1 [(vi aP),(vi aH),(vi aI),(vu aQ),(vs aR),(vi (cond (decide ((s_A (q6.wrap r2))≥1)) (q6.wrap (a1+1)) aS)),(vi (cond (((s_A (q6.wrap r2)):Int) == 2) (q6.wrap (b3+1)) aT))] →
    ∃cQ cR:Int,∃cS cT:Int,∃cU:ByteArray,∃cV cW:Int,Row w45 p1 [(vi cQ),(vi cR),(vi cS),(vu cT),(vs cU),(vi cV),(vi cW)] ∧
    K cQ cR cS cT cU cV cW 0 w45)))
def m_D_j5 (r1:Option Addr) (i1:Int) (p1:Addr) (r2 aP:Int) (aH aI aQ:Int) (aR:ByteArray) (aS aT a1:Int) (w0:World) (H:NP) (w:World) (K:Int→Int→Int→Int→ByteArray→Int→Int→Int→WP):Prop :=
 Br (((s_A (q6.wrap r2)):Int) == 2)
  (∀(w10:World),Hst w0 H w H w10 →
  Calls Tryz.prog 84 #[(vp r1)] w10 (fun e w46=>∃r3:Int,e=.returned (vu r3)∧
   Kept H w10 w46 ∧
   ∀(w47:World),Hst w0 H w46 H w47 →
   m_D_j6 r1 i1 p1 r2 aP aH aI aQ aR aS aT a1 (s_B r3) w0 H w47 K))
  (∀(w10:World),Hst w0 H w H w10 →
  m_D_j6 r1 i1 p1 r2 aP aH aI aQ aR aS aT a1 0 w0 H w10 K)
def m_D_j4 (r1:Option Addr) (i1:Int) (p1:Addr) (r2 aP:Int) (aH aI aQ:Int) (aR:ByteArray) (aS aT:Int) (w0:World) (H:NP) (w:World) (K:Int→Int→Int→Int→ByteArray→Int→Int→Int→WP):Prop :=
 Br (decide ((s_A (q6.wrap r2))≥1))
  (∀(w9:World),Hst w0 H w H w9 →
  Calls Tryz.prog 84 #[(vp r1)] w9 (fun e w48=>∃r4:Int,e=.returned (vu r4)∧
   Kept H w9 w48 ∧
   ∀(w49:World),Hst w0 H w48 H w49 →
   m_D_j5 r1 i1 p1 r2 aP aH aI aQ aR aS aT (s_B r4) w0 H w49 K))
  (∀(w9:World),Hst w0 H w H w9 →
  m_D_j5 r1 i1 p1 r2 aP aH aI aQ aR aS aT 0 w0 H w9 K)
def m_D_j3 (r1:Option Addr) (i1:Int) (p1:Addr) (r2 bI:Int) (bJ bK bL:Int) (cX:ByteArray) (bM bN:Int) (w0:World) (H:NP) (w:World) (K:Int→Int→Int→Int→ByteArray→Int→Int→Int→WP):Prop :=
 Br (((q6.wrap r2):Int) == 3)
  (Calls Tryz.prog 85 #[(vp r1),(vi 64)] w (fun e w50=>∃r5:ByteArray,e=.returned (vs r5)∧
   Kept H w w50 ∧
   ∀(w51:World),Hst w0 H w50 H w51 →
   m_D_j4 r1 i1 p1 r2 bI bJ bK bL r5 bM bN w0 H w51 K))
  (m_D_j4 r1 i1 p1 r2 bI bJ bK bL cX bM bN w0 H w K)
def m_D_j2 (r1:Option Addr) (i1:Int) (p1:Addr) (r2 bO:Int) (bP bQ cY:Int) (bR:ByteArray) (bS bT:Int) (w0:World) (H:NP) (w:World) (K:Int→Int→Int→Int→ByteArray→Int→Int→Int→WP):Prop :=
 Br (((q6.wrap r2):Int) == 2)
  (Calls Tryz.prog 84 #[(vp r1)] w (fun e w52=>∃r6:Int,e=.returned (vu r6)∧
   Kept H w w52 ∧
   ∀(w53:World),Hst w0 H w52 H w53 →
   m_D_j3 r1 i1 p1 r2 bO bP bQ r6 bR bS bT w0 H w53 K))
  (m_D_j3 r1 i1 p1 r2 bO bP bQ cY bR bS bT w0 H w K)
def m_D_j1 (r1:Option Addr) (i1:Int) (p1:Addr) (r2 aB:Int) (aA aC aD:Int) (aE:ByteArray) (aF aG:Int) (w0:World) (H:NP) (w:World) (K:Int→Int→Int→Int→ByteArray→Int→Int→Int→WP):Prop :=
 Br ((((q6.wrap r2):Int) == 8) || (((q6.wrap r2):Int) == 9))
  (∀(H3:NP) (w8:World),Hst w0 H w H3 w8 →
  Calls Tryz.prog 84 #[(vp r1)] w8 (fun e w54=>∃r7:Int,e=.returned (vu r7)∧
   Kept H3 w8 w54 ∧
   ∀(w56:World),Hst w0 H3 w54 H3 w56 →
   m_D_j2 r1 i1 p1 r2 aB aA (s_B r7) aD aE aF aG w0 H3 w56 K))
  (∀(H3:NP) (w8:World),Hst w0 H w H3 w8 →
  m_D_j2 r1 i1 p1 r2 aB aA aC aD aE aF aG w0 H3 w8 K)
def m_D (r1:Option Addr) (i1:Int) (w0:World) (K:Int→Int→Int→Int→ByteArray→Int→Int→Int→WP):Prop :=
 ∀(p1:Addr) (w1:World),New w0 (.cells #[(vi 0),(vi 0),(vi 0),(vu 0),(vs ⟨#[]⟩),(vi 0),(vi 0)] 86) p1 w1 →
 Calls Tryz.prog 81 #[(vp r1)] w1 (fun e w2=>∃r2:Int,e=.returned (.int .u8 r2)∧
  Kept None w1 w2 ∧
  Br ((decide ((q6.wrap r2)<1)) || (decide ((q6.wrap r2)>9)))
   (∀(H2:NP) (w5:World),Hst w0 None w2 H2 w5 →
   (∀j,j<7→CanW w5 (p1.add j))∧¬ H2 p1.block∧∀w6:World,w6=storeRow w5 p1 [(vi (q6.wrap r2)),(vi 0),(vi 0),(vu 0),(vs ⟨#[]⟩),(vi 0),(vi 0)] →
   ∃cZ dA:Int,∃dB dC:Int,∃dD:ByteArray,∃dE dF:Int,Row w6 p1 [(vi cZ),(vi dA),(vi dB),(vu dC),(vs dD),(vi dE),(vi dF)] ∧
   K cZ dA dB dC dD dE dF 70 w6)
   (Br (s_J (q6.wrap r2))
    (∀(H2:NP) (w7:World),Hst w0 None w2 H2 w7 →
    Calls Tryz.prog 84 #[(vp r1)] w7 (fun e w57=>∃r8:Int,e=.returned (vu r8)∧
     Kept H2 w7 w57 ∧
     ∀(w59:World),Hst w0 H2 w57 H2 w59 →
     m_D_j1 r1 i1 p1 r2 (q6.wrap r2) (s_B r8) 0 0 ⟨#[]⟩ 0 0 w0 H2 w59 K))
    (∀(H2:NP) (w7:World),Hst w0 None w2 H2 w7 →
    m_D_j1 r1 i1 p1 r2 (q6.wrap r2) 0 0 0 ⟨#[]⟩ 0 0 w0 H2 w7 K)))
theorem w_D (r1 : Option Addr) (i1 : Int) (w0 : World) (K : Int → Int → Int → Int → ByteArray → Int → Int → Int → WP) (h : m_D r1 i1 w0 K) :
  Calls Tryz.prog 40 #[(vp r1),(vi i1)] w0 (fun e w'=>∃aK aL:Int,∃aM aN:Int,∃aO:ByteArray,∃aU aV r9:Int,e=.returned (.tuple #[(.agg #[(vi aK),(vi aL),(vi aM),(vu aN),(vs aO),(vi aU),(vi aV)]),(vi r9)])∧K aK aL aM aN aO aU aV r9 w'):=by
 unfold m_D at h
 refine cw (args:=[(vp r1),(vi i1)]) Tryz.func40 Tryz.ntmps40 ?_
 have hs:=Hst.start w0
 have hb:=HB.nil None w0
 refine wpE_seq (rg (sn (O:=(.cells #[(vi 0),(vi 0),(vi 0),(vu 0),(vs ⟨#[]⟩),(vi 0),(vi 0)] 86)) (x_alloc (Tryz.zeroValue86 _) rfl) ?_))
 intro p1 w1 hn16
 have h:=h p1 w1 hn16
 have hs:=hs.again (Ext.new (F:=None) hn16).keptP
 have hb:=hb.kept (Ext.new (F:=None) hn16).keptP
 refine q0 (vi 0) (wpL_nil (th_n (wpE_seq (rg (q0 (vp r1) ?_)))))
 refine sc Tryz.call81 (h.mono ?_)
 rintro e w2 ⟨r2,rfl,hk,h⟩
 refine ⟨_,rfl,?_⟩
 obtain ⟨hs,hb⟩:=hk.hh hs hb
 refine q0 (vi (q6.wrap r2)) (q0 (vi (q6.wrap r2)) (wpL_nil (th_n (wpE_seq (rg (q0 (vi (q6.wrap r2)) (q0 (.agg #[(vi (q6.wrap r2)),(vi 0),(vi 0),(vu 0),(vs ⟨#[]⟩),(vi 0),(vi 0)]) (sn (O:=(.cells #[(vi 0),(vi 0),(vi 0),(vu 0),(vs ⟨#[]⟩),(vi 0),(vi 0)] 86)) (x_alloc (Tryz.zeroValue86 _) rfl) ?_))))))))
 intro p2 w3 hn1
 obtain ⟨H1,hs,hb⟩:=hs.alloc hb hn1
 refine st_set (want0 rfl) (x_storeA (a:=p2) (vs:=[(vi (q6.wrap r2)),(vi 0),(vi 0),(vu 0),(vs ⟨#[]⟩),(vi 0),(vi 0)]) (by kernel_rfl) (by kernel_rfl) rfl (Tryz.sizeOf86 _) rfl (hb.canWs0 0 7 gZ (by kernel_rfl))) ?_
 intro w4 hn2
 have hsb:Hst w0 None w2 H1 w4∧HB H1 w4 [(p2,[(vi (q6.wrap r2)),(vi 0),(vi 0),(vu 0),(vs ⟨#[]⟩),(vi 0),(vi 0)],86)]:=by
  rw [hn2]
  exact hb.store0 (i:=0) (vs:=[(vi (q6.wrap r2)),(vi 0),(vi 0),(vu 0),(vs ⟨#[]⟩),(vi 0),(vi 0)]) hs gZ (by kernel_rfl) (by kernel_rfl)
 obtain ⟨hs,hb⟩:=hsb
 refine wpL_nil (th_n (wpE_seq (wpE_seq ?_)))
 refine wpE_via (fun ρ wJ=>∃b1'0:Bool,∃HJ:NP,((decide ((q6.wrap r2)<1))=b1'0)∧Hst w0 None w2 HJ wJ∧HB HJ wJ [(p2,[(vi (q6.wrap r2)),(vi 0),(vi 0),(vu 0),(vs ⟨#[]⟩),(vi 0),(vi 0)],86)]∧Has ρ [(0,(vp r1)),(1,(vi i1)),(4,(vp (some p1))),(6,(vi (q6.wrap r2))),(7,(vp (some p2))),(20,(vb (b1'0 || (decide ((q6.wrap r2)>9)))))]) ?_ ?_
 ·refine rg (q0 (vi (q6.wrap r2)) (q0 (vb (decide ((q6.wrap r2)<1))) (q0 (vb (decide ((q6.wrap r2)<1))) ?_)))
  rcases Bool.eq_false_or_eq_true (decide ((q6.wrap r2)<1)) with hg2 | hg2
  ·refine sk (yD 17 hg2) (sk (yD 17 hg2) (q2 (vb true) (xT hg2) (wpL_nil (th_n ?_))))
   exact ⟨true,_,hg2,hs,hb,hm⟩
  ·refine q1 (vi (q6.wrap r2)) (want1 rfl (yD 17 hg2)) (q1 (vb (decide ((q6.wrap r2)>9))) (want1 rfl (yD 17 hg2)) (q2 (vb (decide ((q6.wrap r2)>9))) (xF hg2) (wpL_nil (th_n ?_))))
   exact ⟨false,_,hg2,hs,hb,hm⟩
 ·rintro ρ w5 ⟨b1'0,H2,he0,hs,hb,hH⟩
  subst he0
  refine norm_has hH ?_
  refine th_n ?_
  refine wpE_cond (t:=((decide ((q6.wrap r2)<1)) || (decide ((q6.wrap r2)>9)))) (by kernel_rfl) (fun hc1=>?_) (fun hc1=>?_)
  ·have h:=h.1 hc1
   refine wpE_seq (rg (q2 (.agg #[(vi (q6.wrap r2)),(vi 0),(vi 0),(vu 0),(vs ⟨#[]⟩),(vi 0),(vi 0)]) (x_loadA (a:=p2) (vs:=[(vi (q6.wrap r2)),(vi 0),(vi 0),(vu 0),(vs ⟨#[]⟩),(vi 0),(vi 0)]) (by kernel_rfl) (Tryz.isAgg86 _) (Tryz.sizeOf86 _) rfl (hb.row0 0 7 gZ (by kernel_rfl))) ?_))
   have h:=h H2 w5 hs
   have hs:=hs.here
   obtain ⟨hp1,hnh,h⟩:=h
   refine st_set (want0 rfl) (x_storeA (a:=p1) (vs:=[(vi (q6.wrap r2)),(vi 0),(vi 0),(vu 0),(vs ⟨#[]⟩),(vi 0),(vi 0)]) (by kernel_rfl) (by kernel_rfl) rfl (Tryz.sizeOf86 _) rfl hp1) ?_
   intro w6 hn3
   have h:=h w6 hn3
   have hk:Kept H2 w5 w6:=by rw [hn3];exact Kept.storeRow hnh
   obtain ⟨hs,hb⟩:=hk.hh hs hb
   refine q0 (vi 70) (wpL_nil (th_n (wpE_ret (th_r ?_))))
   obtain ⟨cZ,dA,dB,dC,dD,dE,dF,hv1,h⟩:=h
   refine resG (.inl rfl) (vs:=[(.agg #[(vi cZ),(vi dA),(vi dB),(vu dC),(vs dD),(vi dE),(vi dF)]),(vi 70)]) (v:=(.tuple #[(.agg #[(vi cZ),(vi dA),(vi dB),(vu dC),(vs dD),(vi dE),(vi dF)]),(vi 70)])) Tryz.results40 ⟨(RV.cellA (by kernel_rfl) (Tryz.isAgg86 _) (Tryz.sizeOf86 _) rfl hv1),(rvT (by kernel_rfl)),trivial⟩ (by kernel_rfl) ?_
   exact ⟨cZ,dA,dB,dC,dD,dE,dF,70,rfl,h⟩
  ·have h:=h.2 hc1
   refine wpE_skip (th_n (wpE_seq (wpE_seq (rg (q0 (vi (q6.wrap r2)) ?_)))))
   refine sc Tryz.call82 ((p_J (q6.wrap r2) w5).mono ?_)
   rintro e w7 ⟨he,hE⟩
   refine ⟨(vb (s_J (q6.wrap r2))),he.trans (by kernel_rfl),?_⟩
   have hs:=hs.pure hE
   have hb:=hb.pure hE
   refine wpL_nil (th_n ?_)
   refine wpE_joinT (fun ρ w=>∃aB aA:Int,∃aC aD:Int,∃aE:ByteArray,∃aF aG:Int,∃H:NP,Has ρ [(0,(vp r1)),(1,(vi i1)),(4,(vp (some p1))),(6,(vi (q6.wrap r2))),(7,(vp (some p2)))]∧Hst w0 H w H w∧HB H w [(p2,[(vi aB),(vi aA),(vi aC),(vu aD),(vs aE),(vi aF),(vi aG)],86)]∧m_D_j1 r1 i1 p1 r2 aB aA aC aD aE aF aG w0 H w K) ?_ ?_
   ·rintro ρ w ⟨aB,aA,aC,aD,aE,aF,aG,H,hH,hs,hb,h⟩
    unfold m_D_j1 at h
    refine wpE_has hH ?_
    refine wpE_seq (wpE_seq ?_)
    refine wpE_via (fun ρ wJ=>∃b2'0:Bool,∃HJ:NP,((((q6.wrap r2):Int) == 8)=b2'0)∧Hst w0 H w HJ wJ∧HB HJ wJ [(p2,[(vi aB),(vi aA),(vi aC),(vu aD),(vs aE),(vi aF),(vi aG)],86)]∧Has ρ [(0,(vp r1)),(1,(vi i1)),(4,(vp (some p1))),(6,(vi (q6.wrap r2))),(7,(vp (some p2))),(33,(vb (b2'0 || (((q6.wrap r2):Int) == 9))))]) ?_ ?_
    ·refine rg (q0 (vi (q6.wrap r2)) (q0 (vb (((q6.wrap r2):Int) == 8)) (q0 (vb (((q6.wrap r2):Int) == 8)) ?_)))
     rcases Bool.eq_false_or_eq_true (((q6.wrap r2):Int) == 8) with hg4 | hg4
     ·refine sk (yD 30 hg4) (sk (yD 30 hg4) (q2 (vb true) (xT hg4) (wpL_nil (th_n ?_))))
      exact ⟨true,_,hg4,hs,hb,hm⟩
     ·refine q1 (vi (q6.wrap r2)) (want1 rfl (yD 30 hg4)) (q1 (vb (((q6.wrap r2):Int) == 9)) (want1 rfl (yD 30 hg4)) (q2 (vb (((q6.wrap r2):Int) == 9)) (xF hg4) (wpL_nil (th_n ?_))))
      exact ⟨false,_,hg4,hs,hb,hm⟩
    ·rintro ρ w8 ⟨b2'0,H3,he0,hs,hb,hH⟩
     subst he0
     refine norm_has hH ?_
     refine th_n ?_
     refine wpE_joinT (fun ρ w=>∃bO bP:Int,∃bQ cY:Int,∃bR:ByteArray,∃bS bT:Int,∃H:NP,Has ρ [(0,(vp r1)),(1,(vi i1)),(4,(vp (some p1))),(6,(vi (q6.wrap r2))),(7,(vp (some p2)))]∧Hst w0 H w H w∧HB H w [(p2,[(vi bO),(vi bP),(vi bQ),(vu cY),(vs bR),(vi bS),(vi bT)],86)]∧m_D_j2 r1 i1 p1 r2 bO bP bQ cY bR bS bT w0 H w K) ?_ ?_
     ·rintro ρ w ⟨bO,bP,bQ,cY,bR,bS,bT,H,hH,hs,hb,h⟩
      unfold m_D_j2 at h
      refine wpE_has hH ?_
      refine wpE_seq (wpE_seq (rg (q0 (vi (q6.wrap r2)) (q0 (vb (((q6.wrap r2):Int) == 2)) (wpL_nil (th_n ?_))))))
      refine wpE_joinT (fun ρ w=>∃bI bJ:Int,∃bK bL:Int,∃cX:ByteArray,∃bM bN:Int,∃H:NP,Has ρ [(0,(vp r1)),(1,(vi i1)),(4,(vp (some p1))),(6,(vi (q6.wrap r2))),(7,(vp (some p2)))]∧Hst w0 H w H w∧HB H w [(p2,[(vi bI),(vi bJ),(vi bK),(vu bL),(vs cX),(vi bM),(vi bN)],86)]∧m_D_j3 r1 i1 p1 r2 bI bJ bK bL cX bM bN w0 H w K) ?_ ?_
      ·rintro ρ w ⟨bI,bJ,bK,bL,cX,bM,bN,H,hH,hs,hb,h⟩
       unfold m_D_j3 at h
       refine wpE_has hH ?_
       refine wpE_seq (wpE_seq (rg (q0 (vi (q6.wrap r2)) (q0 (vb (((q6.wrap r2):Int) == 3)) (wpL_nil (th_n ?_))))))
       refine wpE_joinT (fun ρ w=>∃aP aH:Int,∃aI aQ:Int,∃aR:ByteArray,∃aS aT:Int,∃H:NP,Has ρ [(0,(vp r1)),(1,(vi i1)),(4,(vp (some p1))),(6,(vi (q6.wrap r2))),(7,(vp (some p2)))]∧Hst w0 H w H w∧HB H w [(p2,[(vi aP),(vi aH),(vi aI),(vu aQ),(vs aR),(vi aS),(vi aT)],86)]∧m_D_j4 r1 i1 p1 r2 aP aH aI aQ aR aS aT w0 H w K) ?_ ?_
       ·rintro ρ w ⟨aP,aH,aI,aQ,aR,aS,aT,H,hH,hs,hb,h⟩
        unfold m_D_j4 at h
        refine wpE_has hH ?_
        refine wpE_seq (rg (q0 (vi 0) (q0 (vi 0) (wpL_nil (th_n (wpE_seq (wpE_seq (rg (q0 (vi (q6.wrap r2)) ?_)))))))))
        refine sc Tryz.call46 ((p_A (q6.wrap r2) w).mono ?_)
        rintro e w9 ⟨he,hE⟩
        refine ⟨(vi (s_A (q6.wrap r2))),he.trans (by kernel_rfl),?_⟩
        have hs:=hs.pure hE
        have hb:=hb.pure hE
        refine q0 (vb (decide ((s_A (q6.wrap r2))≥1))) (wpL_nil (th_n ?_))
        refine wpE_joinT (fun ρ w=>∃a1:Int,∃H:NP,Has ρ [(0,(vp r1)),(1,(vi i1)),(4,(vp (some p1))),(6,(vi (q6.wrap r2))),(7,(vp (some p2))),(8,(vi a1)),(9,(vi 0))]∧Hst w0 H w H w∧HB H w [(p2,[(vi aP),(vi aH),(vi aI),(vu aQ),(vs aR),(vi aS),(vi aT)],86)]∧m_D_j5 r1 i1 p1 r2 aP aH aI aQ aR aS aT a1 w0 H w K) ?_ ?_
        ·rintro ρ w ⟨a1,H,hH,hs,hb,h⟩
         unfold m_D_j5 at h
         refine wpE_has hH ?_
         refine wpE_seq (wpE_seq (rg (q0 (vi (q6.wrap r2)) ?_)))
         refine sc Tryz.call46 ((p_A (q6.wrap r2) w).mono ?_)
         rintro e w10 ⟨he,hE⟩
         refine ⟨(vi (s_A (q6.wrap r2))),he.trans (by kernel_rfl),?_⟩
         have hs:=hs.pure hE
         have hb:=hb.pure hE
         refine q0 (vb (((s_A (q6.wrap r2)):Int) == 2)) (wpL_nil (th_n ?_))
         refine wpE_joinT (fun ρ w=>∃b3:Int,∃H:NP,Has ρ [(0,(vp r1)),(1,(vi i1)),(4,(vp (some p1))),(6,(vi (q6.wrap r2))),(7,(vp (some p2))),(8,(vi a1)),(9,(vi b3))]∧Hst w0 H w H w∧HB H w [(p2,[(vi aP),(vi aH),(vi aI),(vu aQ),(vs aR),(vi aS),(vi aT)],86)]∧m_D_j6 r1 i1 p1 r2 aP aH aI aQ aR aS aT a1 b3 w0 H w K) ?_ ?_
         ·rintro ρ w ⟨b3,H,hH,hs,hb,h⟩
          unfold m_D_j6 at h
          refine wpE_has hH ?_
          refine wpE_seq (wpE_seq (rg (q0 (vp r1) ?_)))
          obtain ⟨a2,hp2,h⟩:=h
          refine q2 (vp (some a2)) (x_nilCheck (p:=r1) (by kernel_rfl) hp2) (q0 (vp (some (a2.add 2))) ?_)
          obtain ⟨v1,hv7,h⟩:=h
          refine q2 (vi v1) (xl (Tryz.isAgg3 _) hv7) (q0 (vb (v1 != 0)) (wpL_nil (th_n ?_)))
          refine wpE_cond (t:=(v1 != 0)) (by kernel_rfl) (fun hc2=>?_) (fun hc2=>?_)
          ·have h:=h.1 hc2
           refine wpE_seq ?_
           obtain ⟨C1,hC,h⟩:=h
           refine wpE_drawnC (fun x=>C1 x∧HB H x [(p2,[(vi aP),(vi aH),(vi aI),(vu aQ),(vs aR),(vi aS),(vi aT)],86)]) [5] [] (by kernel_rfl) (by kernel_rfl) (by kernel_rfl) (by kernel_rfl) ⟨hC,hb.drew⟩ ?_
           intro w11 hw11
           have h:=h w11 hw11
           have hs:Hst w0 H w H w11:=by rw [hw11];exact hs.drew
           have hb:HB H w11 [(p2,[(vi aP),(vi aH),(vi aI),(vu aQ),(vs aR),(vi aS),(vi aT)],86)]:=by rw [hw11];exact hb.drew
           have hs:=hs.here
           refine qz 0 (.agg #[(vi aP),(vi aH),(vi aI),(vu aQ),(vs aR),(vi aS),(vi aT)]) Kp0 (fun w' hw'=>(x_loadA (a:=p2) (vs:=[(vi aP),(vi aH),(vi aI),(vu aQ),(vs aR),(vi aS),(vi aT)]) (by kernel_rfl) (Tryz.isAgg86 _) (Tryz.sizeOf86 _) rfl (hw'.2.row0 0 7 gZ (by kernel_rfl)))) (qx 1 (vp r1) Kp1 (qg 2 ?_))
           obtain ⟨a3,hp3,h⟩:=h
           refine sy (v:=(vp (some a3))) Kp2 (fun _ _=>(x_nilCheck (p:=r1) (by kernel_rfl) hp3)) (qx 3 (vp (some (a3.add 2))) Kp3 (qg 4 ?_))
           obtain ⟨v2,hv3,h⟩:=h
           refine sy (v:=(vi v2)) Kp4 (fun w' hw'=>(xl (Tryz.isAgg3 _) (hv3 w' hw'.1))) (lg 5 ?_)
           obtain ⟨hp4,hnh,h⟩:=h
           refine sl_set Kp5 (want0 rfl) (by kernel_rfl) (x_storeA (a:=p1) (vs:=[(vi aP),(vi aH),(vi aI),(vu aQ),(vs aR),(vi aS),(vi aT)]) (by kernel_rfl) (by kernel_rfl) rfl (Tryz.sizeOf86 _) rfl hp4) ?_
           intro w12 hn4
           have h:=h w12 hn4
           refine ⟨.inr ⟨h.1,hb.kept (by rw [hn4];exact Kept.storeRow hnh)⟩,?_⟩
           have h:=h.2
           have hk:Kept H w11 w12:=by rw [hn4];exact Kept.storeRow hnh
           obtain ⟨hs,hb⟩:=hk.hh hs hb
           refine qx 6 (vi v2) Kp6 (wn (th_n (wpE_ret (th_r ?_))))
           obtain ⟨bV,bW,bX,bY,bZ,cA,cB,hv2,h⟩:=h
           refine resG (.inl rfl) (vs:=[(.agg #[(vi bV),(vi bW),(vi bX),(vu bY),(vs bZ),(vi cA),(vi cB)]),(vi v2)]) (v:=(.tuple #[(.agg #[(vi bV),(vi bW),(vi bX),(vu bY),(vs bZ),(vi cA),(vi cB)]),(vi v2)])) Tryz.results40 ⟨(RV.cellA (by kernel_rfl) (Tryz.isAgg86 _) (Tryz.sizeOf86 _) rfl hv2),(rvT (by kernel_rfl)),trivial⟩ (by kernel_rfl) ?_
           exact ⟨bV,bW,bX,bY,bZ,cA,cB,v2,rfl,h⟩
          ·have h:=h.2 hc2
           refine wpE_skip (th_n (wpE_seq (wpE_seq ?_)))
           refine wpE_via (fun ρ wJ=>∃b9'0 y1:Bool,∃HJ:NP,(((s_J (q6.wrap r2)) && (decide (aH≥16)))=b9'0)∧(y1=(b9'0 || (((((q6.wrap r2):Int) == 8) || (((q6.wrap r2):Int) == 9)) && ((decide (aI≥16)) || (aI == aH)))))∧Hst w0 H w HJ wJ∧HB HJ wJ [(p2,[(vi aP),(vi aH),(vi aI),(vu aQ),(vs aR),(vi aS),(vi aT)],86)]∧Has ρ [(1,(vi i1)),(4,(vp (some p1))),(6,(vi (q6.wrap r2))),(7,(vp (some p2))),(8,(vi a1)),(9,(vi b3)),(96,(vb y1))]) ?_ ?_
           ·refine rg (q0 (vi (q6.wrap r2)) ?_)
            refine sc Tryz.call82 ((p_J (q6.wrap r2) w).mono ?_)
            rintro e w20 ⟨he,hE⟩
            refine ⟨(vb (s_J (q6.wrap r2))),he.trans (by kernel_rfl),?_⟩
            have hs:=hs.pure hE
            have hb:=hb.pure hE
            refine q0 (vb (s_J (q6.wrap r2))) ?_
            refine wpL_join 4 (fun ρ wJ=>∃b10'0:Bool,∃HJ:NP,((s_J (q6.wrap r2))=b10'0)∧Hst w0 H w HJ wJ∧HB HJ wJ [(p2,[(vi aP),(vi aH),(vi aI),(vu aQ),(vs aR),(vi aS),(vi aT)],86)]∧Has ρ [(1,(vi i1)),(4,(vp (some p1))),(6,(vi (q6.wrap r2))),(7,(vp (some p2))),(8,(vi a1)),(9,(vi b3)),(76,(vb (b10'0 && (decide (aH≥16)))))]) ?_ ?_
            ·rintro ρ w21 ⟨b10'0,H10,he0,hs,hb,hH⟩
             subst he0
             refine wpL_has hH ?_
             refine q0 (vb ((s_J (q6.wrap r2)) && (decide (aH≥16)))) ?_
             rcases Bool.eq_false_or_eq_true ((s_J (q6.wrap r2)) && (decide (aH≥16))) with hg18 | hg18
             ·refine sk (yD 77 hg18) (sk (yD 77 hg18) (sk (yD 77 hg18) (sm (sm (sk (yD 77 hg18) (sk (yD 77 hg18) (sm (sm (sm (sm (sm ?_)))))))))))
              refine sm (sm (sm (sm (sm (sk (yD 77 hg18) (q2 (vb true) (xT hg18) (wpL_nil (th_n ?_))))))))
              exact ⟨true,_,_,hg18,rfl,hs,hb,hm⟩
             ·refine q1 (vi (q6.wrap r2)) (want1 rfl (yD 77 hg18)) (q1 (vb (((q6.wrap r2):Int) == 8)) (want1 rfl (yD 77 hg18)) (q1 (vb (((q6.wrap r2):Int) == 8)) (want1 rfl (yD 77 hg18)) ?_))
              refine wpL_join 3 (fun ρ wJ=>∃b11'0:Bool,∃HJ:NP,((((q6.wrap r2):Int) == 8)=b11'0)∧Hst w0 H w HJ wJ∧HB HJ wJ [(p2,[(vi aP),(vi aH),(vi aI),(vu aQ),(vs aR),(vi aS),(vi aT)],86)]∧Has ρ [(1,(vi i1)),(4,(vp (some p1))),(6,(vi (q6.wrap r2))),(7,(vp (some p2))),(8,(vi a1)),(9,(vi b3)),(77,(vb ((s_J (q6.wrap r2)) && (decide (aH≥16))))),(83,(vb (b11'0 || (((q6.wrap r2):Int) == 9))))]) ?_ ?_
              ·rintro ρ w22 ⟨b11'0,H11,he0,hs,hb,hH⟩
               subst he0
               refine wpL_has hH ?_
               refine q1 (vb ((((q6.wrap r2):Int) == 8) || (((q6.wrap r2):Int) == 9))) (want1 rfl (yD 77 hg18)) ?_
               refine wpL_join 11 (fun ρ wJ=>∃b13'0:Bool,∃HJ:NP,(((((q6.wrap r2):Int) == 8) || (((q6.wrap r2):Int) == 9))=b13'0)∧Hst w0 H w HJ wJ∧HB HJ wJ [(p2,[(vi aP),(vi aH),(vi aI),(vu aQ),(vs aR),(vi aS),(vi aT)],86)]∧Has ρ [(1,(vi i1)),(4,(vp (some p1))),(6,(vi (q6.wrap r2))),(7,(vp (some p2))),(8,(vi a1)),(9,(vi b3)),(77,(vb ((s_J (q6.wrap r2)) && (decide (aH≥16))))),(95,(vb (b13'0 && ((decide (aI≥16)) || (aI == aH)))))]) ?_ ?_
               ·rintro ρ w24 ⟨b13'0,H13,he0,hs,hb,hH⟩
                subst he0
                refine wpL_has hH ?_
                refine q2 (vb (((((q6.wrap r2):Int) == 8) || (((q6.wrap r2):Int) == 9)) && ((decide (aI≥16)) || (aI == aH)))) (xF hg18) (wpL_nil (th_n ?_))
                exact ⟨false,_,_,hg18,rfl,hs,hb,hm⟩
               ·rcases Bool.eq_false_or_eq_true ((((q6.wrap r2):Int) == 8) || (((q6.wrap r2):Int) == 9)) with hg24 | hg24
                ·refine q1 (vp (some (p2.add 2))) (want1 rfl (yD 84 hg24)) (stp (v:=(vi aI)) (want1 rfl (yD 84 hg24)) (xl (Tryz.isAgg3 _) (hb.c 0 2 gZ)) (q1 (vb (decide (aI≥16))) (want1 rfl (yD 84 hg24)) (q1 (vb (decide (aI≥16))) (want1 rfl (yD 84 hg24)) ?_)))
                 refine wpL_join 6 (fun ρ wJ=>∃b14'0:Bool,∃HJ:NP,((decide (aI≥16))=b14'0)∧Hst w0 H w HJ wJ∧HB HJ wJ [(p2,[(vi aP),(vi aH),(vi aI),(vu aQ),(vs aR),(vi aS),(vi aT)],86)]∧Has ρ [(1,(vi i1)),(4,(vp (some p1))),(6,(vi (q6.wrap r2))),(7,(vp (some p2))),(8,(vi a1)),(9,(vi b3)),(77,(vb ((s_J (q6.wrap r2)) && (decide (aH≥16))))),(84,(vb ((((q6.wrap r2):Int) == 8) || (((q6.wrap r2):Int) == 9)))),(94,(vb (b14'0 || (aI == aH))))]) ?_ ?_
                 ·rintro ρ w25 ⟨b14'0,H14,he0,hs,hb,hH⟩
                  subst he0
                  refine wpL_has hH ?_
                  refine stp (v:=(vb ((decide (aI≥16)) || (aI == aH)))) (want1 rfl (yD 77 hg18)) (xT hg24) (wpL_nil ?_)
                  exact ⟨true,_,hg24,hs,hb,hm⟩
                 ·rcases Bool.eq_false_or_eq_true (decide (aI≥16)) with hg26 | hg26
                  ·refine sk (yD 88 hg26) (sk (yD 88 hg26) (sk (yD 88 hg26) (sk (yD 88 hg26) (sk (yD 88 hg26) (stp (v:=(vb true)) (want1 rfl (yD 84 hg24)) (xT hg26) (wpL_nil ?_))))))
                   exact ⟨true,_,hg26,hs,hb,hm⟩
                  ·refine q1 (vp (some (p2.add 2))) (want1 rfl (yD 88 hg26)) (stp (v:=(vi aI)) (want1 rfl (yD 88 hg26)) (xl (Tryz.isAgg3 _) (hb.c 0 2 gZ)) (q1 (vp (some (p2.add 1))) (want1 rfl (yD 88 hg26)) (stp (v:=(vi aH)) (want1 rfl (yD 88 hg26)) (xl (Tryz.isAgg3 _) (hb.c 0 1 gZ)) (q1 (vb (aI == aH)) (want1 rfl (yD 88 hg26)) (stp (v:=(vb (aI == aH))) (want1 rfl (yD 84 hg24)) (xF hg26) (wpL_nil ?_))))))
                   exact ⟨false,_,hg26,hs,hb,hm⟩
                ·refine sk (yD 84 hg24) (sk (yD 84 hg24) (sk (yD 84 hg24) (sk (yD 84 hg24) (sm (sm (sm (sm (sm (sk (yD 84 hg24) (stp (v:=(vb false)) (want1 rfl (yD 77 hg18)) (xF hg24) (wpL_nil ?_)))))))))))
                 exact ⟨false,_,hg24,hs,hb,hm⟩
              ·rcases Bool.eq_false_or_eq_true (((q6.wrap r2):Int) == 8) with hg20 | hg20
               ·refine sk (yD 80 hg20) (sk (yD 80 hg20) (stp (v:=(vb true)) (want1 rfl (yD 77 hg18)) (xT hg20) (wpL_nil ?_)))
                exact ⟨true,_,hg20,hs,hb,hm⟩
               ·refine q1 (vi (q6.wrap r2)) (want1 rfl (yD 80 hg20)) (q1 (vb (((q6.wrap r2):Int) == 9)) (want1 rfl (yD 80 hg20)) (stp (v:=(vb (((q6.wrap r2):Int) == 9))) (want1 rfl (yD 77 hg18)) (xF hg20) (wpL_nil ?_)))
                exact ⟨false,_,hg20,hs,hb,hm⟩
            ·rcases Bool.eq_false_or_eq_true (s_J (q6.wrap r2)) with hg17 | hg17
             ·refine q1 (vp (some (p2.add 1))) (want1 rfl (yD 72 hg17)) (stp (v:=(vi aH)) (want1 rfl (yD 72 hg17)) (xl (Tryz.isAgg3 _) (hb.c 0 1 gZ)) (q1 (vb (decide (aH≥16))) (want1 rfl (yD 72 hg17)) (q2 (vb (decide (aH≥16))) (xT hg17) (wpL_nil ?_))))
              exact ⟨true,_,hg17,hs,hb,hm⟩
             ·refine sk (yD 72 hg17) (sk (yD 72 hg17) (sk (yD 72 hg17) (q2 (vb false) (xF hg17) (wpL_nil ?_))))
              exact ⟨false,_,hg17,hs,hb,hm⟩
           ·rintro ρ w19 ⟨b9'0,y1,H9,he0,hy1,hs,hb,hH⟩
            subst he0
            have h:=h y1 hy1
            refine norm_has hH ?_
            refine th_n ?_
            refine wpE_cond (t:=y1) (by kernel_rfl) (fun hc3=>?_) (fun hc3=>?_)
            ·have h:=h.1 hc3
             refine wpE_seq (rg (q2 (.agg #[(vi aP),(vi aH),(vi aI),(vu aQ),(vs aR),(vi aS),(vi aT)]) (x_loadA (a:=p2) (vs:=[(vi aP),(vi aH),(vi aI),(vu aQ),(vs aR),(vi aS),(vi aT)]) (by kernel_rfl) (Tryz.isAgg86 _) (Tryz.sizeOf86 _) rfl (hb.row0 0 7 gZ (by kernel_rfl))) ?_))
             have h:=h H9 w19 hs
             have hs:=hs.here
             obtain ⟨hp5,hnh,h⟩:=h
             refine st_set (want0 rfl) (x_storeA (a:=p1) (vs:=[(vi aP),(vi aH),(vi aI),(vu aQ),(vs aR),(vi aS),(vi aT)]) (by kernel_rfl) (by kernel_rfl) rfl (Tryz.sizeOf86 _) rfl hp5) ?_
             intro w26 hn5
             have h:=h w26 hn5
             have hk:Kept H9 w19 w26:=by rw [hn5];exact Kept.storeRow hnh
             obtain ⟨hs,hb⟩:=hk.hh hs hb
             refine q0 (vi 50) (wpL_nil (th_n (wpE_ret (th_r ?_))))
             obtain ⟨cC,cD,cE,cF,cG,cH,cI,hv4,h⟩:=h
             refine resG (.inl rfl) (vs:=[(.agg #[(vi cC),(vi cD),(vi cE),(vu cF),(vs cG),(vi cH),(vi cI)]),(vi 50)]) (v:=(.tuple #[(.agg #[(vi cC),(vi cD),(vi cE),(vu cF),(vs cG),(vi cH),(vi cI)]),(vi 50)])) Tryz.results40 ⟨(RV.cellA (by kernel_rfl) (Tryz.isAgg86 _) (Tryz.sizeOf86 _) rfl hv4),(rvT (by kernel_rfl)),trivial⟩ (by kernel_rfl) ?_
             exact ⟨cC,cD,cE,cF,cG,cH,cI,50,rfl,h⟩
            ·have h:=h.2 hc3
             refine wpE_skip (th_n (wpE_seq (wpE_seq ?_)))
             refine wpE_via (fun ρ wJ=>∃b17'0 y2:Bool,∃HJ:NP,(((decide ((s_A (q6.wrap r2))≥1)) && (decide (a1≥i1)))=b17'0)∧(y2=(b17'0 || ((((s_A (q6.wrap r2)):Int) == 2) && (decide (b3≥i1)))))∧Hst w0 H w HJ wJ∧HB HJ wJ [(p2,[(vi aP),(vi aH),(vi aI),(vu aQ),(vs aR),(vi aS),(vi aT)],86)]∧Has ρ [(4,(vp (some p1))),(6,(vi (q6.wrap r2))),(7,(vp (some p2))),(8,(vi a1)),(9,(vi b3)),(115,(vb y2))]) ?_ ?_
             ·refine rg (q0 (vi (q6.wrap r2)) ?_)
              refine sc Tryz.call46 ((p_A (q6.wrap r2) w19).mono ?_)
              rintro e w32 ⟨he,hE⟩
              refine ⟨(vi (s_A (q6.wrap r2))),he.trans (by kernel_rfl),?_⟩
              have hs:=hs.pure hE
              have hb:=hb.pure hE
              refine q0 (vb (decide ((s_A (q6.wrap r2))≥1))) (q0 (vb (decide ((s_A (q6.wrap r2))≥1))) ?_)
              refine wpL_join 4 (fun ρ wJ=>∃b18'0:Bool,∃HJ:NP,((decide ((s_A (q6.wrap r2))≥1))=b18'0)∧Hst w0 H w HJ wJ∧HB HJ wJ [(p2,[(vi aP),(vi aH),(vi aI),(vu aQ),(vs aR),(vi aS),(vi aT)],86)]∧Has ρ [(1,(vi i1)),(4,(vp (some p1))),(6,(vi (q6.wrap r2))),(7,(vp (some p2))),(8,(vi a1)),(9,(vi b3)),(105,(vb (b18'0 && (decide (a1≥i1)))))]) ?_ ?_
              ·rintro ρ w33 ⟨b18'0,H18,he0,hs,hb,hH⟩
               subst he0
               refine wpL_has hH ?_
               refine q0 (vb ((decide ((s_A (q6.wrap r2))≥1)) && (decide (a1≥i1)))) ?_
               rcases Bool.eq_false_or_eq_true ((decide ((s_A (q6.wrap r2))≥1)) && (decide (a1≥i1))) with hg34 | hg34
               ·refine sk (yD 106 hg34) (sk (yD 106 hg34) (sk (yD 106 hg34) (sk (yD 106 hg34) (sm (sm (sm (sk (yD 106 hg34) (q2 (vb true) (xT hg34) (wpL_nil (th_n ?_))))))))))
                exact ⟨true,_,_,hg34,rfl,hs,hb,hm⟩
               ·refine q1 (vi (q6.wrap r2)) (want1 rfl (yD 106 hg34)) ?_
                refine st_call (want1 rfl (yD 106 hg34)) (xc Tryz.call46) ((p_A (q6.wrap r2) w33).mono ?_)
                rintro e w34 ⟨he,hE⟩
                refine ⟨(vi (s_A (q6.wrap r2))),he.trans (by kernel_rfl),?_⟩
                have hs:=hs.pure hE
                have hb:=hb.pure hE
                refine q1 (vb (((s_A (q6.wrap r2)):Int) == 2)) (want1 rfl (yD 106 hg34)) (q1 (vb (((s_A (q6.wrap r2)):Int) == 2)) (want1 rfl (yD 106 hg34)) ?_)
                refine wpL_join 4 (fun ρ wJ=>∃b19'0:Bool,∃HJ:NP,((((s_A (q6.wrap r2)):Int) == 2)=b19'0)∧Hst w0 H w HJ wJ∧HB HJ wJ [(p2,[(vi aP),(vi aH),(vi aI),(vu aQ),(vs aR),(vi aS),(vi aT)],86)]∧Has ρ [(4,(vp (some p1))),(6,(vi (q6.wrap r2))),(7,(vp (some p2))),(8,(vi a1)),(9,(vi b3)),(106,(vb ((decide ((s_A (q6.wrap r2))≥1)) && (decide (a1≥i1))))),(114,(vb (b19'0 && (decide (b3≥i1)))))]) ?_ ?_
                ·rintro ρ w35 ⟨b19'0,H19,he0,hs,hb,hH⟩
                 subst he0
                 refine wpL_has hH ?_
                 refine q2 (vb ((((s_A (q6.wrap r2)):Int) == 2) && (decide (b3≥i1)))) (xF hg34) (wpL_nil (th_n ?_))
                 exact ⟨false,_,_,hg34,rfl,hs,hb,hm⟩
                ·rcases Bool.eq_false_or_eq_true (((s_A (q6.wrap r2)):Int) == 2) with hg36 | hg36
                 ·refine q1 (vi b3) (want1 rfl (yD 110 hg36)) (q1 (vi i1) (want1 rfl (yD 110 hg36)) (q1 (vb (decide (b3≥i1))) (want1 rfl (yD 110 hg36)) (stp (v:=(vb (decide (b3≥i1)))) (want1 rfl (yD 106 hg34)) (xT hg36) (wpL_nil ?_))))
                  exact ⟨true,_,hg36,hs,hb,hm⟩
                 ·refine sk (yD 110 hg36) (sk (yD 110 hg36) (sk (yD 110 hg36) (stp (v:=(vb false)) (want1 rfl (yD 106 hg34)) (xF hg36) (wpL_nil ?_))))
                  exact ⟨false,_,hg36,hs,hb,hm⟩
              ·rcases Bool.eq_false_or_eq_true (decide ((s_A (q6.wrap r2))≥1)) with hg33 | hg33
               ·refine q1 (vi a1) (want1 rfl (yD 101 hg33)) (q1 (vi i1) (want1 rfl (yD 101 hg33)) (q1 (vb (decide (a1≥i1))) (want1 rfl (yD 101 hg33)) (q2 (vb (decide (a1≥i1))) (xT hg33) (wpL_nil ?_))))
                exact ⟨true,_,hg33,hs,hb,hm⟩
               ·refine sk (yD 101 hg33) (sk (yD 101 hg33) (sk (yD 101 hg33) (q2 (vb false) (xF hg33) (wpL_nil ?_))))
                exact ⟨false,_,hg33,hs,hb,hm⟩
             ·rintro ρ w31 ⟨b17'0,y2,H17,he0,hy2,hs,hb,hH⟩
              subst he0
              have h:=h y2 hy2
              refine norm_has hH ?_
              refine th_n ?_
              refine wpE_cond (t:=y2) (by kernel_rfl) (fun hc4=>?_) (fun hc4=>?_)
              ·have h:=h.1 hc4
               refine wpE_seq (rg (q2 (.agg #[(vi aP),(vi aH),(vi aI),(vu aQ),(vs aR),(vi aS),(vi aT)]) (x_loadA (a:=p2) (vs:=[(vi aP),(vi aH),(vi aI),(vu aQ),(vs aR),(vi aS),(vi aT)]) (by kernel_rfl) (Tryz.isAgg86 _) (Tryz.sizeOf86 _) rfl (hb.row0 0 7 gZ (by kernel_rfl))) ?_))
               have h:=h H17 w31 hs
               have hs:=hs.here
               obtain ⟨hp6,hnh,h⟩:=h
               refine st_set (want0 rfl) (x_storeA (a:=p1) (vs:=[(vi aP),(vi aH),(vi aI),(vu aQ),(vs aR),(vi aS),(vi aT)]) (by kernel_rfl) (by kernel_rfl) rfl (Tryz.sizeOf86 _) rfl hp6) ?_
               intro w36 hn6
               have h:=h w36 hn6
               have hk:Kept H17 w31 w36:=by rw [hn6];exact Kept.storeRow hnh
               obtain ⟨hs,hb⟩:=hk.hh hs hb
               refine q0 (vi 71) (wpL_nil (th_n (wpE_ret (th_r ?_))))
               obtain ⟨cJ,cK,cL,cM,cN,cO,cP,hv5,h⟩:=h
               refine resG (.inl rfl) (vs:=[(.agg #[(vi cJ),(vi cK),(vi cL),(vu cM),(vs cN),(vi cO),(vi cP)]),(vi 71)]) (v:=(.tuple #[(.agg #[(vi cJ),(vi cK),(vi cL),(vu cM),(vs cN),(vi cO),(vi cP)]),(vi 71)])) Tryz.results40 ⟨(RV.cellA (by kernel_rfl) (Tryz.isAgg86 _) (Tryz.sizeOf86 _) rfl hv5),(rvT (by kernel_rfl)),trivial⟩ (by kernel_rfl) ?_
               exact ⟨cJ,cK,cL,cM,cN,cO,cP,71,rfl,h⟩
              ·have h:=h.2 hc4
               refine wpE_skip (th_n (wpE_seq (wpE_seq (rg (q0 (vi (q6.wrap r2)) ?_)))))
               refine sc Tryz.call46 ((p_A (q6.wrap r2) w31).mono ?_)
               rintro e w37 ⟨he,hE⟩
               refine ⟨(vi (s_A (q6.wrap r2))),he.trans (by kernel_rfl),?_⟩
               have hs:=hs.pure hE
               have hb:=hb.pure hE
               refine q0 (vb (decide ((s_A (q6.wrap r2))≥1))) (wpL_nil (th_n ?_))
               refine wpE_via (fun ρ wJ=>∃b20'0:Bool,∃HJ:NP,((decide ((s_A (q6.wrap r2))≥1))=b20'0)∧Hst w0 H w HJ wJ∧HB HJ wJ [(p2,[(vi aP),(vi aH),(vi aI),(vu aQ),(vs aR),(vi (cond b20'0 (q6.wrap (a1+1)) aS)),(vi aT)],86)]∧Has ρ [(4,(vp (some p1))),(6,(vi (q6.wrap r2))),(7,(vp (some p2))),(9,(vi b3))]) ?_ ?_
               ·refine wpE_cond (t:=(decide ((s_A (q6.wrap r2))≥1))) (by kernel_rfl) (fun hc6=>?_) (fun hc6=>?_)
                ·refine rg (q0 (vi a1) (q0 (vi (q6.wrap (a1+1))) (q0 (vp (some (p2.add 5))) (st_set (want0 rfl) (x_store (a:=(p2.add 5)) (v:=(vi (q6.wrap (a1+1)))) (by kernel_rfl) (by kernel_rfl) rfl (Tryz.sizeOf30 _) (hb.canW 0 5 gZ (by kernel_rfl))) ?_))))
                 intro w40 hn8
                 have hsb:Hst w0 H w H17 w40∧HB H17 w40 [(p2,[(vi aP),(vi aH),(vi aI),(vu aQ),(vs aR),(vi (q6.wrap (a1+1))),(vi aT)],86)]:=by
                  rw [hn8]
                  exact hb.set (i:=0) 5 (v:=(vi (q6.wrap (a1+1)))) hs gZ (by kernel_rfl)
                 obtain ⟨hs,hb⟩:=hsb
                 refine wpL_nil (th_n ?_)
                 exact ⟨true,_,hc6,hs,hb,hm⟩
                ·refine wpE_skip (th_n ?_)
                 exact ⟨false,_,hc6,hs,hb,hm⟩
               ·rintro ρ w39 ⟨b20'0,H20,he0,hs,hb,hH⟩
                subst he0
                refine norm_has hH ?_
                refine th_n (wpE_seq (wpE_seq (rg (q0 (vi (q6.wrap r2)) ?_))))
                refine sc Tryz.call46 ((p_A (q6.wrap r2) w39).mono ?_)
                rintro e w41 ⟨he,hE⟩
                refine ⟨(vi (s_A (q6.wrap r2))),he.trans (by kernel_rfl),?_⟩
                have hs:=hs.pure hE
                have hb:=hb.pure hE
                refine q0 (vb (((s_A (q6.wrap r2)):Int) == 2)) (wpL_nil (th_n ?_))
                refine wpE_via (fun ρ wJ=>∃b21'0:Bool,∃HJ:NP,((((s_A (q6.wrap r2)):Int) == 2)=b21'0)∧Hst w0 H w HJ wJ∧HB HJ wJ [(p2,[(vi aP),(vi aH),(vi aI),(vu aQ),(vs aR),(vi (cond (decide ((s_A (q6.wrap r2))≥1)) (q6.wrap (a1+1)) aS)),(vi (cond b21'0 (q6.wrap (b3+1)) aT))],86)]∧Has ρ [(4,(vp (some p1))),(7,(vp (some p2)))]) ?_ ?_
                ·refine wpE_cond (t:=(((s_A (q6.wrap r2)):Int) == 2)) (by kernel_rfl) (fun hc8=>?_) (fun hc8=>?_)
                 ·refine rg (q0 (vi b3) (q0 (vi (q6.wrap (b3+1))) (q0 (vp (some (p2.add 6))) (st_set (want0 rfl) (x_store (a:=(p2.add 6)) (v:=(vi (q6.wrap (b3+1)))) (by kernel_rfl) (by kernel_rfl) rfl (Tryz.sizeOf30 _) (hb.canW 0 6 gZ (by kernel_rfl))) ?_))))
                  intro w44 hn10
                  have hsb:Hst w0 H w H20 w44∧HB H20 w44 [(p2,[(vi aP),(vi aH),(vi aI),(vu aQ),(vs aR),(vi (cond (decide ((s_A (q6.wrap r2))≥1)) (q6.wrap (a1+1)) aS)),(vi (q6.wrap (b3+1)))],86)]:=by
                   rw [hn10]
                   exact hb.set (i:=0) 6 (v:=(vi (q6.wrap (b3+1)))) hs gZ (by kernel_rfl)
                  obtain ⟨hs,hb⟩:=hsb
                  refine wpL_nil (th_n ?_)
                  exact ⟨true,_,hc8,hs,hb,hm⟩
                 ·refine wpE_skip (th_n ?_)
                  exact ⟨false,_,hc8,hs,hb,hm⟩
                ·rintro ρ w43 ⟨b21'0,H21,he0,hs,hb,hH⟩
                 subst he0
                 refine norm_has hH ?_
                 refine th_n (wpE_seq (rg (q2 (.agg #[(vi aP),(vi aH),(vi aI),(vu aQ),(vs aR),(vi (cond (decide ((s_A (q6.wrap r2))≥1)) (q6.wrap (a1+1)) aS)),(vi (cond (((s_A (q6.wrap r2)):Int) == 2) (q6.wrap (b3+1)) aT))]) (x_loadA (a:=p2) (vs:=[(vi aP),(vi aH),(vi aI),(vu aQ),(vs aR),(vi (cond (decide ((s_A (q6.wrap r2))≥1)) (q6.wrap (a1+1)) aS)),(vi (cond (((s_A (q6.wrap r2)):Int) == 2) (q6.wrap (b3+1)) aT))]) (by kernel_rfl) (Tryz.isAgg86 _) (Tryz.sizeOf86 _) rfl (hb.row0 0 7 gZ (by kernel_rfl))) ?_)))
                 have h:=h H21 w43 hs
                 have hs:=hs.here
                 obtain ⟨hp7,hnh,h⟩:=h
                 refine st_set (want0 rfl) (x_storeA (a:=p1) (vs:=[(vi aP),(vi aH),(vi aI),(vu aQ),(vs aR),(vi (cond (decide ((s_A (q6.wrap r2))≥1)) (q6.wrap (a1+1)) aS)),(vi (cond (((s_A (q6.wrap r2)):Int) == 2) (q6.wrap (b3+1)) aT))]) (by kernel_rfl) (by kernel_rfl) rfl (Tryz.sizeOf86 _) rfl hp7) ?_
                 intro w45 hn11
                 have h:=h w45 hn11
                 have hk:Kept H21 w43 w45:=by rw [hn11];exact Kept.storeRow hnh
                 obtain ⟨hs,hb⟩:=hk.hh hs hb
                 refine q0 (vi 0) (wpL_nil (th_n (wpE_ret ?_)))
                 obtain ⟨cQ,cR,cS,cT,cU,cV,cW,hv6,h⟩:=h
                 refine resG (.inl rfl) (vs:=[(.agg #[(vi cQ),(vi cR),(vi cS),(vu cT),(vs cU),(vi cV),(vi cW)]),(vi 0)]) (v:=(.tuple #[(.agg #[(vi cQ),(vi cR),(vi cS),(vu cT),(vs cU),(vi cV),(vi cW)]),(vi 0)])) Tryz.results40 ⟨(RV.cellA (by kernel_rfl) (Tryz.isAgg86 _) (Tryz.sizeOf86 _) rfl hv6),(rvT (by kernel_rfl)),trivial⟩ (by kernel_rfl) ?_
                 exact ⟨cQ,cR,cS,cT,cU,cV,cW,0,rfl,h⟩
         ·refine wpE_cond (t:=(((s_A (q6.wrap r2)):Int) == 2)) (by kernel_rfl) (fun hc9=>?_) (fun hc9=>?_)
          ·have h:=h.1 hc9
           refine rg (q0 (vp r1) ?_)
           have h:=h w10 hs
           have hs:=hs.here
           refine sc Tryz.call84 (h.mono ?_)
           rintro e w46 ⟨r3,rfl,hk,h⟩
           refine ⟨_,rfl,?_⟩
           obtain ⟨hs,hb⟩:=hk.hh hs hb
           refine sc Tryz.call83 ((p_B r3 w46).mono ?_)
           rintro e w47 ⟨he,hE⟩
           refine ⟨(vi (s_B r3)),he.trans (by kernel_rfl),?_⟩
           have hs:=hs.pure hE
           have hb:=hb.pure hE
           refine q0 (vi (s_B r3)) (wpL_nil ?_)
           have h:=h w47 hs
           have hs:=hs.here
           refine th_n ?_
           exact ⟨(s_B r3),H,hm,hs,hb,h⟩
          ·have h:=h.2 hc9
           refine wpE_skip ?_
           have h:=h w10 hs
           have hs:=hs.here
           refine th_n ?_
           exact ⟨0,H,hm,hs,hb,h⟩
        ·refine wpE_cond (t:=(decide ((s_A (q6.wrap r2))≥1))) (by kernel_rfl) (fun hc10=>?_) (fun hc10=>?_)
         ·have h:=h.1 hc10
          refine rg (q0 (vp r1) ?_)
          have h:=h w9 hs
          have hs:=hs.here
          refine sc Tryz.call84 (h.mono ?_)
          rintro e w48 ⟨r4,rfl,hk,h⟩
          refine ⟨_,rfl,?_⟩
          obtain ⟨hs,hb⟩:=hk.hh hs hb
          refine sc Tryz.call83 ((p_B r4 w48).mono ?_)
          rintro e w49 ⟨he,hE⟩
          refine ⟨(vi (s_B r4)),he.trans (by kernel_rfl),?_⟩
          have hs:=hs.pure hE
          have hb:=hb.pure hE
          refine q0 (vi (s_B r4)) (wpL_nil ?_)
          have h:=h w49 hs
          have hs:=hs.here
          refine th_n ?_
          exact ⟨(s_B r4),H,hm,hs,hb,h⟩
         ·have h:=h.2 hc10
          refine wpE_skip ?_
          have h:=h w9 hs
          have hs:=hs.here
          refine th_n ?_
          exact ⟨0,H,hm,hs,hb,h⟩
       ·refine wpE_cond (t:=(((q6.wrap r2):Int) == 3)) (by kernel_rfl) (fun hc11=>?_) (fun hc11=>?_)
        ·have h:=h.1 hc11
         refine rg (q0 (vp r1) ?_)
         refine sc Tryz.call85 (h.mono ?_)
         rintro e w50 ⟨r5,rfl,hk,h⟩
         refine ⟨_,rfl,?_⟩
         obtain ⟨hs,hb⟩:=hk.hh hs hb
         refine q0 (vp (some (p2.add 4))) (st_set (want0 rfl) (x_store (a:=(p2.add 4)) (v:=(vs r5)) (by kernel_rfl) (by kernel_rfl) rfl (Tryz.sizeOf9 _) (hb.canW 0 4 gZ (by kernel_rfl))) ?_)
         intro w51 hn12
         have hsb:Hst w0 H w50 H w51∧HB H w51 [(p2,[(vi bI),(vi bJ),(vi bK),(vu bL),(vs r5),(vi bM),(vi bN)],86)]:=by
          rw [hn12]
          exact hb.set (i:=0) 4 (v:=(vs r5)) hs gZ (by kernel_rfl)
         obtain ⟨hs,hb⟩:=hsb
         refine wpL_nil ?_
         have h:=h w51 hs
         have hs:=hs.here
         refine th_n ?_
         exact ⟨bI,bJ,bK,bL,r5,bM,bN,H,hm,hs,hb,h⟩
        ·have h:=h.2 hc11
         refine wpE_skip (th_n ?_)
         exact ⟨bI,bJ,bK,bL,cX,bM,bN,H,hm,hs,hb,h⟩
      ·refine wpE_cond (t:=(((q6.wrap r2):Int) == 2)) (by kernel_rfl) (fun hc12=>?_) (fun hc12=>?_)
       ·have h:=h.1 hc12
        refine rg (q0 (vp r1) ?_)
        refine sc Tryz.call84 (h.mono ?_)
        rintro e w52 ⟨r6,rfl,hk,h⟩
        refine ⟨_,rfl,?_⟩
        obtain ⟨hs,hb⟩:=hk.hh hs hb
        refine q0 (vp (some (p2.add 3))) (st_set (want0 rfl) (x_store (a:=(p2.add 3)) (v:=(vu r6)) (by kernel_rfl) (by kernel_rfl) rfl (Tryz.sizeOf47 _) (hb.canW 0 3 gZ (by kernel_rfl))) ?_)
        intro w53 hn13
        have hsb:Hst w0 H w52 H w53∧HB H w53 [(p2,[(vi bO),(vi bP),(vi bQ),(vu r6),(vs bR),(vi bS),(vi bT)],86)]:=by
         rw [hn13]
         exact hb.set (i:=0) 3 (v:=(vu r6)) hs gZ (by kernel_rfl)
        obtain ⟨hs,hb⟩:=hsb
        refine wpL_nil ?_
        have h:=h w53 hs
        have hs:=hs.here
        refine th_n ?_
        exact ⟨bO,bP,bQ,r6,bR,bS,bT,H,hm,hs,hb,h⟩
       ·have h:=h.2 hc12
        refine wpE_skip (th_n ?_)
        exact ⟨bO,bP,bQ,cY,bR,bS,bT,H,hm,hs,hb,h⟩
     ·refine wpE_cond (t:=((((q6.wrap r2):Int) == 8) || (((q6.wrap r2):Int) == 9))) (by kernel_rfl) (fun hc13=>?_) (fun hc13=>?_)
      ·have h:=h.1 hc13
       refine rg (q0 (vp r1) ?_)
       have h:=h H3 w8 hs
       have hs:=hs.here
       refine sc Tryz.call84 (h.mono ?_)
       rintro e w54 ⟨r7,rfl,hk,h⟩
       refine ⟨_,rfl,?_⟩
       obtain ⟨hs,hb⟩:=hk.hh hs hb
       refine sc Tryz.call83 ((p_B r7 w54).mono ?_)
       rintro e w55 ⟨he,hE⟩
       refine ⟨(vi (s_B r7)),he.trans (by kernel_rfl),?_⟩
       have hs:=hs.pure hE
       have hb:=hb.pure hE
       refine q0 (vp (some (p2.add 2))) (st_set (want0 rfl) (x_store (a:=(p2.add 2)) (v:=(vi (s_B r7))) (by kernel_rfl) (by kernel_rfl) rfl (Tryz.sizeOf3 _) (hb.canW 0 2 gZ (by kernel_rfl))) ?_)
       intro w56 hn14
       have hsb:Hst w0 H3 w54 H3 w56∧HB H3 w56 [(p2,[(vi aB),(vi aA),(vi (s_B r7)),(vu aD),(vs aE),(vi aF),(vi aG)],86)]:=by
        rw [hn14]
        exact hb.set (i:=0) 2 (v:=(vi (s_B r7))) hs gZ (by kernel_rfl)
       obtain ⟨hs,hb⟩:=hsb
       refine wpL_nil ?_
       have h:=h w56 hs
       have hs:=hs.here
       refine th_n ?_
       exact ⟨aB,aA,(s_B r7),aD,aE,aF,aG,H3,hm,hs,hb,h⟩
      ·have h:=h.2 hc13
       refine wpE_skip ?_
       have h:=h H3 w8 hs
       have hs:=hs.here
       refine th_n ?_
       exact ⟨aB,aA,aC,aD,aE,aF,aG,H3,hm,hs,hb,h⟩
   ·refine wpE_cond (t:=(s_J (q6.wrap r2))) (by kernel_rfl) (fun hc14=>?_) (fun hc14=>?_)
    ·have h:=h.1 hc14
     refine rg (q0 (vp r1) ?_)
     have h:=h H2 w7 hs
     have hs:=hs.here
     refine sc Tryz.call84 (h.mono ?_)
     rintro e w57 ⟨r8,rfl,hk,h⟩
     refine ⟨_,rfl,?_⟩
     obtain ⟨hs,hb⟩:=hk.hh hs hb
     refine sc Tryz.call83 ((p_B r8 w57).mono ?_)
     rintro e w58 ⟨he,hE⟩
     refine ⟨(vi (s_B r8)),he.trans (by kernel_rfl),?_⟩
     have hs:=hs.pure hE
     have hb:=hb.pure hE
     refine q0 (vp (some (p2.add 1))) (st_set (want0 rfl) (x_store (a:=(p2.add 1)) (v:=(vi (s_B r8))) (by kernel_rfl) (by kernel_rfl) rfl (Tryz.sizeOf3 _) (hb.canW 0 1 gZ (by kernel_rfl))) ?_)
     intro w59 hn15
     have hsb:Hst w0 H2 w57 H2 w59∧HB H2 w59 [(p2,[(vi (q6.wrap r2)),(vi (s_B r8)),(vi 0),(vu 0),(vs ⟨#[]⟩),(vi 0),(vi 0)],86)]:=by
      rw [hn15]
      exact hb.set (i:=0) 1 (v:=(vi (s_B r8))) hs gZ (by kernel_rfl)
     obtain ⟨hs,hb⟩:=hsb
     refine wpL_nil ?_
     have h:=h w59 hs
     have hs:=hs.here
     refine th_n ?_
     exact ⟨(q6.wrap r2),(s_B r8),0,0,⟨#[]⟩,0,0,H2,hm,hs,hb,h⟩
    ·have h:=h.2 hc14
     refine wpE_skip ?_
     have h:=h H2 w7 hs
     have hs:=hs.here
     refine th_n ?_
     exact ⟨(q6.wrap r2),0,0,0,⟨#[]⟩,0,0,H2,hm,hs,hb,h⟩
def m_T_l2 (r1:Option Addr) (places1 r7:Sl) (i1:Int) (w0:World) (Hl2:NP) (wl2:World) (Kc2:Int→NP→WP) (K:(Option Addr)→Int→Int→WP):Prop :=
 ∃a6:Addr,r1=some a6 ∧
 ∃v6:Sl,wl2.cell? a6=some v6.v ∧
 Br (decide (i1<(v6.len:Int)))
  (Br (decide (i1≥(r7.len:Int)))
   (∃a7:Addr,At places1 i1 1 a7 ∧
   ∀(w11:World),Hst w0 Hl2 wl2 Hl2 w11 →
   ∃v7:Int,w11.cell? a7=some (vi v7) ∧
   K none 73 v7 w11)
   (∃a8:Addr,At r7 i1 1 a8 ∧
   ∃v8:Int,wl2.cell? a8=some (vi v8) ∧
   Br (v8 != (q6.wrap (i1+1)))
    (∃a9:Addr,At places1 i1 1 a9 ∧
    ∀(w12:World),Hst w0 Hl2 wl2 Hl2 w12 →
    ∃v9:Int,w12.cell? a9=some (vi v9) ∧
    K none 73 v9 w12)
    (Kc2 (q6.wrap (i1+1)) Hl2 wl2)))
  (K r1 0 0 wl2)
def m_T_l1 (r1:Option Addr) (r2:Option Addr) (places1:Sl) (w0:World) (Hl1:NP) (wl1:World) (Kc1:Sl→NP→WP) (K:(Option Addr)→Int→Int→WP):Prop :=
 Calls Tryz.prog 39 #[(vp r2)] wl1 (fun e w3=>∃r3:Int,e=.returned (vi r3)∧
  Kept Hl1 wl1 w3 ∧
  Br (decide (r3>0))
   (∃a1:Addr,r2=some a1 ∧
   ∃v1:Int,w3.cell? (a1.add 1)=some (vi v1) ∧
   ∃a2:Addr,r1=some a2 ∧
   ∃v2:Sl,w3.cell? a2=some v2.v ∧
   Calls Tryz.prog 40 #[(vp r2),(vi (v2.len:Int))] w3 (fun e w4=>∃aK aL:Int,∃aM aN:Int,∃aO:ByteArray,∃aU aV r4:Int,e=.returned (.tuple #[(.agg #[(vi aK),(vi aL),(vi aM),(vu aN),(vs aO),(vi aU),(vi aV)]),(vi r4)])∧
    Kept Hl1 w3 w4 ∧
    Br (r4 != 0)
     (∀(H1:NP) (w6:World),Hst w0 Hl1 w4 H1 w6 →
     K none r4 v1 w6)
     (∃a3:Addr,r1=some a3 ∧
     ∀(H1:NP) (w6:World),Hst w0 Hl1 w4 H1 w6 →
     ∃v3:Sl,w6.cell? a3=some v3.v ∧
     Calls Tryz.prog 41 #[(vp r1),(.agg #[(vi aK),(vi aL),(vi aM),(vu aN),(vs aO),(vi aU),(vi aV)])] w6 (fun e w7=>∃r5 r6:Int,e=.returned (.tuple #[(vi r5),(vi r6)])∧
      Kept H1 w6 w7 ∧
      Br (r6 != 0)
       (K none r6 v1 w7)
       (∃a4:Addr,r1=some a4 ∧
       ∃v4:Sl,w7.cell? a4=some v4.v ∧
       Br (((v4.len:Int):Int) == (v3.len:Int))
        (K none 72 v1 w7)
        (∀(p2:Addr) (w8:World),New w7 (.cells #[(vi v1)] 3) p2 w8 →
        ∃s1:Sl,∃w9:World,(Builtin.append_ #[43,43] 43 #[places1.v,(Sl.mk (some p2) 1 1).v]).run Tryz.prog w8=.ok s1.v w9 ∧
        Kept H1 w8 w9 ∧
        Kc1 s1 H1 w9))))))
   (∃a5:Addr,r1=some a5 ∧
   ∃v5:Sl,w3.cell? a5=some v5.v ∧
   Calls Tryz.prog 42 #[(vp r1),(vi (v5.len:Int))] w3 (fun e w10=>∃r7:Sl,e=.returned r7.v∧
    Kept Hl1 w3 w10 ∧
    ∃(I2:Int→NP→WP) (mu2:Int→World→Nat),I2 0 Hl1 w10 ∧
     ∀(i1:Int) (Hl2:NP) (wl2:World),Hst w0 Hl2 wl2 Hl2 wl2→I2 i1 Hl2 wl2→m_T_l2 r1 places1 r7 i1 w0 Hl2 wl2 (fun y'0 H' w'=>I2 y'0 H' w'∧mu2 y'0 w'<mu2 i1 wl2) K)))
def m_T (b1:Sl) (w0:World) (K:(Option Addr)→Int→Int→WP):Prop :=
 Calls Tryz.prog 31 #[] w0 (fun e w1=>∃r1:Option Addr,e=.returned (vp r1)∧
  Kept None w0 w1 ∧
  Br (decide ((b1.len:Int)>4096))
   (K none 1 0 w1)
   (Br (((b1.len:Int):Int) == 0)
    (K none 3 0 w1)
    (Calls Tryz.prog 38 #[b1.v] w1 (fun e w2=>∃r2:Option Addr,e=.returned (vp r2)∧
     Kept None w1 w2 ∧
     ∃(I1:Sl→NP→WP) (mu1:Sl→World→Nat),I1 Sl.nil None w2 ∧
      ∀(places1:Sl) (Hl1:NP) (wl1:World),Hst w0 Hl1 wl1 Hl1 wl1→I1 places1 Hl1 wl1→m_T_l1 r1 r2 places1 w0 Hl1 wl1 (fun y'0 H' w'=>I1 y'0 H' w'∧mu1 y'0 w'<mu1 places1 wl1) K))))
theorem w_T (b1 : Sl) (w0 : World) (K : (Option Addr) → Int → Int → WP) (h : m_T b1 w0 K) :
  Calls Tryz.prog 11 #[b1.v] w0 (fun e w'=>∃r8:Option Addr,∃r9 r10:Int,e=.returned (.tuple #[(vp r8),(vi r9),(vi r10)])∧K r8 r9 r10 w'):=by
 unfold m_T at h
 refine cw (args:=[b1.v]) Tryz.func11 Tryz.ntmps11 ?_
 have hs:=Hst.start w0
 have hb:=HB.nil None w0
 refine wpE_seq (rg (q0 (vp none) (q0 (vi 0) (q0 (vi 0) (wpL_nil (th_n (wpE_seq (rg ?_))))))))
 refine sc Tryz.call31 (h.mono ?_)
 rintro e w1 ⟨r1,rfl,hk,h⟩
 refine ⟨_,rfl,?_⟩
 obtain ⟨hs,hb⟩:=hk.hh hs hb
 refine q0 (vp r1) (wpL_nil (th_n (wpE_seq (wpE_seq (rg (q0 b1.v (q0 (vi (b1.len:Int)) (q0 (vb (decide ((b1.len:Int)>4096))) (wpL_nil (th_n ?_))))))))))
 refine wpE_cond (t:=(decide ((b1.len:Int)>4096))) (by kernel_rfl) (fun hc1=>?_) (fun hc1=>?_)
 ·have h:=h.1 hc1
  refine wpE_seq (rg (q0 (vp none) (q0 (vi 1) (q0 (vi 0) (wpL_nil (th_n (wpE_ret (th_r (res3 (.inl rfl) Tryz.results11 (v:=(vp none)) (by kernel_rfl) (v':=(vi 1)) (by kernel_rfl) (v'':=(vi 0)) (by kernel_rfl) ?_)))))))))
  exact ⟨none,1,0,rfl,h⟩
 ·have h:=h.2 hc1
  refine wpE_skip (th_n (wpE_seq (wpE_seq (rg (q0 b1.v (q0 (vi (b1.len:Int)) (q0 (vb (((b1.len:Int):Int) == 0)) (wpL_nil (th_n ?_)))))))))
  refine wpE_cond (t:=(((b1.len:Int):Int) == 0)) (by kernel_rfl) (fun hc2=>?_) (fun hc2=>?_)
  ·have h:=h.1 hc2
   refine wpE_seq (rg (q0 (vp none) (q0 (vi 3) (q0 (vi 0) (wpL_nil (th_n (wpE_ret (th_r (res3 (.inl rfl) Tryz.results11 (v:=(vp none)) (by kernel_rfl) (v':=(vi 3)) (by kernel_rfl) (v'':=(vi 0)) (by kernel_rfl) ?_)))))))))
   exact ⟨none,3,0,rfl,h⟩
  ·have h:=h.2 hc2
   refine wpE_skip (th_n (wpE_seq (rg (q0 b1.v ?_))))
   refine sc Tryz.call38 (h.mono ?_)
   rintro e w2 ⟨r2,rfl,hk,h⟩
   refine ⟨_,rfl,?_⟩
   obtain ⟨hs,hb⟩:=hk.hh hs hb
   refine q0 (vp r2) (wpL_nil (th_n (wpE_seq (rg (q0 Sl.nil.v (wpL_nil (th_n (wpE_seq (wpE_block ?_)))))))))
   obtain ⟨I1,mu1,h0,hr⟩:=h
   refine wpE_loop (σ:=Sl×NP×World) (fun s ρ w=>w=s.2.2∧Has ρ [(5,(vp r1)),(6,(vp r2)),(7,s.1.v)]∧Hst w0 s.2.1 w s.2.1 w∧HB s.2.1 w []∧I1 s.1 s.2.1 s.2.2) (fun s=>mu1 s.1 s.2.2) (Sl.nil,None,w2) ⟨rfl,hm,hs,hb,h0⟩ ?_
   rintro ⟨places1,Hl1,wl1⟩ ρ w ⟨hw,hH,hs,hb,hI⟩
   obtain rfl:wl1=w:=(show w=wl1 from hw).symm
   have hH:Has ρ [(5,(vp r1)),(6,(vp r2)),(7,places1.v)]:=hH
   have hs:Hst w0 Hl1 wl1 Hl1 wl1:=hs
   have hb:HB Hl1 wl1 []:=hb
   have h:=hr places1 Hl1 wl1 hs hI
   unfold m_T_l1 at h
   refine wpE_has hH ?_
   refine wpE_seq (wpE_seq (rg (q0 (vp r2) ?_)))
   refine sc Tryz.call39 (h.mono ?_)
   rintro e w3 ⟨r3,rfl,hk,h⟩
   refine ⟨_,rfl,?_⟩
   obtain ⟨hs,hb⟩:=hk.hh hs hb
   refine q0 (vb (decide (r3>0))) (wpL_nil (th_n ?_))
   refine wpE_cond (t:=(decide (r3>0))) (by kernel_rfl) (fun hc3=>?_) (fun hc3=>?_)
   ·have h:=h.1 hc3
    refine wpE_skip (th_n (wpE_block (wpE_seq (rg (q0 (vp r2) ?_)))))
    obtain ⟨a1,hp1,h⟩:=h
    refine q2 (vp (some a1)) (x_nilCheck (p:=r2) (by kernel_rfl) hp1) (q0 (vp (some (a1.add 1))) ?_)
    obtain ⟨v1,hv5,h⟩:=h
    refine q2 (vi v1) (xl (Tryz.isAgg3 _) hv5) (q0 (vi v1) (wpL_nil (th_n (wpE_seq (rg (q0 (vp r2) (q0 (vp r1) ?_)))))))
    obtain ⟨a2,hp2,h⟩:=h
    refine q2 (vp (some a2)) (x_nilCheck (p:=r1) (by kernel_rfl) hp2) (q0 (vp (some a2)) ?_)
    obtain ⟨v2,hv4,h⟩:=h
    refine q2 v2.v (xl (Tryz.isAgg42 _) hv4) (q0 (vi (v2.len:Int)) ?_)
    refine sc Tryz.call40 (h.mono ?_)
    rintro e w4 ⟨aK,aL,aM,aN,aO,aU,aV,r4,rfl,hk,h⟩
    refine ⟨_,rfl,?_⟩
    obtain ⟨hs,hb⟩:=hk.hh hs hb
    refine q0 (.tuple #[(.agg #[(vi aK),(vi aL),(vi aM),(vu aN),(vs aO),(vi aU),(vi aV)]),(vi r4)]) (q0 (.agg #[(vi aK),(vi aL),(vi aM),(vu aN),(vs aO),(vi aU),(vi aV)]) (q0 (vi r4) (sn (O:=(.cells #[(vi 0),(vi 0),(vi 0),(vu 0),(vs ⟨#[]⟩),(vi 0),(vi 0)] 86)) (x_alloc (Tryz.zeroValue86 _) rfl) ?_)))
    intro p1 w5 hn1
    obtain ⟨H1,hs,hb⟩:=hs.alloc hb hn1
    refine st_set (want0 rfl) (x_storeA (a:=p1) (vs:=[(vi aK),(vi aL),(vi aM),(vu aN),(vs aO),(vi aU),(vi aV)]) (by kernel_rfl) (by kernel_rfl) rfl (Tryz.sizeOf86 _) rfl (hb.canWs0 0 7 gZ (by kernel_rfl))) ?_
    intro w6 hn2
    have hsb:Hst w0 Hl1 w4 H1 w6∧HB H1 w6 [(p1,[(vi aK),(vi aL),(vi aM),(vu aN),(vs aO),(vi aU),(vi aV)],86)]:=by
     rw [hn2]
     exact hb.store0 (i:=0) (vs:=[(vi aK),(vi aL),(vi aM),(vu aN),(vs aO),(vi aU),(vi aV)]) hs gZ (by kernel_rfl) (by kernel_rfl)
    obtain ⟨hs,hb⟩:=hsb
    refine q0 (vi r4) (wpL_nil (th_n (wpE_seq (wpE_seq (rg (q0 (vi r4) (q0 (vb (r4 != 0)) (wpL_nil (th_n ?_)))))))))
    refine wpE_cond (t:=(r4 != 0)) (by kernel_rfl) (fun hc4=>?_) (fun hc4=>?_)
    ·have h:=h.1 hc4
     refine wpE_seq (rg (q0 (vi r4) (q0 (vi v1) (q0 (vp none) (q0 (vi r4) (q0 (vi v1) (wpL_nil (th_n (wpE_ret (th_r (bl_r ?_)))))))))))
     refine th_r (bl_r (th_r ?_))
     have h:=h H1 w6 hs
     have hs:=hs.here
     refine res3 (.inl rfl) Tryz.results11 (v:=(vp none)) (by kernel_rfl) (v':=(vi r4)) (by kernel_rfl) (v'':=(vi v1)) (by kernel_rfl) ?_
     exact ⟨none,r4,v1,rfl,h⟩
    ·have h:=h.2 hc4
     refine wpE_skip (th_n (wpE_seq (rg (q0 (vp r1) ?_))))
     obtain ⟨a3,hp3,h⟩:=h
     refine q2 (vp (some a3)) (x_nilCheck (p:=r1) (by kernel_rfl) hp3) (q0 (vp (some a3)) ?_)
     have h:=h H1 w6 hs
     have hs:=hs.here
     obtain ⟨v3,hv3,h⟩:=h
     refine q2 v3.v (xl (Tryz.isAgg42 _) hv3) (q0 (vi (v3.len:Int)) (q0 (vi (v3.len:Int)) (wpL_nil (th_n (wpE_seq (rg (q0 (vp r1) (q2 (.agg #[(vi aK),(vi aL),(vi aM),(vu aN),(vs aO),(vi aU),(vi aV)]) (x_loadA (a:=p1) (vs:=[(vi aK),(vi aL),(vi aM),(vu aN),(vs aO),(vi aU),(vi aV)]) (by kernel_rfl) (Tryz.isAgg86 _) (Tryz.sizeOf86 _) rfl (hb.row0 0 7 gZ (by kernel_rfl))) ?_))))))))
     refine sc Tryz.call41 (h.mono ?_)
     rintro e w7 ⟨r5,r6,rfl,hk,h⟩
     refine ⟨_,rfl,?_⟩
     obtain ⟨hs,hb⟩:=hk.hh hs hb
     refine q0 (.tuple #[(vi r5),(vi r6)]) (q0 (vi r5) (q0 (vi r6) (q0 (vi r6) (wpL_nil (th_n (wpE_seq (wpE_seq (rg (q0 (vi r6) (q0 (vb (r6 != 0)) (wpL_nil ?_)))))))))))
     refine th_n ?_
     refine wpE_cond (t:=(r6 != 0)) (by kernel_rfl) (fun hc5=>?_) (fun hc5=>?_)
     ·have h:=h.1 hc5
      refine wpE_seq (rg (q0 (vi r6) (q0 (vi v1) (q0 (vp none) (q0 (vi r6) (q0 (vi v1) (wpL_nil (th_n (wpE_ret (th_r (bl_r ?_)))))))))))
      refine th_r (bl_r (th_r (res3 (.inl rfl) Tryz.results11 (v:=(vp none)) (by kernel_rfl) (v':=(vi r6)) (by kernel_rfl) (v'':=(vi v1)) (by kernel_rfl) ?_)))
      exact ⟨none,r6,v1,rfl,h⟩
     ·have h:=h.2 hc5
      refine wpE_skip (th_n (wpE_seq (wpE_seq (rg (q0 (vp r1) ?_)))))
      obtain ⟨a4,hp4,h⟩:=h
      refine q2 (vp (some a4)) (x_nilCheck (p:=r1) (by kernel_rfl) hp4) (q0 (vp (some a4)) ?_)
      obtain ⟨v4,hv2,h⟩:=h
      refine q2 v4.v (xl (Tryz.isAgg42 _) hv2) (q0 (vi (v4.len:Int)) (q0 (vi (v3.len:Int)) (q0 (vb (((v4.len:Int):Int) == (v3.len:Int))) (wpL_nil (th_n ?_)))))
      refine wpE_cond (t:=(((v4.len:Int):Int) == (v3.len:Int))) (by kernel_rfl) (fun hc6=>?_) (fun hc6=>?_)
      ·have h:=h.1 hc6
       refine wpE_seq (rg (q0 (vi v1) (q0 (vp none) (q0 (vi 72) (q0 (vi v1) (wpL_nil (th_n (wpE_ret (th_r (bl_r (th_r ?_)))))))))))
       refine bl_r (th_r (res3 (.inl rfl) Tryz.results11 (v:=(vp none)) (by kernel_rfl) (v':=(vi 72)) (by kernel_rfl) (v'':=(vi v1)) (by kernel_rfl) ?_))
       exact ⟨none,72,v1,rfl,h⟩
      ·have h:=h.2 hc6
       refine wpE_skip (th_n (rg (q0 places1.v (q0 (vi v1) (st_new (O:=(.cells #[(vi v1)] 3)) (fun p=>(Sl.mk (some p) 1 1).v) (want0 rfl) (x_buildSlice (vs:=#[(0,(vi v1))]) (by kernel_rfl) (by kernel_rfl)) ?_)))))
       intro p2 w8 hn3
       have h:=h p2 w8 hn3
       have hs:=hs.again (Ext.new (F:=None) hn3).keptP
       have hb:=hb.kept (Ext.new (F:=None) hn3).keptP
       obtain ⟨s1,w9,hv1,hk,h⟩:=h
       refine st (v:=s1.v) (want0 rfl) (x_builtin (args:=#[places1.v,(Sl.mk (some p2) 1 1).v]) (by kernel_rfl) (fun _=>rfl) hv1) ?_
       obtain ⟨hs,hb⟩:=hk.hh hs hb
       refine q0 s1.v (wpL_nil (bl_n (th_n ?_)))
       exact ⟨(s1,H1,w9),⟨rfl,hm,hs,hb.drop 1,h.1⟩,h.2⟩
   ·have h:=h.2 hc3
    refine wpE_exit (th_x (th_x (bl_eq (th_n (wpE_seq (rg (q0 (vp r1) (q0 (vp r1) ?_))))))))
    obtain ⟨a5,hp5,h⟩:=h
    refine q2 (vp (some a5)) (x_nilCheck (p:=r1) (by kernel_rfl) hp5) (q0 (vp (some a5)) ?_)
    obtain ⟨v5,hv13,h⟩:=h
    refine q2 v5.v (xl (Tryz.isAgg42 _) hv13) (q0 (vi (v5.len:Int)) ?_)
    refine sc Tryz.call42 (h.mono ?_)
    rintro e w10 ⟨r7,rfl,hk,h⟩
    refine ⟨_,rfl,?_⟩
    obtain ⟨hs,hb⟩:=hk.hh hs hb
    refine q0 r7.v (wpL_nil (th_n (wpE_seq (wpE_seq (rg (q0 (vi 0) (wpL_nil (th_n (wpE_block ?_)))))))))
    obtain ⟨I2,mu2,h0,hr⟩:=h
    refine wpE_loop (σ:=Int×NP×World) (fun s ρ w=>w=s.2.2∧Has ρ [(5,(vp r1)),(7,places1.v),(12,r7.v),(13,(vi s.1))]∧Hst w0 s.2.1 w s.2.1 w∧HB s.2.1 w []∧I2 s.1 s.2.1 s.2.2) (fun s=>mu2 s.1 s.2.2) (0,Hl1,w10) ⟨rfl,hm,hs,hb,h0⟩ ?_
    rintro ⟨i1,Hl2,wl2⟩ ρ w ⟨hw,hH,hs,hb,hI⟩
    obtain rfl:wl2=w:=(show w=wl2 from hw).symm
    have hH:Has ρ [(5,(vp r1)),(7,places1.v),(12,r7.v),(13,(vi i1))]:=hH
    have hs:Hst w0 Hl2 wl2 Hl2 wl2:=hs
    have hb:HB Hl2 wl2 []:=hb
    have h:=hr i1 Hl2 wl2 hs hI
    unfold m_T_l2 at h
    refine wpE_has hH ?_
    refine wpE_seq (wpE_seq (rg (q0 (vi i1) (q0 (vp r1) ?_))))
    obtain ⟨a6,hp6,h⟩:=h
    refine q2 (vp (some a6)) (x_nilCheck (p:=r1) (by kernel_rfl) hp6) (q0 (vp (some a6)) ?_)
    obtain ⟨v6,hv12,h⟩:=h
    refine q2 v6.v (xl (Tryz.isAgg42 _) hv12) (q0 (vi (v6.len:Int)) (q0 (vb (decide (i1<(v6.len:Int)))) (wpL_nil (th_n ?_))))
    refine wpE_cond (t:=(decide (i1<(v6.len:Int)))) (by kernel_rfl) (fun hc7=>?_) (fun hc7=>?_)
    ·have h:=h.1 hc7
     refine wpE_skip (th_n (wpE_seq (wpE_block (wpE_seq (rg (q0 (vi i1) (q0 r7.v (q0 (vi (r7.len:Int)) (q0 (vb (decide (i1≥(r7.len:Int)))) (q0 (vb (decide (i1≥(r7.len:Int)))) ?_))))))))))
     rcases Bool.eq_false_or_eq_true (decide (i1≥(r7.len:Int))) with hg1 | hg1
     ·have h:=h.1 hg1
      refine sk (yD 91 hg1) (sk (yD 91 hg1) (sk (yD 91 hg1) (sk (yD 91 hg1) (sk (yD 91 hg1) (sk (yD 91 hg1) (sk (yD 91 hg1) (q2 (vb true) (xT hg1) (wpL_nil (th_n (wpE_condT (by kernel_rfl) (wpE_seq ?_)))))))))))
      refine wpE_drawnQ (by kernel_rfl) (by kernel_rfl) (by kernel_rfl) (by kernel_rfl) ?_
      intro w11 hw11
      have hs:Hst w0 Hl2 wl2 Hl2 w11:=by rw [hw11];exact hs.drew
      have hb:HB Hl2 w11 []:=by rw [hw11];exact hb.drew
      refine qq 0 places1.v Kp0 (qq 1 (vi i1) Kp1 (qg 2 ?_))
      obtain ⟨a7,hv7,h⟩:=h
      refine sxQ (v:=(vp (some a7))) Kp2 (want0 rfl) rfl (xi (Tryz.runUnderlying43 _) (Tryz.sizeOf3 _) hv7) (qg 3 ?_)
      have h:=h w11 hs
      have hs:=hs.here
      obtain ⟨v7,hv6,h⟩:=h
      refine sxQ (v:=(vi v7)) Kp3 (want0 rfl) rfl (xl (Tryz.isAgg3 _) hv6) (qq 4 (vp none) Kp4 (qq 5 (vi 73) Kp5 (qq 6 (vi v7) Kp6 (wn (th_n (wpE_ret (bl_r (th_r (th_r (bl_r (th_r ?_)))))))))))
      refine res3 (.inl rfl) Tryz.results11 (v:=(vp none)) (by kernel_rfl) (v':=(vi 73)) (by kernel_rfl) (v'':=(vi v7)) (by kernel_rfl) ?_
      exact ⟨none,73,v7,rfl,h⟩
     ·have h:=h.2 hg1
      refine q1 r7.v (want1 rfl (yD 91 hg1)) (q1 (vi i1) (want1 rfl (yD 91 hg1)) ?_)
      obtain ⟨a8,hv11,h⟩:=h
      refine stp (v:=(vp (some a8))) (want1 rfl (yD 91 hg1)) (xi (Tryz.runUnderlying52 _) (Tryz.sizeOf30 _) hv11) ?_
      obtain ⟨v8,hv10,h⟩:=h
      refine stp (v:=(vi v8)) (want1 rfl (yD 91 hg1)) (xl (Tryz.isAgg30 _) hv10) (q1 (vi i1) (want1 rfl (yD 91 hg1)) (q1 (vi (q6.wrap (i1+1))) (want1 rfl (yD 91 hg1)) (q1 (vb (v8 != (q6.wrap (i1+1)))) (want1 rfl (yD 91 hg1)) (q2 (vb (v8 != (q6.wrap (i1+1)))) (xF hg1) (wpL_nil (th_n ?_))))))
      refine wpE_cond (t:=(v8 != (q6.wrap (i1+1)))) (by kernel_rfl) (fun hc8=>?_) (fun hc8=>?_)
      ·have h:=h.1 hc8
       refine wpE_seq (wpE_drawnQ (by kernel_rfl) (by kernel_rfl) (by kernel_rfl) (by kernel_rfl) ?_)
       intro w12 hw12
       have hs:Hst w0 Hl2 wl2 Hl2 w12:=by rw [hw12];exact hs.drew
       have hb:HB Hl2 w12 []:=by rw [hw12];exact hb.drew
       refine qq 0 places1.v Kp0 (qq 1 (vi i1) Kp1 (qg 2 ?_))
       obtain ⟨a9,hv9,h⟩:=h
       refine sxQ (v:=(vp (some a9))) Kp2 (want0 rfl) rfl (xi (Tryz.runUnderlying43 _) (Tryz.sizeOf3 _) hv9) (qg 3 ?_)
       have h:=h w12 hs
       have hs:=hs.here
       obtain ⟨v9,hv8,h⟩:=h
       refine sxQ (v:=(vi v9)) Kp3 (want0 rfl) rfl (xl (Tryz.isAgg3 _) hv8) (qq 4 (vp none) Kp4 (qq 5 (vi 73) Kp5 (qq 6 (vi v9) Kp6 (wn (th_n (wpE_ret (bl_r (th_r (th_r (bl_r (th_r ?_)))))))))))
       refine res3 (.inl rfl) Tryz.results11 (v:=(vp none)) (by kernel_rfl) (v':=(vi 73)) (by kernel_rfl) (v'':=(vi v9)) (by kernel_rfl) ?_
       exact ⟨none,73,v9,rfl,h⟩
      ·have h:=h.2 hc8
       refine wpE_skip (bl_n (th_n (rg (q0 (vi i1) (q0 (vi (q6.wrap (i1+1))) (q0 (vi (q6.wrap (i1+1))) (wpL_nil (th_n ?_))))))))
       exact ⟨((q6.wrap (i1+1)),Hl2,wl2),⟨rfl,hm,hs,hb,h.1⟩,h.2⟩
    ·have h:=h.2 hc7
     refine wpE_exit (th_x (th_x (bl_eq (th_n (wpE_seq (rg (q0 (vp r1) (q0 (vp r1) (q0 (vi 0) (q0 (vi 0) (wpL_nil ?_)))))))))))
     refine th_n (wpE_ret (res3 (.inl rfl) Tryz.results11 (v:=(vp r1)) (by kernel_rfl) (v':=(vi 0)) (by kernel_rfl) (v'':=(vi 0)) (by kernel_rfl) ?_))
     exact ⟨r1,0,0,rfl,h⟩
def m_U2 (p1:Option Addr) (b1:Sl) (w0:World) (K:Int→Int→Int→WP):Prop :=
 Calls Tryz.prog 11 #[b1.v] w0 (fun e w1=>∃r1:Option Addr,∃r2 r3:Int,e=.returned (.tuple #[(vp r1),(vi r2),(vi r3)])∧
  Br (r2 != 0)
   (K 0 r2 r3 w1)
   (∃a1:Addr,r1=some a1 ∧
   ∃v1:Sl,w1.cell? a1=some v1.v ∧
   Calls Tryz.prog 37 #[(vp p1),(vp r1),(vi (v1.len:Int))] w1 (fun e w2=>∃r4 r5:Int,e=.returned (.tuple #[(vi r4),(vi r5)])∧
    K r4 r5 0 w2)))
theorem w_U2 (p1 : Option Addr) (b1 : Sl) (w0 : World) (K : Int → Int → Int → WP) (h : m_U2 p1 b1 w0 K) :
  Calls Tryz.prog 9 #[(vp p1),b1.v] w0 (fun e w'=>∃r6 r7 r8:Int,e=.returned (.tuple #[(vi r6),(vi r7),(vi r8)])∧K r6 r7 r8 w'):=by
 unfold m_U2 at h
 refine cw (args:=[(vp p1),b1.v]) Tryz.func9 Tryz.ntmps9 (wpE_seq (rg (q0 (vi 0) (q0 (vi 0) (q0 (vi 0) (wpL_nil (th_n (wpE_seq (rg (q0 b1.v ?_))))))))))
 refine sc Tryz.call11 (h.mono ?_)
 rintro e w1 ⟨r1,r2,r3,rfl,h⟩
 refine ⟨_,rfl,?_⟩
 refine q0 (.tuple #[(vp r1),(vi r2),(vi r3)]) (q0 (vp r1) (q0 (vi r2) (q0 (vi r3) (q0 (vp r1) (q0 (vi r2) (q0 (vi r3) (wpL_nil (th_n (wpE_seq (wpE_seq (rg ?_)))))))))))
 refine q0 (vi r2) (q0 (vb (r2 != 0)) (wpL_nil (th_n ?_)))
 refine wpE_cond (t:=(r2 != 0)) (by kernel_rfl) (fun hc1=>?_) (fun hc1=>?_)
 ·have h:=h.1 hc1
  refine wpE_seq (rg (q0 (vi r2) (q0 (vi r3) (q0 (vi 0) (q0 (vi r2) (q0 (vi r3) (wpL_nil (th_n (wpE_ret (th_r (res3 (.inl rfl) Tryz.results9 (v:=(vi 0)) (by kernel_rfl) (v':=(vi r2)) (by kernel_rfl) (v'':=(vi r3)) (by kernel_rfl) ?_)))))))))))
  exact ⟨0,r2,r3,rfl,h⟩
 ·have h:=h.2 hc1
  refine wpE_skip (th_n (wpE_seq (rg (q0 (vp p1) (q0 (vp r1) (q0 (vp r1) ?_))))))
  obtain ⟨a1,hp1,h⟩:=h
  refine q2 (vp (some a1)) (x_nilCheck (p:=r1) (by kernel_rfl) hp1) (q0 (vp (some a1)) ?_)
  obtain ⟨v1,hv1,h⟩:=h
  refine q2 v1.v (xl (Tryz.isAgg42 _) hv1) (q0 (vi (v1.len:Int)) ?_)
  refine sc Tryz.call37 (h.mono ?_)
  rintro e w2 ⟨r4,r5,rfl,h⟩
  refine ⟨_,rfl,?_⟩
  refine q0 (.tuple #[(vi r4),(vi r5)]) (q0 (vi r4) (q0 (vi r5) (q0 (vi r4) (q0 (vi r5) (wpL_nil (th_n (wpE_seq (rg (q0 (vi r4) (q0 (vi r5) (q0 (vi r4) ?_)))))))))))
  refine q0 (vi r5) (q0 (vi 0) (wpL_nil (th_n (wpE_ret (res3 (.inl rfl) Tryz.results9 (v:=(vi r4)) (by kernel_rfl) (v':=(vi r5)) (by kernel_rfl) (v'':=(vi 0)) (by kernel_rfl) ?_)))))
  exact ⟨r4,r5,0,rfl,h⟩
def m_E1_j1 (l1 b1:Sl) (x1:Bool) (H:NP) (w:World) (K:Bool→WP):Prop :=
 Br x1
  (Calls Tryz.prog 6 #[] w (fun e w1=>∃r1:Bool,e=.returned (vb r1)∧
   Kept H w w1 ∧
   K r1 w1))
  (Calls Tryz.prog 7 #[l1.v] w (fun e w2=>∃r2:Option Addr,∃r3:Option Addr,e=.returned (.tuple #[(vp r2),(vp r3)])∧
   Kept H w w2 ∧
   Br (Option.isNone r2)
    (K false w2)
    (∀(p1:Addr) (w3:World),New w2 (.cells #[] 5) p1 w3 →
    ∃s1:Sl,∃w4:World,(Builtin.append_ #[23,23] 23 #[(Sl.mk (some p1) 0 0).v,b1.v]).run Tryz.prog w3=.ok s1.v w4 ∧
    Kept H w3 w4 ∧
    Calls Tryz.prog 8 #[(vp r2),s1.v] w4 (fun e w5=>∃r4 r5 r6:Int,e=.returned (.tuple #[(vi r4),(vi r5),(vi r6)])∧
     Kept H w4 w5 ∧
     Calls Tryz.prog 9 #[(vp r3),b1.v] w5 (fun e w6=>∃r7 r8 r9:Int,e=.returned (.tuple #[(vi r7),(vi r8),(vi r9)])∧
      Kept H w5 w6 ∧
      Calls Tryz.prog 10 #[s1.v] w6 (fun e w7=>∃r10 r11:Int,e=.returned (.tuple #[(vi r10),(vi r11)])∧
       Kept H w6 w7 ∧
       Calls Tryz.prog 11 #[b1.v] w7 (fun e w8=>∃r12:Option Addr,∃r13 r14:Int,e=.returned (.tuple #[(vp r12),(vi r13),(vi r14)])∧
        Kept H w7 w8 ∧
        ∃C1:WP,C1 w8.drew∧∀w9,w9=w8.drew →
        Br (r4 == r7)
         (Calls Tryz.prog 12 #[(vi r5)] w9 (fun e w10=>∃r15:Int,e=.returned (vi r15)∧C1 w10∧
          Kept H w9 w10 ∧
          Br (r15 == r8)
           (Br (r6 == r9)
            (Calls Tryz.prog 12 #[(vi r10)] w10 (fun e w11=>∃r16:Int,e=.returned (vi r16)∧C1 w11∧
             Kept H w10 w11 ∧
             Br (r16 == r13)
              (Br (r11 == r14)
               (∃a1:Addr,r3=some a1 ∧
               ∃v1:Sl,(∀w',C1 w'→w'.cell? a1=some v1.v) ∧
               Calls Tryz.prog 13 #[(vp r2)] w11 (fun e w12=>∃r17:Int,e=.returned (vi r17)∧C1 w12∧
                Kept H w11 w12 ∧
                Br (r17 == (v1.len:Int))
                 (Calls Tryz.prog 15 #[(vp r2),(vi r4)] w12 (fun e w13=>∃aK aL:Int,∃aM aN:Int,∃aO:ByteArray,∃bU:Sl,e=.returned (.agg #[(vi aK),(vi aL),(vi aM),(vu aN),(vs aO),bU.v])∧C1 w13∧
                  Kept H w12 w13 ∧
                  Calls Tryz.prog 16 #[(vp r3),(vi r7)] w13 (fun e w14=>∃dS dT:Int,∃dU dV:Int,∃dW:ByteArray,∃dX:Sl,e=.returned (.agg #[(vi dS),(vi dT),(vi dU),(vu dV),(vs dW),dX.v])∧C1 w14∧
                   Kept H w13 w14 ∧
                   Calls Tryz.prog 14 #[(.agg #[(vi aK),(vi aL),(vi aM),(vu aN),(vs aO),bU.v]),(.agg #[(vi dS),(vi dT),(vi dU),(vu dV),(vs dW),dX.v])] w14 (fun e w15=>∃r18:Bool,e=.returned (vb r18)∧C1 w15∧
                    Kept H w14 w15 ∧
                    Br r18
                     (∃c1:ByteArray,(∀w',C1 w'→(convert 23 9 s1.v).run Tryz.prog w'=.ok (vs c1) w') ∧
                     ∃c2:ByteArray,(∀w',C1 w'→(convert 23 9 b1.v).run Tryz.prog w'=.ok (vs c2) w') ∧
                     Br (decide (c1=c2))
                      (Calls Tryz.prog 6 #[] w15 (fun e w16=>∃r19:Bool,e=.returned (vb r19)∧C1 w16∧
                       Kept H w15 w16 ∧
                       K r19 w16))
                      (K false w15))
                     (K false w15)))))
                 (K false w12)))
               (K false w11))
              (K false w11)))
            (K false w10))
           (K false w10)))
         (K false w9))))))))
def m_E1 (l1 b1:Sl) (w0:World) (K:Bool→WP):Prop :=
 Calls Tryz.prog 5 #[l1.v] w0 (fun e w17=>∃r20:Bool,e=.returned (vb r20)∧
  Kept None w0 w17 ∧
  ∀(H1:NP) (w18:World),Hst w0 None w17 H1 w18 →
  m_E1_j1 l1 b1 (r20 || (decide ((b1.len:Int)>8192))) H1 w18 K)
theorem w_E1 (l1 b1 : Sl) (w0 : World) (K : Bool → WP) (h : m_E1 l1 b1 w0 K) :
  Calls Tryz.prog 3 #[l1.v,b1.v] w0 (fun e w'=>∃r21:Bool,e=.returned (vb r21)∧K r21 w'):=by
 unfold m_E1 at h
 refine cw (args:=[l1.v,b1.v]) Tryz.func3 Tryz.ntmps3 ?_
 have hs:=Hst.start w0
 have hb:=HB.nil None w0
 refine wpE_seq (rg (q0 (vb false) (wpL_nil (th_n (wpE_seq (wpE_seq ?_))))))
 refine wpE_joinT (fun ρ w=>∃x1:Bool,∃H:NP,Has ρ [(0,l1.v),(1,b1.v),(25,(vb x1))]∧Hst w0 H w H w∧HB H w []∧m_E1_j1 l1 b1 x1 H w K) ?_ ?_
 ·rintro ρ w ⟨x1,H,hH,hs,hb,h⟩
  unfold m_E1_j1 at h
  refine wpE_has hH ?_
  refine wpE_cond (t:=x1) (by kernel_rfl) (fun hc1=>?_) (fun hc1=>?_)
  ·have h:=h.1 hc1
   refine wpE_seq (rg ?_)
   refine sc Tryz.call6 (h.mono ?_)
   rintro e w1 ⟨r1,rfl,hk,h⟩
   refine ⟨_,rfl,?_⟩
   obtain ⟨hs,hb⟩:=hk.hh hs hb
   refine q0 (vb r1) (wpL_nil (th_n (wpE_ret (th_r (rs1 Tryz.results3 (v:=(vb r1)) ?_)))))
   exact ⟨r1,rfl,h⟩
  ·have h:=h.2 hc1
   refine wpE_skip (th_n (wpE_seq (rg (q0 l1.v ?_))))
   refine sc Tryz.call7 (h.mono ?_)
   rintro e w2 ⟨r2,r3,rfl,hk,h⟩
   refine ⟨_,rfl,?_⟩
   obtain ⟨hs,hb⟩:=hk.hh hs hb
   refine q0 (.tuple #[(vp r2),(vp r3)]) (q0 (vp r2) (q0 (vp r3) (q0 (vp r2) (q0 (vp r3) (wpL_nil (th_n (wpE_seq (wpE_seq (rg (q0 (vp r2) (q2 (vb (Option.isNone r2)) (x_ptreq (by kernel_rfl) rfl Tryz.underlying26) ?_)))))))))))
   refine wpL_nil (th_n ?_)
   refine wpE_cond (t:=(Option.isNone r2)) (by kernel_rfl) (fun hc2=>?_) (fun hc2=>?_)
   ·have h:=h.1 hc2
    refine wpE_seq (rg (q0 (vb false) (wpL_nil (th_n (wpE_ret (th_r (rs1 Tryz.results3 (v:=(vb false)) ?_)))))))
    exact ⟨false,rfl,h⟩
   ·have h:=h.2 hc2
    refine wpE_skip (th_n (wpE_seq (rg (st_new (O:=(.cells #[] 5)) (fun p=>(Sl.mk (some p) 0 0).v) (want0 rfl) (x_buildSlice (vs:=#[]) (by kernel_rfl) (by kernel_rfl)) ?_))))
    intro p1 w3 hn1
    have h:=h p1 w3 hn1
    have hs:=hs.again (Ext.new (F:=None) hn1).keptP
    have hb:=hb.kept (Ext.new (F:=None) hn1).keptP
    refine q0 b1.v ?_
    obtain ⟨s1,w4,hv4,hk,h⟩:=h
    refine st (v:=s1.v) (want0 rfl) (x_builtin (args:=#[(Sl.mk (some p1) 0 0).v,b1.v]) (by kernel_rfl) (fun _=>rfl) hv4) ?_
    obtain ⟨hs,hb⟩:=hk.hh hs hb
    refine q0 s1.v (wpL_nil (th_n (wpE_seq (rg (q0 (vp r2) (q0 s1.v ?_))))))
    refine sc Tryz.call8 (h.mono ?_)
    rintro e w5 ⟨r4,r5,r6,rfl,hk,h⟩
    refine ⟨_,rfl,?_⟩
    obtain ⟨hs,hb⟩:=hk.hh hs hb
    refine q0 (.tuple #[(vi r4),(vi r5),(vi r6)]) (q0 (vi r4) (q0 (vi r5) (q0 (vi r6) (q0 (vi r4) (q0 (vi r5) (q0 (vi r6) (wpL_nil (th_n (wpE_seq (rg (q0 (vp r3) ?_)))))))))))
    refine q0 b1.v ?_
    refine sc Tryz.call9 (h.mono ?_)
    rintro e w6 ⟨r7,r8,r9,rfl,hk,h⟩
    refine ⟨_,rfl,?_⟩
    obtain ⟨hs,hb⟩:=hk.hh hs hb
    refine q0 (.tuple #[(vi r7),(vi r8),(vi r9)]) (q0 (vi r7) (q0 (vi r8) (q0 (vi r9) (q0 (vi r7) (q0 (vi r8) (q0 (vi r9) (wpL_nil (th_n (wpE_seq (rg (q0 s1.v ?_)))))))))))
    refine sc Tryz.call10 (h.mono ?_)
    rintro e w7 ⟨r10,r11,rfl,hk,h⟩
    refine ⟨_,rfl,?_⟩
    obtain ⟨hs,hb⟩:=hk.hh hs hb
    refine q0 (.tuple #[(vi r10),(vi r11)]) (q0 (vi r10) (q0 (vi r11) (q0 (vi r10) (q0 (vi r11) (wpL_nil (th_n (wpE_seq (rg (q0 b1.v ?_)))))))))
    refine sc Tryz.call11 (h.mono ?_)
    rintro e w8 ⟨r12,r13,r14,rfl,hk,h⟩
    refine ⟨_,rfl,?_⟩
    obtain ⟨hs,hb⟩:=hk.hh hs hb
    refine q0 (.tuple #[(vp r12),(vi r13),(vi r14)]) (q0 (vp r12) (q0 (vi r13) (q0 (vi r14) (q0 (vp r12) (q0 (vi r13) (q0 (vi r14) (wpL_nil (th_n (wpE_seq ?_)))))))))
    obtain ⟨C1,hC,h⟩:=h
    refine wpE_drawnC C1 [5,16,27,38,41,42,52] [] (by kernel_rfl) (by kernel_rfl) (by kernel_rfl) (by kernel_rfl) hC ?_
    intro w9 hw9
    have h:=h w9 hw9
    have hs:Hst w0 H w8 H w9:=by rw [hw9];exact hs.drew
    have hb:HB H w9 []:=by rw [hw9];exact hb.drew
    have hs:=hs.here
    refine qx 0 (vi r4) Kp0 (qx 1 (vi r7) Kp1 (qx 2 (vb (r4 == r7)) Kp2 (qx 3 (vb (r4 == r7)) Kp3 (qg 4 ?_))))
    rcases Bool.eq_false_or_eq_true (r4 == r7) with hg1 | hg1
    ·have h:=h.1 hg1
     refine sz (v:=(vi r5)) Kp4 (want1 rfl (yD 65 hg1)) (fun _ _=>(by kernel_rfl)) (qw 6 (vi r8) Kp6 (want1 rfl (yD 65 hg1)) (lg 5 ?_))
     refine sl_call Kp5 (want1 rfl (yD 65 hg1)) (by kernel_rfl) (xc Tryz.call12) (h.mono ?_)
     rintro e w10 ⟨r15,rfl,hC,hk,h⟩
     refine ⟨_,rfl,.inr hC,?_⟩
     obtain ⟨hs,hb⟩:=hk.hh hs hb
     refine qw 7 (vb (r15 == r8)) Kp7 (want1 rfl (yD 65 hg1)) (qz 8 (vb (r15 == r8)) Kp8 (fun _ _=>(xT hg1)) (qx 9 (vb (r15 == r8)) Kp9 (qg 10 ?_)))
     rcases Bool.eq_false_or_eq_true (r15 == r8) with hg2 | hg2
     ·have h:=h.1 hg2
      refine sz (v:=(vi r6)) (pickA (S8 (pickS (pickS pickZ)))) (want1 rfl (yD 71 hg2)) (fun _ _=>(by kernel_rfl)) (qw 11 (vi r9) (pickA (S8 (pickS (pickS (pickS pickZ))))) (want1 rfl (yD 71 hg2)) (qw 12 (vb (r6 == r9)) (pickA (S8 (S4 pickZ))) (want1 rfl (yD 71 hg2)) (qz 13 (vb (r6 == r9)) (pickA (S8 (S4 (pickS pickZ)))) (fun _ _=>(xT hg2)) (qx 14 (vb (r6 == r9)) (pickA (S8 (S4 (pickS (pickS pickZ))))) (qg 15 ?_)))))
      rcases Bool.eq_false_or_eq_true (r6 == r9) with hg3 | hg3
      ·have h:=h.1 hg3
       refine sz (v:=(vi r10)) (pickA (S8 (S4 (pickS (pickS (pickS pickZ)))))) (want1 rfl (yD 76 hg3)) (fun _ _=>(by kernel_rfl)) (qw 17 (vi r13) (pickA (S8 (S8 (pickS pickZ)))) (want1 rfl (yD 76 hg3)) (lg 16 ?_))
       refine sl_call (pickA (S8 (S8 pickZ))) (want1 rfl (yD 76 hg3)) (by kernel_rfl) (xc Tryz.call12) (h.mono ?_)
       rintro e w11 ⟨r16,rfl,hC,hk,h⟩
       refine ⟨_,rfl,.inr hC,?_⟩
       obtain ⟨hs,hb⟩:=hk.hh hs hb
       refine qw 18 (vb (r16 == r13)) (pickA (S8 (S8 (pickS (pickS pickZ))))) (want1 rfl (yD 76 hg3)) (qz 19 (vb (r16 == r13)) (pickA (S8 (S8 (pickS (pickS (pickS pickZ)))))) (fun _ _=>(xT hg3)) (qx 20 (vb (r16 == r13)) (pickA (S8 (S8 (S4 pickZ)))) (qg 21 ?_)))
       rcases Bool.eq_false_or_eq_true (r16 == r13) with hg4 | hg4
       ·have h:=h.1 hg4
        refine sz (v:=(vi r11)) (pickA (S8 (S8 (S4 (pickS pickZ))))) (want1 rfl (yD 82 hg4)) (fun _ _=>(by kernel_rfl)) (qw 22 (vi r14) (pickA (S8 (S8 (S4 (pickS (pickS pickZ)))))) (want1 rfl (yD 82 hg4)) (qw 23 (vb (r11 == r14)) (pickA (S8 (S8 (S4 (pickS (pickS (pickS pickZ))))))) (want1 rfl (yD 82 hg4)) (qz 24 (vb (r11 == r14)) (pickA (S8 (S8 (S8 pickZ)))) (fun _ _=>(xT hg4)) (qx 25 (vb (r11 == r14)) (pickA (S8 (S8 (S8 (pickS pickZ))))) (qg 26 ?_)))))
        rcases Bool.eq_false_or_eq_true (r11 == r14) with hg5 | hg5
        ·have h:=h.1 hg5
         refine sz (v:=(vp r2)) (pickA (S8 (S8 (S8 (pickS (pickS pickZ)))))) (want1 rfl (yD 87 hg5)) (fun _ _=>(by kernel_rfl)) (qw 28 (vp r3) (pickA (S8 (S8 (S8 (S4 pickZ))))) (want1 rfl (yD 87 hg5)) (qg 29 ?_))
         obtain ⟨a1,hp1,h⟩:=h
         refine sz (v:=(vp (some a1))) (pickA (S8 (S8 (S8 (S4 (pickS pickZ)))))) (want1 rfl (yD 87 hg5)) (fun _ _=>(x_nilCheck (p:=r3) (by kernel_rfl) hp1)) (qw 30 (vp (some a1)) (pickA (S8 (S8 (S8 (S4 (pickS (pickS pickZ))))))) (want1 rfl (yD 87 hg5)) (qg 31 ?_))
         obtain ⟨v1,hv3,h⟩:=h
         refine sz (v:=v1.v) (pickA (S8 (S8 (S8 (S4 (pickS (pickS (pickS pickZ)))))))) (want1 rfl (yD 87 hg5)) (fun w' hw'=>(xl (Tryz.isAgg42 _) (hv3 w' hw'))) (qw 32 (vi (v1.len:Int)) (pickA (S8 (S8 (S8 (S8 pickZ))))) (want1 rfl (yD 87 hg5)) (lg 27 ?_))
         refine sl_call (pickA (S8 (S8 (S8 (pickS (pickS (pickS pickZ))))))) (want1 rfl (yD 87 hg5)) (by kernel_rfl) (xc Tryz.call13) (h.mono ?_)
         rintro e w12 ⟨r17,rfl,hC,hk,h⟩
         refine ⟨_,rfl,.inr hC,?_⟩
         obtain ⟨hs,hb⟩:=hk.hh hs hb
         refine qw 33 (vb (r17 == (v1.len:Int))) (pickA (S8 (S8 (S8 (S8 (pickS pickZ)))))) (want1 rfl (yD 87 hg5)) (qz 34 (vb (r17 == (v1.len:Int))) (pickA (S8 (S8 (S8 (S8 (pickS (pickS pickZ))))))) (fun _ _=>(xT hg5)) (qx 35 (vb (r17 == (v1.len:Int))) (pickA (S8 (S8 (S8 (S8 (pickS (pickS (pickS pickZ)))))))) (qg 36 ?_)))
         rcases Bool.eq_false_or_eq_true (r17 == (v1.len:Int)) with hg6 | hg6
         ·have h:=h.1 hg6
          refine sz (v:=(vp r2)) (pickA (S8 (S8 (S8 (S8 (S4 pickZ)))))) (want1 rfl (yD 97 hg6)) (fun _ _=>(by kernel_rfl)) (qw 37 (vi r4) (pickA (S8 (S8 (S8 (S8 (S4 (pickS pickZ))))))) (want1 rfl (yD 97 hg6)) (qw 39 (vp r3) (pickA (S8 (S8 (S8 (S8 (S4 (pickS (pickS (pickS pickZ))))))))) (want1 rfl (yD 97 hg6)) (qw 40 (vi r7) (pickA (S8 (S8 (S8 (S8 (S8 pickZ)))))) (want1 rfl (yD 97 hg6)) (lg 38 ?_))))
          refine sl_call (pickA (S8 (S8 (S8 (S8 (S4 (pickS (pickS pickZ)))))))) (want1 rfl (yD 97 hg6)) (by kernel_rfl) (xc Tryz.call15) (h.mono ?_)
          rintro e w13 ⟨aK,aL,aM,aN,aO,bU,rfl,hC,hk,h⟩
          refine ⟨_,rfl,.inr hC,?_⟩
          obtain ⟨hs,hb⟩:=hk.hh hs hb
          refine lg 41 ?_
          refine sl_call (pickA (S8 (S8 (S8 (S8 (S8 (pickS pickZ))))))) (want1 rfl (yD 97 hg6)) (by kernel_rfl) (xc Tryz.call16) (h.mono ?_)
          rintro e w14 ⟨dS,dT,dU,dV,dW,dX,rfl,hC,hk,h⟩
          refine ⟨_,rfl,.inr hC,?_⟩
          obtain ⟨hs,hb⟩:=hk.hh hs hb
          refine lg 42 ?_
          refine sl_call (pickA (S8 (S8 (S8 (S8 (S8 (pickS (pickS pickZ)))))))) (want1 rfl (yD 97 hg6)) (by kernel_rfl) (xc Tryz.call14) (h.mono ?_)
          rintro e w15 ⟨r18,rfl,hC,hk,h⟩
          refine ⟨_,rfl,.inr hC,?_⟩
          obtain ⟨hs,hb⟩:=hk.hh hs hb
          refine qz 43 (vb r18) (pickA (S8 (S8 (S8 (S8 (S8 (pickS (pickS (pickS pickZ))))))))) (fun _ _=>(xT hg6)) (qx 44 (vb r18) (pickA (S8 (S8 (S8 (S8 (S8 (S4 pickZ))))))) (qg 45 ?_))
          rcases Bool.eq_false_or_eq_true r18 with hg7 | hg7
          ·have h:=h.1 hg7
           refine sz (v:=s1.v) (pickA (S8 (S8 (S8 (S8 (S8 (S4 (pickS pickZ)))))))) (want1 rfl (yD 106 hg7)) (fun _ _=>(by kernel_rfl)) (qg 46 ?_)
           obtain ⟨c1,hv2,h⟩:=h
           refine sz (v:=(vs c1)) (pickA (S8 (S8 (S8 (S8 (S8 (S4 (pickS (pickS pickZ))))))))) (want1 rfl (yD 106 hg7)) (fun w' hw'=>(x_convert (by kernel_rfl) (hv2 w' hw'))) (qw 47 b1.v (pickA (S8 (S8 (S8 (S8 (S8 (S4 (pickS (pickS (pickS pickZ)))))))))) (want1 rfl (yD 106 hg7)) (qg 48 ?_))
           obtain ⟨c2,hv1,h⟩:=h
           refine sz (v:=(vs c2)) (pickA (S8 (S8 (S8 (S8 (S8 (S8 pickZ))))))) (want1 rfl (yD 106 hg7)) (fun w' hw'=>(x_convert (by kernel_rfl) (hv1 w' hw'))) (qg 49 (sz (v:=(vb (decide (c1=c2)))) (pickA (S8 (S8 (S8 (S8 (S8 (S8 (pickS pickZ)))))))) (want1 rfl (yD 106 hg7)) (fun _ _=>(x_streq (by kernel_rfl) (by kernel_rfl))) (qz 50 (vb (decide (c1=c2))) (pickA (S8 (S8 (S8 (S8 (S8 (S8 (pickS (pickS pickZ))))))))) (fun _ _=>(xT hg7)) (qx 51 (vb (decide (c1=c2))) (pickA (S8 (S8 (S8 (S8 (S8 (S8 (pickS (pickS (pickS pickZ)))))))))) (lg 52 ?_)))))
           rcases Bool.eq_false_or_eq_true (decide (c1=c2)) with hg8 | hg8
           ·have h:=h.1 hg8
            refine sl_call (pickA (S8 (S8 (S8 (S8 (S8 (S8 (S4 pickZ)))))))) (want1 rfl (yD 113 hg8)) (by kernel_rfl) (xc Tryz.call6) (h.mono ?_)
            rintro e w16 ⟨r19,rfl,hC,hk,h⟩
            refine ⟨_,rfl,.inr hC,?_⟩
            obtain ⟨hs,hb⟩:=hk.hh hs hb
            refine qz 53 (vb r19) (pickA (S8 (S8 (S8 (S8 (S8 (S8 (S4 (pickS pickZ))))))))) (fun _ _=>(xT hg8)) (qx 54 (vb r19) (pickA (S8 (S8 (S8 (S8 (S8 (S8 (S4 (pickS (pickS pickZ)))))))))) (wn (th_n (wpE_ret (rs1 Tryz.results3 (v:=(vb r19)) ?_)))))
            exact ⟨r19,rfl,h⟩
           ·have h:=h.2 hg8
            refine sx_not (pickA (S8 (S8 (S8 (S8 (S8 (S8 (S4 pickZ)))))))) (unwant rfl (yD 113 hg8) rfl) (qz 53 (vb false) (pickA (S8 (S8 (S8 (S8 (S8 (S8 (S4 (pickS pickZ))))))))) (fun _ _=>(xF hg8)) (qx 54 (vb false) (pickA (S8 (S8 (S8 (S8 (S8 (S8 (S4 (pickS (pickS pickZ)))))))))) (wn (th_n (wpE_ret (rs1 Tryz.results3 (v:=(vb false)) ?_))))))
            exact ⟨false,rfl,h⟩
          ·have h:=h.2 hg7
           refine sx_not (pickA (S8 (S8 (S8 (S8 (S8 (S4 (pickS pickZ)))))))) (unwant rfl (yD 106 hg7) rfl) (qn 46 (pickA (S8 (S8 (S8 (S8 (S8 (S4 (pickS (pickS pickZ))))))))) (unwant rfl (yD 106 hg7) rfl) (qn 47 (pickA (S8 (S8 (S8 (S8 (S8 (S4 (pickS (pickS (pickS pickZ)))))))))) (unwant rfl (yD 106 hg7) rfl) (qn 48 (pickA (S8 (S8 (S8 (S8 (S8 (S8 pickZ))))))) (unwant rfl (yD 106 hg7) rfl) (qn 49 (pickA (S8 (S8 (S8 (S8 (S8 (S8 (pickS pickZ)))))))) (unwant rfl (yD 106 hg7) rfl) (qz 50 (vb false) (pickA (S8 (S8 (S8 (S8 (S8 (S8 (pickS (pickS pickZ))))))))) (fun _ _=>(xF hg7)) (qx 51 (vb false) (pickA (S8 (S8 (S8 (S8 (S8 (S8 (pickS (pickS (pickS pickZ)))))))))) (lg 52 (sx_not (pickA (S8 (S8 (S8 (S8 (S8 (S8 (S4 pickZ)))))))) (unwant rfl (yD (c:=false) 113 rfl) rfl) (qx 53 (vb false) (pickA (S8 (S8 (S8 (S8 (S8 (S8 (S4 (pickS pickZ))))))))) (qx 54 (vb false) (pickA (S8 (S8 (S8 (S8 (S8 (S8 (S4 (pickS (pickS pickZ)))))))))) (wn ?_)))))))))))
           refine th_n (wpE_ret (rs1 Tryz.results3 (v:=(vb false)) ?_))
           exact ⟨false,rfl,h⟩
         ·have h:=h.2 hg6
          refine sx_not (pickA (S8 (S8 (S8 (S8 (S4 pickZ)))))) (unwant rfl (yD 97 hg6) rfl) (qn 37 (pickA (S8 (S8 (S8 (S8 (S4 (pickS pickZ))))))) (unwant rfl (yD 97 hg6) rfl) (qn 39 (pickA (S8 (S8 (S8 (S8 (S4 (pickS (pickS (pickS pickZ))))))))) (unwant rfl (yD 97 hg6) rfl) (qn 40 (pickA (S8 (S8 (S8 (S8 (S8 pickZ)))))) (unwant rfl (yD 97 hg6) rfl) (lg 38 (sx_not (pickA (S8 (S8 (S8 (S8 (S4 (pickS (pickS pickZ)))))))) (unwant rfl (yD 97 hg6) rfl) (lg 41 (sx_not (pickA (S8 (S8 (S8 (S8 (S8 (pickS pickZ))))))) (unwant rfl (yD 97 hg6) rfl) (lg 42 (sx_not (pickA (S8 (S8 (S8 (S8 (S8 (pickS (pickS pickZ)))))))) (unwant rfl (yD 97 hg6) rfl) (qz 43 (vb false) (pickA (S8 (S8 (S8 (S8 (S8 (pickS (pickS (pickS pickZ))))))))) (fun _ _=>(xF hg6)) (qx 44 (vb false) (pickA (S8 (S8 (S8 (S8 (S8 (S4 pickZ))))))) ?_)))))))))))
          refine qn 45 (pickA (S8 (S8 (S8 (S8 (S8 (S4 (pickS pickZ)))))))) (unwant rfl (yD (c:=false) 106 rfl) rfl) (qn 46 (pickA (S8 (S8 (S8 (S8 (S8 (S4 (pickS (pickS pickZ))))))))) (unwant rfl (yD (c:=false) 106 rfl) rfl) (qn 47 (pickA (S8 (S8 (S8 (S8 (S8 (S4 (pickS (pickS (pickS pickZ)))))))))) (unwant rfl (yD (c:=false) 106 rfl) rfl) (qn 48 (pickA (S8 (S8 (S8 (S8 (S8 (S8 pickZ))))))) (unwant rfl (yD (c:=false) 106 rfl) rfl) (qn 49 (pickA (S8 (S8 (S8 (S8 (S8 (S8 (pickS pickZ)))))))) (unwant rfl (yD (c:=false) 106 rfl) rfl) (qx 50 (vb false) (pickA (S8 (S8 (S8 (S8 (S8 (S8 (pickS (pickS pickZ))))))))) (qx 51 (vb false) (pickA (S8 (S8 (S8 (S8 (S8 (S8 (pickS (pickS (pickS pickZ)))))))))) (lg 52 (sx_not (pickA (S8 (S8 (S8 (S8 (S8 (S8 (S4 pickZ)))))))) (unwant rfl (yD (c:=false) 113 rfl) rfl) (qx 53 (vb false) (pickA (S8 (S8 (S8 (S8 (S8 (S8 (S4 (pickS pickZ))))))))) (qx 54 (vb false) (pickA (S8 (S8 (S8 (S8 (S8 (S8 (S4 (pickS (pickS pickZ)))))))))) (wn ?_)))))))))))
          refine th_n (wpE_ret (rs1 Tryz.results3 (v:=(vb false)) ?_))
          exact ⟨false,rfl,h⟩
        ·have h:=h.2 hg5
         refine sx_not (pickA (S8 (S8 (S8 (pickS (pickS pickZ)))))) (unwant rfl (yD 87 hg5) rfl) (qn 28 (pickA (S8 (S8 (S8 (S4 pickZ))))) (unwant rfl (yD 87 hg5) rfl) (qn 29 (pickA (S8 (S8 (S8 (S4 (pickS pickZ)))))) (unwant rfl (yD 87 hg5) rfl) (qn 30 (pickA (S8 (S8 (S8 (S4 (pickS (pickS pickZ))))))) (unwant rfl (yD 87 hg5) rfl) (qn 31 (pickA (S8 (S8 (S8 (S4 (pickS (pickS (pickS pickZ)))))))) (unwant rfl (yD 87 hg5) rfl) (qn 32 (pickA (S8 (S8 (S8 (S8 pickZ))))) (unwant rfl (yD 87 hg5) rfl) (lg 27 (sx_not (pickA (S8 (S8 (S8 (pickS (pickS (pickS pickZ))))))) (unwant rfl (yD 87 hg5) rfl) (qn 33 (pickA (S8 (S8 (S8 (S8 (pickS pickZ)))))) (unwant rfl (yD 87 hg5) rfl) (qz 34 (vb false) (pickA (S8 (S8 (S8 (S8 (pickS (pickS pickZ))))))) (fun _ _=>(xF hg5)) (qx 35 (vb false) (pickA (S8 (S8 (S8 (S8 (pickS (pickS (pickS pickZ)))))))) (qn 36 (pickA (S8 (S8 (S8 (S8 (S4 pickZ)))))) (unwant rfl (yD (c:=false) 97 rfl) rfl) ?_)))))))))))
         refine qn 37 (pickA (S8 (S8 (S8 (S8 (S4 (pickS pickZ))))))) (unwant rfl (yD (c:=false) 97 rfl) rfl) (qn 39 (pickA (S8 (S8 (S8 (S8 (S4 (pickS (pickS (pickS pickZ))))))))) (unwant rfl (yD (c:=false) 97 rfl) rfl) (qn 40 (pickA (S8 (S8 (S8 (S8 (S8 pickZ)))))) (unwant rfl (yD (c:=false) 97 rfl) rfl) (lg 38 (sx_not (pickA (S8 (S8 (S8 (S8 (S4 (pickS (pickS pickZ)))))))) (unwant rfl (yD (c:=false) 97 rfl) rfl) (lg 41 (sx_not (pickA (S8 (S8 (S8 (S8 (S8 (pickS pickZ))))))) (unwant rfl (yD (c:=false) 97 rfl) rfl) (lg 42 (sx_not (pickA (S8 (S8 (S8 (S8 (S8 (pickS (pickS pickZ)))))))) (unwant rfl (yD (c:=false) 97 rfl) rfl) (qx 43 (vb false) (pickA (S8 (S8 (S8 (S8 (S8 (pickS (pickS (pickS pickZ))))))))) (qx 44 (vb false) (pickA (S8 (S8 (S8 (S8 (S8 (S4 pickZ))))))) (qn 45 (pickA (S8 (S8 (S8 (S8 (S8 (S4 (pickS pickZ)))))))) (unwant rfl (yD (c:=false) 106 rfl) rfl) ?_)))))))))))
         refine qn 46 (pickA (S8 (S8 (S8 (S8 (S8 (S4 (pickS (pickS pickZ))))))))) (unwant rfl (yD (c:=false) 106 rfl) rfl) (qn 47 (pickA (S8 (S8 (S8 (S8 (S8 (S4 (pickS (pickS (pickS pickZ)))))))))) (unwant rfl (yD (c:=false) 106 rfl) rfl) (qn 48 (pickA (S8 (S8 (S8 (S8 (S8 (S8 pickZ))))))) (unwant rfl (yD (c:=false) 106 rfl) rfl) (qn 49 (pickA (S8 (S8 (S8 (S8 (S8 (S8 (pickS pickZ)))))))) (unwant rfl (yD (c:=false) 106 rfl) rfl) (qx 50 (vb false) (pickA (S8 (S8 (S8 (S8 (S8 (S8 (pickS (pickS pickZ))))))))) (qx 51 (vb false) (pickA (S8 (S8 (S8 (S8 (S8 (S8 (pickS (pickS (pickS pickZ)))))))))) (lg 52 (sx_not (pickA (S8 (S8 (S8 (S8 (S8 (S8 (S4 pickZ)))))))) (unwant rfl (yD (c:=false) 113 rfl) rfl) (qx 53 (vb false) (pickA (S8 (S8 (S8 (S8 (S8 (S8 (S4 (pickS pickZ))))))))) (qx 54 (vb false) (pickA (S8 (S8 (S8 (S8 (S8 (S8 (S4 (pickS (pickS pickZ)))))))))) (wn (th_n ?_)))))))))))
         refine wpE_ret (rs1 Tryz.results3 (v:=(vb false)) ?_)
         exact ⟨false,rfl,h⟩
       ·have h:=h.2 hg4
        refine sx_not (pickA (S8 (S8 (S4 (pickS pickZ))))) (unwant rfl (yD 82 hg4) rfl) (qn 22 (pickA (S8 (S8 (S4 (pickS (pickS pickZ)))))) (unwant rfl (yD 82 hg4) rfl) (qn 23 (pickA (S8 (S8 (S4 (pickS (pickS (pickS pickZ))))))) (unwant rfl (yD 82 hg4) rfl) (qz 24 (vb false) (pickA (S8 (S8 (S8 pickZ)))) (fun _ _=>(xF hg4)) (qx 25 (vb false) (pickA (S8 (S8 (S8 (pickS pickZ))))) (qn 26 (pickA (S8 (S8 (S8 (pickS (pickS pickZ)))))) (unwant rfl (yD (c:=false) 87 rfl) rfl) (qn 28 (pickA (S8 (S8 (S8 (S4 pickZ))))) (unwant rfl (yD (c:=false) 87 rfl) rfl) (qn 29 (pickA (S8 (S8 (S8 (S4 (pickS pickZ)))))) (unwant rfl (yD (c:=false) 87 rfl) rfl) (qn 30 (pickA (S8 (S8 (S8 (S4 (pickS (pickS pickZ))))))) (unwant rfl (yD (c:=false) 87 rfl) rfl) (qn 31 (pickA (S8 (S8 (S8 (S4 (pickS (pickS (pickS pickZ)))))))) (unwant rfl (yD (c:=false) 87 rfl) rfl) (qn 32 (pickA (S8 (S8 (S8 (S8 pickZ))))) (unwant rfl (yD (c:=false) 87 rfl) rfl) (lg 27 ?_)))))))))))
        refine sx_not (pickA (S8 (S8 (S8 (pickS (pickS (pickS pickZ))))))) (unwant rfl (yD (c:=false) 87 rfl) rfl) (qn 33 (pickA (S8 (S8 (S8 (S8 (pickS pickZ)))))) (unwant rfl (yD (c:=false) 87 rfl) rfl) (qx 34 (vb false) (pickA (S8 (S8 (S8 (S8 (pickS (pickS pickZ))))))) (qx 35 (vb false) (pickA (S8 (S8 (S8 (S8 (pickS (pickS (pickS pickZ)))))))) (qn 36 (pickA (S8 (S8 (S8 (S8 (S4 pickZ)))))) (unwant rfl (yD (c:=false) 97 rfl) rfl) (qn 37 (pickA (S8 (S8 (S8 (S8 (S4 (pickS pickZ))))))) (unwant rfl (yD (c:=false) 97 rfl) rfl) (qn 39 (pickA (S8 (S8 (S8 (S8 (S4 (pickS (pickS (pickS pickZ))))))))) (unwant rfl (yD (c:=false) 97 rfl) rfl) (qn 40 (pickA (S8 (S8 (S8 (S8 (S8 pickZ)))))) (unwant rfl (yD (c:=false) 97 rfl) rfl) (lg 38 (sx_not (pickA (S8 (S8 (S8 (S8 (S4 (pickS (pickS pickZ)))))))) (unwant rfl (yD (c:=false) 97 rfl) rfl) (lg 41 (sx_not (pickA (S8 (S8 (S8 (S8 (S8 (pickS pickZ))))))) (unwant rfl (yD (c:=false) 97 rfl) rfl) ?_)))))))))))
        refine lg 42 (sx_not (pickA (S8 (S8 (S8 (S8 (S8 (pickS (pickS pickZ)))))))) (unwant rfl (yD (c:=false) 97 rfl) rfl) (qx 43 (vb false) (pickA (S8 (S8 (S8 (S8 (S8 (pickS (pickS (pickS pickZ))))))))) (qx 44 (vb false) (pickA (S8 (S8 (S8 (S8 (S8 (S4 pickZ))))))) (qn 45 (pickA (S8 (S8 (S8 (S8 (S8 (S4 (pickS pickZ)))))))) (unwant rfl (yD (c:=false) 106 rfl) rfl) (qn 46 (pickA (S8 (S8 (S8 (S8 (S8 (S4 (pickS (pickS pickZ))))))))) (unwant rfl (yD (c:=false) 106 rfl) rfl) (qn 47 (pickA (S8 (S8 (S8 (S8 (S8 (S4 (pickS (pickS (pickS pickZ)))))))))) (unwant rfl (yD (c:=false) 106 rfl) rfl) (qn 48 (pickA (S8 (S8 (S8 (S8 (S8 (S8 pickZ))))))) (unwant rfl (yD (c:=false) 106 rfl) rfl) (qn 49 (pickA (S8 (S8 (S8 (S8 (S8 (S8 (pickS pickZ)))))))) (unwant rfl (yD (c:=false) 106 rfl) rfl) (qx 50 (vb false) (pickA (S8 (S8 (S8 (S8 (S8 (S8 (pickS (pickS pickZ))))))))) (qx 51 (vb false) (pickA (S8 (S8 (S8 (S8 (S8 (S8 (pickS (pickS (pickS pickZ)))))))))) (lg 52 ?_)))))))))))
        refine sx_not (pickA (S8 (S8 (S8 (S8 (S8 (S8 (S4 pickZ)))))))) (unwant rfl (yD (c:=false) 113 rfl) rfl) (qx 53 (vb false) (pickA (S8 (S8 (S8 (S8 (S8 (S8 (S4 (pickS pickZ))))))))) (qx 54 (vb false) (pickA (S8 (S8 (S8 (S8 (S8 (S8 (S4 (pickS (pickS pickZ)))))))))) (wn (th_n (wpE_ret (rs1 Tryz.results3 (v:=(vb false)) ?_))))))
        exact ⟨false,rfl,h⟩
      ·have h:=h.2 hg3
       refine sx_not (pickA (S8 (S4 (pickS (pickS (pickS pickZ)))))) (unwant rfl (yD 76 hg3) rfl) (qn 17 (pickA (S8 (S8 (pickS pickZ)))) (unwant rfl (yD 76 hg3) rfl) (lg 16 (sx_not (pickA (S8 (S8 pickZ))) (unwant rfl (yD 76 hg3) rfl) (qn 18 (pickA (S8 (S8 (pickS (pickS pickZ))))) (unwant rfl (yD 76 hg3) rfl) (qz 19 (vb false) (pickA (S8 (S8 (pickS (pickS (pickS pickZ)))))) (fun _ _=>(xF hg3)) (qx 20 (vb false) (pickA (S8 (S8 (S4 pickZ)))) (qn 21 (pickA (S8 (S8 (S4 (pickS pickZ))))) (unwant rfl (yD (c:=false) 82 rfl) rfl) (qn 22 (pickA (S8 (S8 (S4 (pickS (pickS pickZ)))))) (unwant rfl (yD (c:=false) 82 rfl) rfl) (qn 23 (pickA (S8 (S8 (S4 (pickS (pickS (pickS pickZ))))))) (unwant rfl (yD (c:=false) 82 rfl) rfl) (qx 24 (vb false) (pickA (S8 (S8 (S8 pickZ)))) (qx 25 (vb false) (pickA (S8 (S8 (S8 (pickS pickZ))))) ?_)))))))))))
       refine qn 26 (pickA (S8 (S8 (S8 (pickS (pickS pickZ)))))) (unwant rfl (yD (c:=false) 87 rfl) rfl) (qn 28 (pickA (S8 (S8 (S8 (S4 pickZ))))) (unwant rfl (yD (c:=false) 87 rfl) rfl) (qn 29 (pickA (S8 (S8 (S8 (S4 (pickS pickZ)))))) (unwant rfl (yD (c:=false) 87 rfl) rfl) (qn 30 (pickA (S8 (S8 (S8 (S4 (pickS (pickS pickZ))))))) (unwant rfl (yD (c:=false) 87 rfl) rfl) (qn 31 (pickA (S8 (S8 (S8 (S4 (pickS (pickS (pickS pickZ)))))))) (unwant rfl (yD (c:=false) 87 rfl) rfl) (qn 32 (pickA (S8 (S8 (S8 (S8 pickZ))))) (unwant rfl (yD (c:=false) 87 rfl) rfl) (lg 27 (sx_not (pickA (S8 (S8 (S8 (pickS (pickS (pickS pickZ))))))) (unwant rfl (yD (c:=false) 87 rfl) rfl) (qn 33 (pickA (S8 (S8 (S8 (S8 (pickS pickZ)))))) (unwant rfl (yD (c:=false) 87 rfl) rfl) (qx 34 (vb false) (pickA (S8 (S8 (S8 (S8 (pickS (pickS pickZ))))))) (qx 35 (vb false) (pickA (S8 (S8 (S8 (S8 (pickS (pickS (pickS pickZ)))))))) (qn 36 (pickA (S8 (S8 (S8 (S8 (S4 pickZ)))))) (unwant rfl (yD (c:=false) 97 rfl) rfl) ?_)))))))))))
       refine qn 37 (pickA (S8 (S8 (S8 (S8 (S4 (pickS pickZ))))))) (unwant rfl (yD (c:=false) 97 rfl) rfl) (qn 39 (pickA (S8 (S8 (S8 (S8 (S4 (pickS (pickS (pickS pickZ))))))))) (unwant rfl (yD (c:=false) 97 rfl) rfl) (qn 40 (pickA (S8 (S8 (S8 (S8 (S8 pickZ)))))) (unwant rfl (yD (c:=false) 97 rfl) rfl) (lg 38 (sx_not (pickA (S8 (S8 (S8 (S8 (S4 (pickS (pickS pickZ)))))))) (unwant rfl (yD (c:=false) 97 rfl) rfl) (lg 41 (sx_not (pickA (S8 (S8 (S8 (S8 (S8 (pickS pickZ))))))) (unwant rfl (yD (c:=false) 97 rfl) rfl) (lg 42 (sx_not (pickA (S8 (S8 (S8 (S8 (S8 (pickS (pickS pickZ)))))))) (unwant rfl (yD (c:=false) 97 rfl) rfl) (qx 43 (vb false) (pickA (S8 (S8 (S8 (S8 (S8 (pickS (pickS (pickS pickZ))))))))) (qx 44 (vb false) (pickA (S8 (S8 (S8 (S8 (S8 (S4 pickZ))))))) (qn 45 (pickA (S8 (S8 (S8 (S8 (S8 (S4 (pickS pickZ)))))))) (unwant rfl (yD (c:=false) 106 rfl) rfl) ?_)))))))))))
       refine qn 46 (pickA (S8 (S8 (S8 (S8 (S8 (S4 (pickS (pickS pickZ))))))))) (unwant rfl (yD (c:=false) 106 rfl) rfl) (qn 47 (pickA (S8 (S8 (S8 (S8 (S8 (S4 (pickS (pickS (pickS pickZ)))))))))) (unwant rfl (yD (c:=false) 106 rfl) rfl) (qn 48 (pickA (S8 (S8 (S8 (S8 (S8 (S8 pickZ))))))) (unwant rfl (yD (c:=false) 106 rfl) rfl) (qn 49 (pickA (S8 (S8 (S8 (S8 (S8 (S8 (pickS pickZ)))))))) (unwant rfl (yD (c:=false) 106 rfl) rfl) (qx 50 (vb false) (pickA (S8 (S8 (S8 (S8 (S8 (S8 (pickS (pickS pickZ))))))))) (qx 51 (vb false) (pickA (S8 (S8 (S8 (S8 (S8 (S8 (pickS (pickS (pickS pickZ)))))))))) (lg 52 (sx_not (pickA (S8 (S8 (S8 (S8 (S8 (S8 (S4 pickZ)))))))) (unwant rfl (yD (c:=false) 113 rfl) rfl) (qx 53 (vb false) (pickA (S8 (S8 (S8 (S8 (S8 (S8 (S4 (pickS pickZ))))))))) (qx 54 (vb false) (pickA (S8 (S8 (S8 (S8 (S8 (S8 (S4 (pickS (pickS pickZ)))))))))) (wn (th_n ?_)))))))))))
       refine wpE_ret (rs1 Tryz.results3 (v:=(vb false)) ?_)
       exact ⟨false,rfl,h⟩
     ·have h:=h.2 hg2
      refine sx_not (pickA (S8 (pickS (pickS pickZ)))) (unwant rfl (yD 71 hg2) rfl) (qn 11 (pickA (S8 (pickS (pickS (pickS pickZ))))) (unwant rfl (yD 71 hg2) rfl) (qn 12 (pickA (S8 (S4 pickZ))) (unwant rfl (yD 71 hg2) rfl) (qz 13 (vb false) (pickA (S8 (S4 (pickS pickZ)))) (fun _ _=>(xF hg2)) (qx 14 (vb false) (pickA (S8 (S4 (pickS (pickS pickZ))))) (qn 15 (pickA (S8 (S4 (pickS (pickS (pickS pickZ)))))) (unwant rfl (yD (c:=false) 76 rfl) rfl) (qn 17 (pickA (S8 (S8 (pickS pickZ)))) (unwant rfl (yD (c:=false) 76 rfl) rfl) (lg 16 (sx_not (pickA (S8 (S8 pickZ))) (unwant rfl (yD (c:=false) 76 rfl) rfl) (qn 18 (pickA (S8 (S8 (pickS (pickS pickZ))))) (unwant rfl (yD (c:=false) 76 rfl) rfl) (qx 19 (vb false) (pickA (S8 (S8 (pickS (pickS (pickS pickZ)))))) (qx 20 (vb false) (pickA (S8 (S8 (S4 pickZ)))) ?_)))))))))))
      refine qn 21 (pickA (S8 (S8 (S4 (pickS pickZ))))) (unwant rfl (yD (c:=false) 82 rfl) rfl) (qn 22 (pickA (S8 (S8 (S4 (pickS (pickS pickZ)))))) (unwant rfl (yD (c:=false) 82 rfl) rfl) (qn 23 (pickA (S8 (S8 (S4 (pickS (pickS (pickS pickZ))))))) (unwant rfl (yD (c:=false) 82 rfl) rfl) (qx 24 (vb false) (pickA (S8 (S8 (S8 pickZ)))) (qx 25 (vb false) (pickA (S8 (S8 (S8 (pickS pickZ))))) (qn 26 (pickA (S8 (S8 (S8 (pickS (pickS pickZ)))))) (unwant rfl (yD (c:=false) 87 rfl) rfl) (qn 28 (pickA (S8 (S8 (S8 (S4 pickZ))))) (unwant rfl (yD (c:=false) 87 rfl) rfl) (qn 29 (pickA (S8 (S8 (S8 (S4 (pickS pickZ)))))) (unwant rfl (yD (c:=false) 87 rfl) rfl) (qn 30 (pickA (S8 (S8 (S8 (S4 (pickS (pickS pickZ))))))) (unwant rfl (yD (c:=false) 87 rfl) rfl) (qn 31 (pickA (S8 (S8 (S8 (S4 (pickS (pickS (pickS pickZ)))))))) (unwant rfl (yD (c:=false) 87 rfl) rfl) (qn 32 (pickA (S8 (S8 (S8 (S8 pickZ))))) (unwant rfl (yD (c:=false) 87 rfl) rfl) (lg 27 ?_)))))))))))
      refine sx_not (pickA (S8 (S8 (S8 (pickS (pickS (pickS pickZ))))))) (unwant rfl (yD (c:=false) 87 rfl) rfl) (qn 33 (pickA (S8 (S8 (S8 (S8 (pickS pickZ)))))) (unwant rfl (yD (c:=false) 87 rfl) rfl) (qx 34 (vb false) (pickA (S8 (S8 (S8 (S8 (pickS (pickS pickZ))))))) (qx 35 (vb false) (pickA (S8 (S8 (S8 (S8 (pickS (pickS (pickS pickZ)))))))) (qn 36 (pickA (S8 (S8 (S8 (S8 (S4 pickZ)))))) (unwant rfl (yD (c:=false) 97 rfl) rfl) (qn 37 (pickA (S8 (S8 (S8 (S8 (S4 (pickS pickZ))))))) (unwant rfl (yD (c:=false) 97 rfl) rfl) (qn 39 (pickA (S8 (S8 (S8 (S8 (S4 (pickS (pickS (pickS pickZ))))))))) (unwant rfl (yD (c:=false) 97 rfl) rfl) (qn 40 (pickA (S8 (S8 (S8 (S8 (S8 pickZ)))))) (unwant rfl (yD (c:=false) 97 rfl) rfl) (lg 38 (sx_not (pickA (S8 (S8 (S8 (S8 (S4 (pickS (pickS pickZ)))))))) (unwant rfl (yD (c:=false) 97 rfl) rfl) (lg 41 (sx_not (pickA (S8 (S8 (S8 (S8 (S8 (pickS pickZ))))))) (unwant rfl (yD (c:=false) 97 rfl) rfl) ?_)))))))))))
      refine lg 42 (sx_not (pickA (S8 (S8 (S8 (S8 (S8 (pickS (pickS pickZ)))))))) (unwant rfl (yD (c:=false) 97 rfl) rfl) (qx 43 (vb false) (pickA (S8 (S8 (S8 (S8 (S8 (pickS (pickS (pickS pickZ))))))))) (qx 44 (vb false) (pickA (S8 (S8 (S8 (S8 (S8 (S4 pickZ))))))) (qn 45 (pickA (S8 (S8 (S8 (S8 (S8 (S4 (pickS pickZ)))))))) (unwant rfl (yD (c:=false) 106 rfl) rfl) (qn 46 (pickA (S8 (S8 (S8 (S8 (S8 (S4 (pickS (pickS pickZ))))))))) (unwant rfl (yD (c:=false) 106 rfl) rfl) (qn 47 (pickA (S8 (S8 (S8 (S8 (S8 (S4 (pickS (pickS (pickS pickZ)))))))))) (unwant rfl (yD (c:=false) 106 rfl) rfl) (qn 48 (pickA (S8 (S8 (S8 (S8 (S8 (S8 pickZ))))))) (unwant rfl (yD (c:=false) 106 rfl) rfl) (qn 49 (pickA (S8 (S8 (S8 (S8 (S8 (S8 (pickS pickZ)))))))) (unwant rfl (yD (c:=false) 106 rfl) rfl) (qx 50 (vb false) (pickA (S8 (S8 (S8 (S8 (S8 (S8 (pickS (pickS pickZ))))))))) (qx 51 (vb false) (pickA (S8 (S8 (S8 (S8 (S8 (S8 (pickS (pickS (pickS pickZ)))))))))) (lg 52 ?_)))))))))))
      refine sx_not (pickA (S8 (S8 (S8 (S8 (S8 (S8 (S4 pickZ)))))))) (unwant rfl (yD (c:=false) 113 rfl) rfl) (qx 53 (vb false) (pickA (S8 (S8 (S8 (S8 (S8 (S8 (S4 (pickS pickZ))))))))) (qx 54 (vb false) (pickA (S8 (S8 (S8 (S8 (S8 (S8 (S4 (pickS (pickS pickZ)))))))))) (wn (th_n (wpE_ret (rs1 Tryz.results3 (v:=(vb false)) ?_))))))
      exact ⟨false,rfl,h⟩
    ·have h:=h.2 hg1
     refine sx_not Kp4 (unwant rfl (yD 65 hg1) rfl) (qn 6 Kp6 (unwant rfl (yD 65 hg1) rfl) (lg 5 (sx_not Kp5 (unwant rfl (yD 65 hg1) rfl) (qn 7 Kp7 (unwant rfl (yD 65 hg1) rfl) (qz 8 (vb false) Kp8 (fun _ _=>(xF hg1)) (qx 9 (vb false) Kp9 (qn 10 (pickA (S8 (pickS (pickS pickZ)))) (unwant rfl (yD (c:=false) 71 rfl) rfl) (qn 11 (pickA (S8 (pickS (pickS (pickS pickZ))))) (unwant rfl (yD (c:=false) 71 rfl) rfl) (qn 12 (pickA (S8 (S4 pickZ))) (unwant rfl (yD (c:=false) 71 rfl) rfl) (qx 13 (vb false) (pickA (S8 (S4 (pickS pickZ)))) (qx 14 (vb false) (pickA (S8 (S4 (pickS (pickS pickZ))))) ?_)))))))))))
     refine qn 15 (pickA (S8 (S4 (pickS (pickS (pickS pickZ)))))) (unwant rfl (yD (c:=false) 76 rfl) rfl) (qn 17 (pickA (S8 (S8 (pickS pickZ)))) (unwant rfl (yD (c:=false) 76 rfl) rfl) (lg 16 (sx_not (pickA (S8 (S8 pickZ))) (unwant rfl (yD (c:=false) 76 rfl) rfl) (qn 18 (pickA (S8 (S8 (pickS (pickS pickZ))))) (unwant rfl (yD (c:=false) 76 rfl) rfl) (qx 19 (vb false) (pickA (S8 (S8 (pickS (pickS (pickS pickZ)))))) (qx 20 (vb false) (pickA (S8 (S8 (S4 pickZ)))) (qn 21 (pickA (S8 (S8 (S4 (pickS pickZ))))) (unwant rfl (yD (c:=false) 82 rfl) rfl) (qn 22 (pickA (S8 (S8 (S4 (pickS (pickS pickZ)))))) (unwant rfl (yD (c:=false) 82 rfl) rfl) (qn 23 (pickA (S8 (S8 (S4 (pickS (pickS (pickS pickZ))))))) (unwant rfl (yD (c:=false) 82 rfl) rfl) (qx 24 (vb false) (pickA (S8 (S8 (S8 pickZ)))) (qx 25 (vb false) (pickA (S8 (S8 (S8 (pickS pickZ))))) ?_)))))))))))
     refine qn 26 (pickA (S8 (S8 (S8 (pickS (pickS pickZ)))))) (unwant rfl (yD (c:=false) 87 rfl) rfl) (qn 28 (pickA (S8 (S8 (S8 (S4 pickZ))))) (unwant rfl (yD (c:=false) 87 rfl) rfl) (qn 29 (pickA (S8 (S8 (S8 (S4 (pickS pickZ)))))) (unwant rfl (yD (c:=false) 87 rfl) rfl) (qn 30 (pickA (S8 (S8 (S8 (S4 (pickS (pickS pickZ))))))) (unwant rfl (yD (c:=false) 87 rfl) rfl) (qn 31 (pickA (S8 (S8 (S8 (S4 (pickS (pickS (pickS pickZ)))))))) (unwant rfl (yD (c:=false) 87 rfl) rfl) (qn 32 (pickA (S8 (S8 (S8 (S8 pickZ))))) (unwant rfl (yD (c:=false) 87 rfl) rfl) (lg 27 (sx_not (pickA (S8 (S8 (S8 (pickS (pickS (pickS pickZ))))))) (unwant rfl (yD (c:=false) 87 rfl) rfl) (qn 33 (pickA (S8 (S8 (S8 (S8 (pickS pickZ)))))) (unwant rfl (yD (c:=false) 87 rfl) rfl) (qx 34 (vb false) (pickA (S8 (S8 (S8 (S8 (pickS (pickS pickZ))))))) (qx 35 (vb false) (pickA (S8 (S8 (S8 (S8 (pickS (pickS (pickS pickZ)))))))) (qn 36 (pickA (S8 (S8 (S8 (S8 (S4 pickZ)))))) (unwant rfl (yD (c:=false) 97 rfl) rfl) ?_)))))))))))
     refine qn 37 (pickA (S8 (S8 (S8 (S8 (S4 (pickS pickZ))))))) (unwant rfl (yD (c:=false) 97 rfl) rfl) (qn 39 (pickA (S8 (S8 (S8 (S8 (S4 (pickS (pickS (pickS pickZ))))))))) (unwant rfl (yD (c:=false) 97 rfl) rfl) (qn 40 (pickA (S8 (S8 (S8 (S8 (S8 pickZ)))))) (unwant rfl (yD (c:=false) 97 rfl) rfl) (lg 38 (sx_not (pickA (S8 (S8 (S8 (S8 (S4 (pickS (pickS pickZ)))))))) (unwant rfl (yD (c:=false) 97 rfl) rfl) (lg 41 (sx_not (pickA (S8 (S8 (S8 (S8 (S8 (pickS pickZ))))))) (unwant rfl (yD (c:=false) 97 rfl) rfl) (lg 42 (sx_not (pickA (S8 (S8 (S8 (S8 (S8 (pickS (pickS pickZ)))))))) (unwant rfl (yD (c:=false) 97 rfl) rfl) (qx 43 (vb false) (pickA (S8 (S8 (S8 (S8 (S8 (pickS (pickS (pickS pickZ))))))))) (qx 44 (vb false) (pickA (S8 (S8 (S8 (S8 (S8 (S4 pickZ))))))) (qn 45 (pickA (S8 (S8 (S8 (S8 (S8 (S4 (pickS pickZ)))))))) (unwant rfl (yD (c:=false) 106 rfl) rfl) ?_)))))))))))
     refine qn 46 (pickA (S8 (S8 (S8 (S8 (S8 (S4 (pickS (pickS pickZ))))))))) (unwant rfl (yD (c:=false) 106 rfl) rfl) (qn 47 (pickA (S8 (S8 (S8 (S8 (S8 (S4 (pickS (pickS (pickS pickZ)))))))))) (unwant rfl (yD (c:=false) 106 rfl) rfl) (qn 48 (pickA (S8 (S8 (S8 (S8 (S8 (S8 pickZ))))))) (unwant rfl (yD (c:=false) 106 rfl) rfl) (qn 49 (pickA (S8 (S8 (S8 (S8 (S8 (S8 (pickS pickZ)))))))) (unwant rfl (yD (c:=false) 106 rfl) rfl) (qx 50 (vb false) (pickA (S8 (S8 (S8 (S8 (S8 (S8 (pickS (pickS pickZ))))))))) (qx 51 (vb false) (pickA (S8 (S8 (S8 (S8 (S8 (S8 (pickS (pickS (pickS pickZ)))))))))) (lg 52 (sx_not (pickA (S8 (S8 (S8 (S8 (S8 (S8 (S4 pickZ)))))))) (unwant rfl (yD (c:=false) 113 rfl) rfl) (qx 53 (vb false) (pickA (S8 (S8 (S8 (S8 (S8 (S8 (S4 (pickS pickZ))))))))) (qx 54 (vb false) (pickA (S8 (S8 (S8 (S8 (S8 (S8 (S4 (pickS (pickS pickZ)))))))))) (wn (th_n ?_)))))))))))
     refine wpE_ret (rs1 Tryz.results3 (v:=(vb false)) ?_)
     exact ⟨false,rfl,h⟩
 ·refine rg (q0 l1.v ?_)
  refine sc Tryz.call5 (h.mono ?_)
  rintro e w17 ⟨r20,rfl,hk,h⟩
  refine ⟨_,rfl,?_⟩
  obtain ⟨hs,hb⟩:=hk.hh hs hb
  refine q0 (vb r20) ?_
  refine wpL_join 4 (fun ρ wJ=>∃b2'0:Bool,∃HJ:NP,(r20=b2'0)∧Hst w0 None w17 HJ wJ∧HB HJ wJ []∧Has ρ [(0,l1.v),(1,b1.v),(25,(vb (b2'0 || (decide ((b1.len:Int)>8192)))))]) ?_ ?_
  ·rintro ρ w18 ⟨b2'0,H1,he0,hs,hb,hH⟩
   subst he0
   refine wpL_has hH ?_
   refine wpL_nil ?_
   have h:=h H1 w18 hs
   have hs:=hs.here
   refine th_n ?_
   exact ⟨(r20 || (decide ((b1.len:Int)>8192))),H1,hm,hs,hb,h⟩
  ·rcases Bool.eq_false_or_eq_true r20 with hg10 | hg10
   ·refine sk (yD 21 hg10) (sk (yD 21 hg10) (sk (yD 21 hg10) (q2 (vb true) (xT hg10) (wpL_nil ?_))))
    exact ⟨true,_,hg10,hs,hb,hm⟩
   ·refine q1 b1.v (want1 rfl (yD 21 hg10)) (q1 (vi (b1.len:Int)) (want1 rfl (yD 21 hg10)) (q1 (vb (decide ((b1.len:Int)>8192))) (want1 rfl (yD 21 hg10)) (q2 (vb (decide ((b1.len:Int)>8192))) (xF hg10) (wpL_nil ?_))))
    exact ⟨false,_,hg10,hs,hb,hm⟩
def m_P1_l1 (b2:Sl) (n2:Int) (wl1:World) (Kc1:Sl→Int→WP) (K:Sl→WP):Prop :=
 Br (decide (n2≥128))
  (∃z1:Int,(Go.binOp .or 5 (.int .u8 (IntKind.u8.wrap n2)) (.int .u8 128)).run Tryz.prog wl1=.ok (.int .u8 z1) wl1 ∧
  ∀(p1:Addr) (w2:World),New wl1 (.cells #[(.int .u8 z1)] 5) p1 w2 →
  ∃s1:Sl,∃w3:World,(Builtin.append_ #[23,23] 23 #[b2.v,(Sl.mk (some p1) 1 1).v]).run Tryz.prog w2=.ok s1.v w3 ∧
  ∃z2:Int,(Go.binOp .shr 47 (vu n2) (vu 7)).run Tryz.prog w3=.ok (vu z2) w3 ∧
  Kc1 s1 z2 w3)
  (∀(p2:Addr) (w4:World),New wl1 (.cells #[(.int .u8 (IntKind.u8.wrap n2))] 5) p2 w4 →
  ∃s2:Sl,∃w5:World,(Builtin.append_ #[23,23] 23 #[b2.v,(Sl.mk (some p2) 1 1).v]).run Tryz.prog w4=.ok s2.v w5 ∧
  K s2 w5)
def m_P1 (b1:Sl) (n1:Int) (w0:World) (K:Sl→WP):Prop :=
 Calls Tryz.prog 108 #[b1.v] w0 (fun e w1=>∃r1:Sl,e=.returned r1.v∧
  ∃(I1:Sl→Int→WP) (mu1:Sl→Int→World→Nat),I1 r1 n1 w1 ∧
   ∀(b2:Sl) (n2:Int) (wl1:World),I1 b2 n2 wl1→m_P1_l1 b2 n2 wl1 (fun y'0 y'1 w'=>I1 y'0 y'1 w'∧mu1 y'0 y'1 w'<mu1 b2 n2 wl1) K)
theorem w_P1 (b1 : Sl) (n1 : Int) (w0 : World) (K : Sl → WP) (h : m_P1 b1 n1 w0 K) :
  Calls Tryz.prog 110 #[b1.v,(vu n1)] w0 (fun e w'=>∃r2:Sl,e=.returned r2.v∧K r2 w'):=by
 unfold m_P1 at h
 refine cw (args:=[b1.v,(vu n1)]) Tryz.func110 Tryz.ntmps110 (wpE_seq (rg (q0 Sl.nil.v (wpL_nil (th_n (wpE_seq (rg (q0 b1.v ?_))))))))
 refine sc Tryz.call108 (h.mono ?_)
 rintro e w1 ⟨r1,rfl,h⟩
 refine ⟨_,rfl,?_⟩
 refine q0 r1.v (wpL_nil (th_n (wpE_seq (wpE_block ?_))))
 obtain ⟨I1,mu1,h0,hr⟩:=h
 refine wpE_loop (σ:=Sl×Int×World) (fun s ρ w=>w=s.2.2∧Has ρ [(0,s.1.v),(1,(vu s.2.1))]∧I1 s.1 s.2.1 s.2.2) (fun s=>mu1 s.1 s.2.1 s.2.2) (r1,n1,w1) ⟨rfl,hm,h0⟩ ?_
 rintro ⟨b2,n2,wl1⟩ ρ w ⟨hw,hH,hI⟩
 obtain rfl:wl1=w:=(show w=wl1 from hw).symm
 have hH:Has ρ [(0,b2.v),(1,(vu n2))]:=hH
 have h:=hr b2 n2 wl1 hI
 unfold m_P1_l1 at h
 refine wpE_has hH ?_
 refine wpE_seq (wpE_seq (rg (q0 (vu n2) (q0 (vb (decide (n2≥128))) (wpL_nil (th_n ?_))))))
 refine wpE_cond (t:=(decide (n2≥128))) (by kernel_rfl) (fun hc1=>?_) (fun hc1=>?_)
 ·have h:=h.1 hc1
  refine wpE_skip (th_n (wpE_block (wpE_seq (rg (q0 b2.v (q0 (vu n2) (q0 (.int .u8 (IntKind.u8.wrap n2)) ?_)))))))
  obtain ⟨z1,hv3,h⟩:=h
  refine q2 (.int .u8 z1) (x_bin (by kernel_rfl) (by kernel_rfl) (by kernel_rfl) hv3) (st_new (O:=(.cells #[(.int .u8 z1)] 5)) (fun p=>(Sl.mk (some p) 1 1).v) (want0 rfl) (x_buildSlice (vs:=#[(0,(.int .u8 z1))]) (by kernel_rfl) (by kernel_rfl)) ?_)
  intro p1 w2 hn1
  have h:=h p1 w2 hn1
  obtain ⟨s1,w3,hv2,h⟩:=h
  refine st (v:=s1.v) (want0 rfl) (x_builtin (args:=#[b2.v,(Sl.mk (some p1) 1 1).v]) (by kernel_rfl) (fun _=>rfl) hv2) (q0 s1.v (wpL_nil (th_n (rg (q0 (vu n2) ?_)))))
  obtain ⟨z2,hv1,h⟩:=h
  refine q2 (vu z2) (x_bin (by kernel_rfl) (by kernel_rfl) (by kernel_rfl) hv1) (q0 (vu z2) (wpL_nil (bl_n (th_n ?_))))
  exact ⟨(s1,z2,w3),⟨rfl,hm,h.1⟩,h.2⟩
 ·have h:=h.2 hc1
  refine wpE_exit (th_x (th_x (bl_eq (th_n (wpE_seq (rg (q0 b2.v (q0 (vu n2) (q0 (.int .u8 (IntKind.u8.wrap n2)) (st_new (O:=(.cells #[(.int .u8 (IntKind.u8.wrap n2))] 5)) (fun p=>(Sl.mk (some p) 1 1).v) (want0 rfl) (x_buildSlice (vs:=#[(0,(.int .u8 (IntKind.u8.wrap n2)))]) (by kernel_rfl) (by kernel_rfl)) ?_))))))))))
  intro p2 w4 hn2
  have h:=h p2 w4 hn2
  obtain ⟨s2,w5,hv4,h⟩:=h
  refine st (v:=s2.v) (want0 rfl) (x_builtin (args:=#[b2.v,(Sl.mk (some p2) 1 1).v]) (by kernel_rfl) (fun _=>rfl) hv4) (q0 s2.v (wpL_nil (th_n (wpE_ret (rs1 Tryz.results110 (v:=s2.v) ?_)))))
  exact ⟨s2,rfl,h⟩
def m_V2 (b1:Sl) (aB aA:Int) (aC aD:Int) (aE:ByteArray) (aF aG:Int) (x1:Option Nat) (w0:World) (K:Sl→WP):Prop :=
 ∀(H1:NP) (w1:World),Hst w0 None w0 H1 w1 →
 Calls Tryz.prog 110 #[b1.v,(vu (IntKind.u64.wrap aA))] w1 (fun e w2=>∃r1:Sl,e=.returned r1.v∧
  Kept H1 w1 w2 ∧
  K r1 w2)
theorem w_V2 (b1 : Sl) (aB aA : Int) (aC aD : Int) (aE : ByteArray) (aF aG : Int) (x1 : Option Nat) (w0 : World) (K : Sl → WP) (h : m_V2 b1 aB aA aC aD aE aF aG x1 w0 K) :
  Calls Tryz.prog 109 #[b1.v,(.agg #[(vi aB),(vi aA),(vi aC),(vu aD),(vs aE),(vi aF),(vi aG)]),(.map x1)] w0 (fun e w'=>∃r2:Sl,e=.returned r2.v∧K r2 w'):=by
 unfold m_V2 at h
 refine cw (args:=[b1.v,(.agg #[(vi aB),(vi aA),(vi aC),(vu aD),(vs aE),(vi aF),(vi aG)]),(.map x1)]) Tryz.func109 Tryz.ntmps109 ?_
 have hs:=Hst.start w0
 have hb:=HB.nil None w0
 refine wpE_seq (rg (sn (O:=(.cells #[(vi aB),(vi aA),(vi aC),(vu aD),(vs aE),(vi aF),(vi aG)] 86)) xb ?_))
 intro p1 w1 hn1
 obtain ⟨H1,hs,hb⟩:=hs.alloc hb hn1
 refine q0 Sl.nil.v (wpL_nil (th_n (wpE_seq (rg (q0 b1.v (q0 (vp (some (p1.add 1))) (q2 (vi aA) (xl (Tryz.isAgg3 _) (hb.c 0 1 gZ)) (q0 (vu (IntKind.u64.wrap aA)) ?_))))))))
 have h:=h H1 w1 hs
 have hs:=hs.here
 refine sc Tryz.call110 (h.mono ?_)
 rintro e w2 ⟨r1,rfl,hk,h⟩
 refine ⟨_,rfl,?_⟩
 obtain ⟨hs,hb⟩:=hk.hh hs hb
 refine q0 r1.v (wpL_nil (th_n (wpE_ret (rs1 Tryz.results109 (v:=r1.v) ?_))))
 exact ⟨r1,rfl,h⟩
def m_W2 (r1:Option Addr) (w0:World) (K:Int→WP):Prop :=
 ∀(p1:Addr) (w1:World),New w0 (.cells #[(vp r1)] 125) p1 w1 →
 ∀(p2:Addr) (w2:World),New w1 (.cells #[(vu 0)] 47) p2 w2 →
 ∃v1:Option Addr,w2.cell? p1=some (vp v1) ∧
 Calls Tryz.prog 146 #[(vp v1),(.func (.func 147) #[] #[(vp (some p1)),(vp (some p2))])] w2 (fun e w3=>e=.returned (.tuple #[])∧
  ∃v2:Int,w3.cell? p2=some (vu v2) ∧
  CanW w3 p2∧∀w4:World,w4=w3.setCell p2 (vu v2) →
  ∃aJ:Int,w4.cell? p2=some (vu aJ) ∧
  K aJ w4)
theorem w_W2 (r1 : Option Addr) (w0 : World) (K : Int → WP) (h : m_W2 r1 w0 K) :
  Calls Tryz.prog 112 #[(vp r1)] w0 (fun e w'=>∃r2:Int,e=.returned (vu r2)∧K r2 w'):=by
 unfold m_W2 at h
 refine cw (args:=[(vp r1)]) Tryz.func112 Tryz.ntmps112 (wpE_seq (rg (sn (O:=(.cells #[(vp r1)] 125)) xb ?_)))
 intro p1 w1 hn3
 have h:=h p1 w1 hn3
 refine sn (O:=(.cells #[(vu 0)] 47)) (x_alloc (Tryz.zeroValue47 _) rfl) ?_
 intro p2 w2 hn2
 have h:=h p2 w2 hn2
 refine wpL_nil (th_n (wpE_seq (rg ?_)))
 obtain ⟨v1,hv3,h⟩:=h
 refine q2 (vp v1) (xl (Tryz.isAgg125 _) hv3) (q0 (.func (.func 147) #[] #[(vp (some p1)),(vp (some p2))]) ?_)
 refine sc Tryz.call146 (h.mono ?_)
 rintro e w3 ⟨rfl,h⟩
 refine ⟨_,rfl,?_⟩
 refine wpL_nil (th_n (wpE_seq (rg ?_)))
 obtain ⟨v2,hv2,h⟩:=h
 refine q2 (vu v2) (xl (Tryz.isAgg47 _) hv2) ?_
 obtain ⟨hp1,h⟩:=h
 refine st_set (want0 rfl) (x_store (a:=p2) (v:=(vu v2)) (by kernel_rfl) (by kernel_rfl) rfl (Tryz.sizeOf47 _) hp1) ?_
 intro w4 hn1
 have h:=h w4 hn1
 refine wpL_nil (th_n (wpE_ret ?_))
 obtain ⟨aJ,hv1,h⟩:=h
 refine resG (.inl rfl) (vs:=[(vu aJ)]) (v:=(vu aJ)) Tryz.results112 ⟨(RV.cell1 (A:=p2) (by kernel_rfl) (Tryz.isAgg47 _) hv1),trivial⟩ (by kernel_rfl) ?_
 exact ⟨aJ,rfl,h⟩
def m_X2 (r1:Option Addr) (n1:Option Addr) (w0:World) (K:WP):Prop :=
 Calls Tryz.prog 112 #[(vp r1)] w0 (fun e w1=>∃r2:Int,e=.returned (vu r2)∧
  ∃a1:Addr,n1=some a1 ∧
  CanW w1 (a1.add 7)∧∀w2:World,w2=w1.setCell (a1.add 7) (vu r2) →
  K w2)
theorem w_X2 (r1 : Option Addr) (n1 : Option Addr) (w0 : World) (K : WP) (h : m_X2 r1 n1 w0 K) :
  Calls Tryz.prog 111 #[(vp r1),(vp n1)] w0 (fun e w'=>e=.returned (.tuple #[])∧K  w'):=by
 unfold m_X2 at h
 refine cw (args:=[(vp r1),(vp n1)]) Tryz.func111 Tryz.ntmps111 (rg (q0 (vp n1) (q0 (vp r1) ?_)))
 refine sc Tryz.call112 (h.mono ?_)
 rintro e w1 ⟨r2,rfl,h⟩
 refine ⟨_,rfl,?_⟩
 obtain ⟨a1,hp1,h⟩:=h
 refine q2 (vp (some a1)) (x_nilCheck (p:=n1) (by kernel_rfl) hp1) (q0 (vp (some (a1.add 7))) ?_)
 obtain ⟨hp2,h⟩:=h
 refine st_set (want0 rfl) (x_store (a:=(a1.add 7)) (v:=(vu r2)) (by kernel_rfl) (by kernel_rfl) rfl (Tryz.sizeOf47 _) hp2) ?_
 intro w2 hn1
 have h:=h w2 hn1
 refine wpL_nil (res0 (.inr rfl) Tryz.results111 ?_)
 exact ⟨rfl,h⟩
def m_Y2 (b1:Sl) (aB aA:Int) (aC aD:Int) (aE:ByteArray) (aF aG:Int) (x1:Option Nat) (w0:World) (K:Sl→WP):Prop :=
 ∀(H1:NP) (w1:World),Hst w0 None w0 H1 w1 →
 Calls Tryz.prog 110 #[b1.v,(vu (IntKind.u64.wrap aC))] w1 (fun e w2=>∃r1:Sl,e=.returned r1.v∧
  Kept H1 w1 w2 ∧
  K r1 w2)
theorem w_Y2 (b1 : Sl) (aB aA : Int) (aC aD : Int) (aE : ByteArray) (aF aG : Int) (x1 : Option Nat) (w0 : World) (K : Sl → WP) (h : m_Y2 b1 aB aA aC aD aE aF aG x1 w0 K) :
  Calls Tryz.prog 113 #[b1.v,(.agg #[(vi aB),(vi aA),(vi aC),(vu aD),(vs aE),(vi aF),(vi aG)]),(.map x1)] w0 (fun e w'=>∃r2:Sl,e=.returned r2.v∧K r2 w'):=by
 unfold m_Y2 at h
 refine cw (args:=[b1.v,(.agg #[(vi aB),(vi aA),(vi aC),(vu aD),(vs aE),(vi aF),(vi aG)]),(.map x1)]) Tryz.func113 Tryz.ntmps113 ?_
 have hs:=Hst.start w0
 have hb:=HB.nil None w0
 refine wpE_seq (rg (sn (O:=(.cells #[(vi aB),(vi aA),(vi aC),(vu aD),(vs aE),(vi aF),(vi aG)] 86)) xb ?_))
 intro p1 w1 hn1
 obtain ⟨H1,hs,hb⟩:=hs.alloc hb hn1
 refine q0 Sl.nil.v (wpL_nil (th_n (wpE_seq (rg (q0 b1.v (q0 (vp (some (p1.add 2))) (q2 (vi aC) (xl (Tryz.isAgg3 _) (hb.c 0 2 gZ)) (q0 (vu (IntKind.u64.wrap aC)) ?_))))))))
 have h:=h H1 w1 hs
 have hs:=hs.here
 refine sc Tryz.call110 (h.mono ?_)
 rintro e w2 ⟨r1,rfl,hk,h⟩
 refine ⟨_,rfl,?_⟩
 obtain ⟨hs,hb⟩:=hk.hh hs hb
 refine q0 r1.v (wpL_nil (th_n (wpE_ret (rs1 Tryz.results113 (v:=r1.v) ?_))))
 exact ⟨r1,rfl,h⟩
def m_Z2 (r1:Option Addr) (n1:Option Addr) (w0:World) (K:WP):Prop :=
 Calls Tryz.prog 112 #[(vp r1)] w0 (fun e w1=>∃r2:Int,e=.returned (vu r2)∧
  ∃a1:Addr,n1=some a1 ∧
  CanW w1 (a1.add 8)∧∀w2:World,w2=w1.setCell (a1.add 8) (vu r2) →
  K w2)
theorem w_Z2 (r1 : Option Addr) (n1 : Option Addr) (w0 : World) (K : WP) (h : m_Z2 r1 n1 w0 K) :
  Calls Tryz.prog 114 #[(vp r1),(vp n1)] w0 (fun e w'=>e=.returned (.tuple #[])∧K  w'):=by
 unfold m_Z2 at h
 refine cw (args:=[(vp r1),(vp n1)]) Tryz.func114 Tryz.ntmps114 (rg (q0 (vp n1) (q0 (vp r1) ?_)))
 refine sc Tryz.call112 (h.mono ?_)
 rintro e w1 ⟨r2,rfl,h⟩
 refine ⟨_,rfl,?_⟩
 obtain ⟨a1,hp1,h⟩:=h
 refine q2 (vp (some a1)) (x_nilCheck (p:=n1) (by kernel_rfl) hp1) (q0 (vp (some (a1.add 8))) ?_)
 obtain ⟨hp2,h⟩:=h
 refine st_set (want0 rfl) (x_store (a:=(a1.add 8)) (v:=(vu r2)) (by kernel_rfl) (by kernel_rfl) rfl (Tryz.sizeOf47 _) hp2) ?_
 intro w2 hn1
 have h:=h w2 hn1
 refine wpL_nil (res0 (.inr rfl) Tryz.results114 ?_)
 exact ⟨rfl,h⟩
def m_A3 (b1:Sl) (aB aA:Int) (aC aD:Int) (aE:ByteArray) (aF aG:Int) (x1:Option Nat) (w0:World) (K:Sl→WP):Prop :=
 ∀(H1:NP) (w1:World),Hst w0 None w0 H1 w1 →
 Calls Tryz.prog 110 #[b1.v,(vu aD)] w1 (fun e w2=>∃r1:Sl,e=.returned r1.v∧
  Kept H1 w1 w2 ∧
  K r1 w2)
theorem w_A3 (b1 : Sl) (aB aA : Int) (aC aD : Int) (aE : ByteArray) (aF aG : Int) (x1 : Option Nat) (w0 : World) (K : Sl → WP) (h : m_A3 b1 aB aA aC aD aE aF aG x1 w0 K) :
  Calls Tryz.prog 115 #[b1.v,(.agg #[(vi aB),(vi aA),(vi aC),(vu aD),(vs aE),(vi aF),(vi aG)]),(.map x1)] w0 (fun e w'=>∃r2:Sl,e=.returned r2.v∧K r2 w'):=by
 unfold m_A3 at h
 refine cw (args:=[b1.v,(.agg #[(vi aB),(vi aA),(vi aC),(vu aD),(vs aE),(vi aF),(vi aG)]),(.map x1)]) Tryz.func115 Tryz.ntmps115 ?_
 have hs:=Hst.start w0
 have hb:=HB.nil None w0
 refine wpE_seq (rg (sn (O:=(.cells #[(vi aB),(vi aA),(vi aC),(vu aD),(vs aE),(vi aF),(vi aG)] 86)) xb ?_))
 intro p1 w1 hn1
 obtain ⟨H1,hs,hb⟩:=hs.alloc hb hn1
 refine q0 Sl.nil.v (wpL_nil (th_n (wpE_seq (rg (q0 b1.v (q0 (vp (some (p1.add 3))) (q2 (vu aD) (xl (Tryz.isAgg47 _) (hb.c 0 3 gZ)) ?_)))))))
 have h:=h H1 w1 hs
 have hs:=hs.here
 refine sc Tryz.call110 (h.mono ?_)
 rintro e w2 ⟨r1,rfl,hk,h⟩
 refine ⟨_,rfl,?_⟩
 obtain ⟨hs,hb⟩:=hk.hh hs hb
 refine q0 r1.v (wpL_nil (th_n (wpE_ret (rs1 Tryz.results115 (v:=r1.v) ?_))))
 exact ⟨r1,rfl,h⟩
def m_B3 (r1:Option Addr) (n1:Option Addr) (w0:World) (K:WP):Prop :=
 Calls Tryz.prog 112 #[(vp r1)] w0 (fun e w1=>∃r2:Int,e=.returned (vu r2)∧
  ∃a1:Addr,n1=some a1 ∧
  CanW w1 (a1.add 3)∧∀w2:World,w2=w1.setCell (a1.add 3) (vu r2) →
  K w2)
theorem w_B3 (r1 : Option Addr) (n1 : Option Addr) (w0 : World) (K : WP) (h : m_B3 r1 n1 w0 K) :
  Calls Tryz.prog 116 #[(vp r1),(vp n1)] w0 (fun e w'=>e=.returned (.tuple #[])∧K  w'):=by
 unfold m_B3 at h
 refine cw (args:=[(vp r1),(vp n1)]) Tryz.func116 Tryz.ntmps116 (rg (q0 (vp n1) (q0 (vp r1) ?_)))
 refine sc Tryz.call112 (h.mono ?_)
 rintro e w1 ⟨r2,rfl,h⟩
 refine ⟨_,rfl,?_⟩
 obtain ⟨a1,hp1,h⟩:=h
 refine q2 (vp (some a1)) (x_nilCheck (p:=n1) (by kernel_rfl) hp1) (q0 (vp (some a1)) (q0 (vp (some (a1.add 3))) ?_))
 obtain ⟨hp2,h⟩:=h
 refine st_set (want0 rfl) (x_store (a:=(a1.add 3)) (v:=(vu r2)) (by kernel_rfl) (by kernel_rfl) rfl (Tryz.sizeOf47 _) hp2) ?_
 intro w2 hn1
 have h:=h w2 hn1
 refine wpL_nil (res0 (.inr rfl) Tryz.results116 ?_)
 exact ⟨rfl,h⟩
def m_C3 (b1:Sl) (s1:ByteArray) (w0:World) (K:Sl→WP):Prop :=
 Calls Tryz.prog 110 #[b1.v,(vu (IntKind.u64.wrap (s1.size:Int)))] w0 (fun e w1=>∃r1:Sl,e=.returned r1.v∧
  ∃s2:Sl,∃w2:World,(Builtin.append_ #[23,9] 23 #[r1.v,(vs s1)]).run Tryz.prog w1=.ok s2.v w2 ∧
  K s2 w2)
theorem w_C3 (b1 : Sl) (s1 : ByteArray) (w0 : World) (K : Sl → WP) (h : m_C3 b1 s1 w0 K) :
  Calls Tryz.prog 118 #[b1.v,(vs s1)] w0 (fun e w'=>∃r2:Sl,e=.returned r2.v∧K r2 w'):=by
 unfold m_C3 at h
 refine cw (args:=[b1.v,(vs s1)]) Tryz.func118 Tryz.ntmps118 (wpE_seq (rg (q0 Sl.nil.v (wpL_nil (th_n (wpE_seq (rg (q0 b1.v (q0 (vs s1) (q0 (vi (s1.size:Int)) (q0 (vu (IntKind.u64.wrap (s1.size:Int))) ?_)))))))))))
 refine sc Tryz.call110 (h.mono ?_)
 rintro e w1 ⟨r1,rfl,h⟩
 refine ⟨_,rfl,?_⟩
 refine q0 (vs s1) ?_
 obtain ⟨s2,w2,hv1,h⟩:=h
 refine st (v:=s2.v) (want0 rfl) (x_builtin (args:=#[r1.v,(vs s1)]) (by kernel_rfl) (fun _=>rfl) hv1) (q0 s2.v (wpL_nil (th_n (wpE_ret (rs1 Tryz.results118 (v:=s2.v) ?_)))))
 exact ⟨s2,rfl,h⟩
def m_D3 (b1:Sl) (aB aA:Int) (aC aD:Int) (aE:ByteArray) (aF aG:Int) (x1:Option Nat) (w0:World) (K:Sl→WP):Prop :=
 ∀(H1:NP) (w1:World),Hst w0 None w0 H1 w1 →
 Calls Tryz.prog 118 #[b1.v,(vs aE)] w1 (fun e w2=>∃r1:Sl,e=.returned r1.v∧
  Kept H1 w1 w2 ∧
  K r1 w2)
theorem w_D3 (b1 : Sl) (aB aA : Int) (aC aD : Int) (aE : ByteArray) (aF aG : Int) (x1 : Option Nat) (w0 : World) (K : Sl → WP) (h : m_D3 b1 aB aA aC aD aE aF aG x1 w0 K) :
  Calls Tryz.prog 117 #[b1.v,(.agg #[(vi aB),(vi aA),(vi aC),(vu aD),(vs aE),(vi aF),(vi aG)]),(.map x1)] w0 (fun e w'=>∃r2:Sl,e=.returned r2.v∧K r2 w'):=by
 unfold m_D3 at h
 refine cw (args:=[b1.v,(.agg #[(vi aB),(vi aA),(vi aC),(vu aD),(vs aE),(vi aF),(vi aG)]),(.map x1)]) Tryz.func117 Tryz.ntmps117 ?_
 have hs:=Hst.start w0
 have hb:=HB.nil None w0
 refine wpE_seq (rg (sn (O:=(.cells #[(vi aB),(vi aA),(vi aC),(vu aD),(vs aE),(vi aF),(vi aG)] 86)) xb ?_))
 intro p1 w1 hn1
 obtain ⟨H1,hs,hb⟩:=hs.alloc hb hn1
 refine q0 Sl.nil.v (wpL_nil (th_n (wpE_seq (rg (q0 b1.v (q0 (vp (some (p1.add 4))) (q2 (vs aE) (xl (Tryz.isAgg9 _) (hb.c 0 4 gZ)) ?_)))))))
 have h:=h H1 w1 hs
 have hs:=hs.here
 refine sc Tryz.call118 (h.mono ?_)
 rintro e w2 ⟨r1,rfl,hk,h⟩
 refine ⟨_,rfl,?_⟩
 obtain ⟨hs,hb⟩:=hk.hh hs hb
 refine q0 r1.v (wpL_nil (th_n (wpE_ret (rs1 Tryz.results117 (v:=r1.v) ?_))))
 exact ⟨r1,rfl,h⟩
def m_E3 (r1:Option Addr) (most1:Int) (w0:World) (K:ByteArray→WP):Prop :=
 ∀(p1:Addr) (w1:World),New w0 (.cells #[(vp r1)] 125) p1 w1 →
 ∀(p2:Addr) (w2:World),New w1 (.cells #[(vi most1)] 3) p2 w2 →
 ∀(p3:Addr) (w3:World),New w2 (.cells #[(vs ⟨#[]⟩)] 9) p3 w3 →
 ∃v1:Option Addr,w3.cell? p1=some (vp v1) ∧
 Calls Tryz.prog 146 #[(vp v1),(.func (.func 149) #[] #[(vp (some p1)),(vp (some p2)),(vp (some p3))])] w3 (fun e w4=>e=.returned (.tuple #[])∧
  ∃v2:ByteArray,w4.cell? p3=some (vs v2) ∧
  CanW w4 p3∧∀w5:World,w5=w4.setCell p3 (vs v2) →
  ∃aJ:ByteArray,w5.cell? p3=some (vs aJ) ∧
  K aJ w5)
theorem w_E3 (r1 : Option Addr) (most1 : Int) (w0 : World) (K : ByteArray → WP) (h : m_E3 r1 most1 w0 K) :
  Calls Tryz.prog 120 #[(vp r1),(vi most1)] w0 (fun e w'=>∃r2:ByteArray,e=.returned (vs r2)∧K r2 w'):=by
 unfold m_E3 at h
 refine cw (args:=[(vp r1),(vi most1)]) Tryz.func120 Tryz.ntmps120 (wpE_seq (rg (sn (O:=(.cells #[(vp r1)] 125)) xb ?_)))
 intro p1 w1 hn4
 have h:=h p1 w1 hn4
 refine sn (O:=(.cells #[(vi most1)] 3)) xb ?_
 intro p2 w2 hn3
 have h:=h p2 w2 hn3
 refine sn (O:=(.cells #[(vs ⟨#[]⟩)] 9)) (x_alloc (Tryz.zeroValue9 _) rfl) ?_
 intro p3 w3 hn2
 have h:=h p3 w3 hn2
 refine wpL_nil (th_n (wpE_seq (rg ?_)))
 obtain ⟨v1,hv3,h⟩:=h
 refine q2 (vp v1) (xl (Tryz.isAgg125 _) hv3) (q0 (.func (.func 149) #[] #[(vp (some p1)),(vp (some p2)),(vp (some p3))]) ?_)
 refine sc Tryz.call146 (h.mono ?_)
 rintro e w4 ⟨rfl,h⟩
 refine ⟨_,rfl,?_⟩
 refine wpL_nil (th_n (wpE_seq (rg ?_)))
 obtain ⟨v2,hv2,h⟩:=h
 refine q2 (vs v2) (xl (Tryz.isAgg9 _) hv2) ?_
 obtain ⟨hp1,h⟩:=h
 refine st_set (want0 rfl) (x_store (a:=p3) (v:=(vs v2)) (by kernel_rfl) (by kernel_rfl) rfl (Tryz.sizeOf9 _) hp1) ?_
 intro w5 hn1
 have h:=h w5 hn1
 refine wpL_nil (th_n (wpE_ret ?_))
 obtain ⟨aJ,hv1,h⟩:=h
 refine resG (.inl rfl) (vs:=[(vs aJ)]) (v:=(vs aJ)) Tryz.results120 ⟨(RV.cell1 (A:=p3) (by kernel_rfl) (Tryz.isAgg9 _) hv1),trivial⟩ (by kernel_rfl) ?_
 exact ⟨aJ,rfl,h⟩
def m_F3 (r1:Option Addr) (n1:Option Addr) (w0:World) (K:WP):Prop :=
 Calls Tryz.prog 120 #[(vp r1),(vi 64)] w0 (fun e w1=>∃r2:ByteArray,e=.returned (vs r2)∧
  ∃a1:Addr,n1=some a1 ∧
  CanW w1 (a1.add 4)∧∀w2:World,w2=w1.setCell (a1.add 4) (vs r2) →
  K w2)
theorem w_F3 (r1 : Option Addr) (n1 : Option Addr) (w0 : World) (K : WP) (h : m_F3 r1 n1 w0 K) :
  Calls Tryz.prog 119 #[(vp r1),(vp n1)] w0 (fun e w'=>e=.returned (.tuple #[])∧K  w'):=by
 unfold m_F3 at h
 refine cw (args:=[(vp r1),(vp n1)]) Tryz.func119 Tryz.ntmps119 (rg (q0 (vp n1) (q0 (vp r1) ?_)))
 refine sc Tryz.call120 (h.mono ?_)
 rintro e w1 ⟨r2,rfl,h⟩
 refine ⟨_,rfl,?_⟩
 obtain ⟨a1,hp1,h⟩:=h
 refine q2 (vp (some a1)) (x_nilCheck (p:=n1) (by kernel_rfl) hp1) (q0 (vp (some a1)) (q0 (vp (some (a1.add 4))) ?_))
 obtain ⟨hp2,h⟩:=h
 refine st_set (want0 rfl) (x_store (a:=(a1.add 4)) (v:=(vs r2)) (by kernel_rfl) (by kernel_rfl) rfl (Tryz.sizeOf9 _) hp2) ?_
 intro w2 hn1
 have h:=h w2 hn1
 refine wpL_nil (res0 (.inr rfl) Tryz.results119 ?_)
 exact ⟨rfl,h⟩
def m_G3 (b1:Sl) (aB aA:Int) (aC aD:Int) (aE:ByteArray) (aF aG:Int) (number1:Option Nat) (w0:World) (K:Sl→WP):Prop :=
 ∀(H1:NP) (w1:World),Hst w0 None w0 H1 w1 →
 ∃v1:Int,(Instr.lookup 152 (.map number1) (vi aF) false).run Tryz.prog w1=.ok (vi v1) w1 ∧
 Calls Tryz.prog 110 #[b1.v,(vu (IntKind.u64.wrap v1))] w1 (fun e w2=>∃r1:Sl,e=.returned r1.v∧
  Kept H1 w1 w2 ∧
  K r1 w2)
theorem w_G3 (b1 : Sl) (aB aA : Int) (aC aD : Int) (aE : ByteArray) (aF aG : Int) (number1 : Option Nat) (w0 : World) (K : Sl → WP) (h : m_G3 b1 aB aA aC aD aE aF aG number1 w0 K) :
  Calls Tryz.prog 121 #[b1.v,(.agg #[(vi aB),(vi aA),(vi aC),(vu aD),(vs aE),(vi aF),(vi aG)]),(.map number1)] w0 (fun e w'=>∃r2:Sl,e=.returned r2.v∧K r2 w'):=by
 unfold m_G3 at h
 refine cw (args:=[b1.v,(.agg #[(vi aB),(vi aA),(vi aC),(vu aD),(vs aE),(vi aF),(vi aG)]),(.map number1)]) Tryz.func121 Tryz.ntmps121 ?_
 have hs:=Hst.start w0
 have hb:=HB.nil None w0
 refine wpE_seq (rg (sn (O:=(.cells #[(vi aB),(vi aA),(vi aC),(vu aD),(vs aE),(vi aF),(vi aG)] 86)) xb ?_))
 intro p1 w1 hn1
 obtain ⟨H1,hs,hb⟩:=hs.alloc hb hn1
 refine q0 Sl.nil.v (wpL_nil (th_n (wpE_seq (rg (q0 b1.v (q0 (.map number1) (q0 (vp (some (p1.add 5))) (q2 (vi aF) (xl (Tryz.isAgg30 _) (hb.c 0 5 gZ)) ?_))))))))
 have h:=h H1 w1 hs
 have hs:=hs.here
 obtain ⟨v1,hv1,h⟩:=h
 refine q2 (vi v1) (x_lookup (by kernel_rfl) (by kernel_rfl) hv1) (q0 (vu (IntKind.u64.wrap v1)) ?_)
 refine sc Tryz.call110 (h.mono ?_)
 rintro e w2 ⟨r1,rfl,hk,h⟩
 refine ⟨_,rfl,?_⟩
 obtain ⟨hs,hb⟩:=hk.hh hs hb
 refine q0 r1.v (wpL_nil (th_n (wpE_ret (rs1 Tryz.results121 (v:=r1.v) ?_))))
 exact ⟨r1,rfl,h⟩
def m_H3 (r1:Option Addr) (n1:Option Addr) (w0:World) (K:WP):Prop :=
 Calls Tryz.prog 112 #[(vp r1)] w0 (fun e w1=>∃r2:Int,e=.returned (vu r2)∧
  ∃a1:Addr,n1=some a1 ∧
  CanW w1 (a1.add 9)∧∀w2:World,w2=w1.setCell (a1.add 9) (vu r2) →
  ∃a2:Addr,n1=some a2 ∧
  CanW w2 (a2.add 11)∧∀w3:World,w3=w2.setCell (a2.add 11) (vi 1) →
  K w3)
theorem w_H3 (r1 : Option Addr) (n1 : Option Addr) (w0 : World) (K : WP) (h : m_H3 r1 n1 w0 K) :
  Calls Tryz.prog 122 #[(vp r1),(vp n1)] w0 (fun e w'=>e=.returned (.tuple #[])∧K  w'):=by
 unfold m_H3 at h
 refine cw (args:=[(vp r1),(vp n1)]) Tryz.func122 Tryz.ntmps122 (rg (q0 (vp n1) (q0 (vp n1) (q0 (vp r1) ?_))))
 refine sc Tryz.call112 (h.mono ?_)
 rintro e w1 ⟨r2,rfl,h⟩
 refine ⟨_,rfl,?_⟩
 obtain ⟨a1,hp1,h⟩:=h
 refine q2 (vp (some a1)) (x_nilCheck (p:=n1) (by kernel_rfl) hp1) (q0 (vp (some (a1.add 9))) ?_)
 obtain ⟨hp2,h⟩:=h
 refine st_set (want0 rfl) (x_store (a:=(a1.add 9)) (v:=(vu r2)) (by kernel_rfl) (by kernel_rfl) rfl (Tryz.sizeOf47 _) hp2) ?_
 intro w2 hn1
 have h:=h w2 hn1
 obtain ⟨a2,hp3,h⟩:=h
 refine q2 (vp (some a2)) (x_nilCheck (p:=n1) (by kernel_rfl) hp3) (q0 (vp (some (a2.add 11))) ?_)
 obtain ⟨hp4,h⟩:=h
 refine st_set (want0 rfl) (x_store (a:=(a2.add 11)) (v:=(vi 1)) (by kernel_rfl) (by kernel_rfl) rfl (Tryz.sizeOf3 _) hp4) ?_
 intro w3 hn2
 have h:=h w3 hn2
 refine wpL_nil (res0 (.inr rfl) Tryz.results122 ?_)
 exact ⟨rfl,h⟩
def m_I3 (b1:Sl) (aB aA:Int) (aC aD:Int) (aE:ByteArray) (aF aG:Int) (number1:Option Nat) (w0:World) (K:Sl→WP):Prop :=
 ∀(H1:NP) (w1:World),Hst w0 None w0 H1 w1 →
 ∃v1:Int,(Instr.lookup 152 (.map number1) (vi aG) false).run Tryz.prog w1=.ok (vi v1) w1 ∧
 Calls Tryz.prog 110 #[b1.v,(vu (IntKind.u64.wrap v1))] w1 (fun e w2=>∃r1:Sl,e=.returned r1.v∧
  Kept H1 w1 w2 ∧
  K r1 w2)
theorem w_I3 (b1 : Sl) (aB aA : Int) (aC aD : Int) (aE : ByteArray) (aF aG : Int) (number1 : Option Nat) (w0 : World) (K : Sl → WP) (h : m_I3 b1 aB aA aC aD aE aF aG number1 w0 K) :
  Calls Tryz.prog 123 #[b1.v,(.agg #[(vi aB),(vi aA),(vi aC),(vu aD),(vs aE),(vi aF),(vi aG)]),(.map number1)] w0 (fun e w'=>∃r2:Sl,e=.returned r2.v∧K r2 w'):=by
 unfold m_I3 at h
 refine cw (args:=[b1.v,(.agg #[(vi aB),(vi aA),(vi aC),(vu aD),(vs aE),(vi aF),(vi aG)]),(.map number1)]) Tryz.func123 Tryz.ntmps123 ?_
 have hs:=Hst.start w0
 have hb:=HB.nil None w0
 refine wpE_seq (rg (sn (O:=(.cells #[(vi aB),(vi aA),(vi aC),(vu aD),(vs aE),(vi aF),(vi aG)] 86)) xb ?_))
 intro p1 w1 hn1
 obtain ⟨H1,hs,hb⟩:=hs.alloc hb hn1
 refine q0 Sl.nil.v (wpL_nil (th_n (wpE_seq (rg (q0 b1.v (q0 (.map number1) (q0 (vp (some (p1.add 6))) (q2 (vi aG) (xl (Tryz.isAgg30 _) (hb.c 0 6 gZ)) ?_))))))))
 have h:=h H1 w1 hs
 have hs:=hs.here
 obtain ⟨v1,hv1,h⟩:=h
 refine q2 (vi v1) (x_lookup (by kernel_rfl) (by kernel_rfl) hv1) (q0 (vu (IntKind.u64.wrap v1)) ?_)
 refine sc Tryz.call110 (h.mono ?_)
 rintro e w2 ⟨r1,rfl,hk,h⟩
 refine ⟨_,rfl,?_⟩
 obtain ⟨hs,hb⟩:=hk.hh hs hb
 refine q0 r1.v (wpL_nil (th_n (wpE_ret (rs1 Tryz.results123 (v:=r1.v) ?_))))
 exact ⟨r1,rfl,h⟩
def m_J3 (r1:Option Addr) (n1:Option Addr) (w0:World) (K:WP):Prop :=
 Calls Tryz.prog 112 #[(vp r1)] w0 (fun e w1=>∃r2:Int,e=.returned (vu r2)∧
  ∃a1:Addr,n1=some a1 ∧
  CanW w1 (a1.add 10)∧∀w2:World,w2=w1.setCell (a1.add 10) (vu r2) →
  ∃a2:Addr,n1=some a2 ∧
  CanW w2 (a2.add 11)∧∀w3:World,w3=w2.setCell (a2.add 11) (vi 2) →
  K w3)
theorem w_J3 (r1 : Option Addr) (n1 : Option Addr) (w0 : World) (K : WP) (h : m_J3 r1 n1 w0 K) :
  Calls Tryz.prog 124 #[(vp r1),(vp n1)] w0 (fun e w'=>e=.returned (.tuple #[])∧K  w'):=by
 unfold m_J3 at h
 refine cw (args:=[(vp r1),(vp n1)]) Tryz.func124 Tryz.ntmps124 (rg (q0 (vp n1) (q0 (vp n1) (q0 (vp r1) ?_))))
 refine sc Tryz.call112 (h.mono ?_)
 rintro e w1 ⟨r2,rfl,h⟩
 refine ⟨_,rfl,?_⟩
 obtain ⟨a1,hp1,h⟩:=h
 refine q2 (vp (some a1)) (x_nilCheck (p:=n1) (by kernel_rfl) hp1) (q0 (vp (some (a1.add 10))) ?_)
 obtain ⟨hp2,h⟩:=h
 refine st_set (want0 rfl) (x_store (a:=(a1.add 10)) (v:=(vu r2)) (by kernel_rfl) (by kernel_rfl) rfl (Tryz.sizeOf47 _) hp2) ?_
 intro w2 hn1
 have h:=h w2 hn1
 obtain ⟨a2,hp3,h⟩:=h
 refine q2 (vp (some a2)) (x_nilCheck (p:=n1) (by kernel_rfl) hp3) (q0 (vp (some (a2.add 11))) ?_)
 obtain ⟨hp4,h⟩:=h
 refine st_set (want0 rfl) (x_store (a:=(a2.add 11)) (v:=(vi 2)) (by kernel_rfl) (by kernel_rfl) rfl (Tryz.sizeOf3 _) hp4) ?_
 intro w3 hn2
 have h:=h w3 hn2
 refine wpL_nil (res0 (.inr rfl) Tryz.results124 ?_)
 exact ⟨rfl,h⟩
def m_F1_j1 (r1:Option Addr) (w0:World) (H:NP) (w:World) (K:Option (List PanicEntry)→Int→WP):Prop :=
 ∃a3:Addr,r1=some a3 ∧
 ∃v3:Int,w.cell? (a3.add 1)=some (vi v3) ∧
 ∃a4:Addr,r1=some a4 ∧
 CanW w (a4.add 1)∧¬ H (a4.add 1).block∧∀w2:World,w2=w.setCell (a4.add 1) (vi (q6.wrap (v3+1))) →
 ∃a5:Addr,r1=some a5 ∧
 ∀(w3:World),Hst w0 H w2 H w3 →
 ∃v4:Sl,w3.cell? a5=some v4.v ∧
 ∃a6:Addr,r1=some a6 ∧
 ∃v5:Int,w3.cell? (a6.add 1)=some (vi v5) ∧
 ∃a7:Addr,At v4 (q6.wrap (v5 - 1)) 1 a7 ∧
 ∃v6:Int,w3.cell? a7=some (.int .u8 v6) ∧
 K none v6 w3
def m_F1 (r1:Option Addr) (w0:World) (K:Option (List PanicEntry)→Int→WP):Prop :=
 ∃a1:Addr,r1=some a1 ∧
 ∀(w1:World),Hst w0 None w0 None w1 →
 ∃v1:Int,w1.cell? (a1.add 1)=some (vi v1) ∧
 ∃a2:Addr,r1=some a2 ∧
 ∃v2:Sl,w1.cell? a2=some v2.v ∧
 Br (v1 == (v2.len:Int))
  (K (some [{ v:=(.iface 202 (vi 3)),recovered:=false }]) 0 w1)
  (m_F1_j1 r1 w0 None w1 K)
theorem w_F1 (r1 : Option Addr) (w0 : World) (K : Option (List PanicEntry) → Int → WP) (h : m_F1 r1 w0 K) :
  Calls Tryz.prog 151 #[(vp r1)] w0 (fun e w'=>(∃r2:Int,e=.returned (.int .u8 r2)∧K none r2 w')∨∃ch,e=.panicked ch∧K (some ch) 0 w'):=by
 unfold m_F1 at h
 refine calls_of_wpEP (args:=[(vp r1)]) Tryz.func151 rfl Tryz.ntmps151 (Nat.le_of_ble_eq_true rfl) ?_
 have hs:=Hst.start w0
 have hb:=HB.nil None w0
 refine wpE_seq (rg (q0 (.int .u8 0) (wpL_nil (th_n (wpE_seq (wpE_seq (wpE_drawnQ (by kernel_rfl) (by kernel_rfl) (by kernel_rfl) (by kernel_rfl) ?_)))))))
 intro w1 hw1
 have hs:Hst w0 None w0 None w1:=by rw [hw1];exact hs.drew
 have hb:HB None w1 []:=by rw [hw1];exact hb.drew
 refine qq 0 (vp r1) Kp0 (qg 1 ?_)
 obtain ⟨a1,hp1,h⟩:=h
 refine sxQ (v:=(vp (some a1))) Kp1 (want0 rfl) rfl (x_nilCheck (p:=r1) (by kernel_rfl) hp1) (qq 2 (vp (some (a1.add 1))) Kp2 (qg 3 ?_))
 have h:=h w1 hs
 have hs:=hs.here
 obtain ⟨v1,hv7,h⟩:=h
 refine sxQ (v:=(vi v1)) Kp3 (want0 rfl) rfl (xl (Tryz.isAgg3 _) hv7) (qq 4 (vp r1) Kp4 (qg 5 ?_))
 obtain ⟨a2,hp2,h⟩:=h
 refine sxQ (v:=(vp (some a2))) Kp5 (want0 rfl) rfl (x_nilCheck (p:=r1) (by kernel_rfl) hp2) (qq 6 (vp (some a2)) Kp6 (qg 7 ?_))
 obtain ⟨v2,hv6,h⟩:=h
 refine sxQ (v:=v2.v) Kp7 (want0 rfl) rfl (xl (Tryz.isAgg23 _) hv6) (qq 8 (vi (v2.len:Int)) Kp8 (qq 9 (vb (v1 == (v2.len:Int))) Kp9 (wn (th_n ?_))))
 refine wpE_joinT (fun ρ w=>∃H:NP,Has ρ [(0,(vp r1))]∧Hst w0 H w H w∧HB H w []∧m_F1_j1 r1 w0 H w K) ?_ ?_
 ·rintro ρ w ⟨H,hH,hs,hb,h⟩
  unfold m_F1_j1 at h
  refine wpE_has hH ?_
  refine wpE_seq (rg (q0 (vp r1) ?_))
  obtain ⟨a3,hp3,h⟩:=h
  refine q2 (vp (some a3)) (x_nilCheck (p:=r1) (by kernel_rfl) hp3) (q0 (vp (some (a3.add 1))) ?_)
  obtain ⟨v3,hv5,h⟩:=h
  refine q2 (vi v3) (xl (Tryz.isAgg3 _) hv5) (q0 (vi (q6.wrap (v3+1))) ?_)
  obtain ⟨a4,hp4,h⟩:=h
  refine q2 (vp (some a4)) (x_nilCheck (p:=r1) (by kernel_rfl) hp4) (q0 (vp (some (a4.add 1))) ?_)
  obtain ⟨hp5,hnh,h⟩:=h
  refine st_set (want0 rfl) (x_store (a:=(a4.add 1)) (v:=(vi (q6.wrap (v3+1)))) (by kernel_rfl) (by kernel_rfl) rfl (Tryz.sizeOf3 _) hp5) ?_
  intro w2 hn1
  have h:=h w2 hn1
  have hk:=Kept.sc hnh hn1
  obtain ⟨hs,hb⟩:=hk.hh hs hb
  refine wpL_nil (th_n (wpE_seq (wpE_drawnQ (by kernel_rfl) (by kernel_rfl) (by kernel_rfl) (by kernel_rfl) ?_)))
  intro w3 hw3
  have hs:Hst w0 H w2 H w3:=by rw [hw3];exact hs.drew
  have hb:HB H w3 []:=by rw [hw3];exact hb.drew
  refine qq 0 (vp r1) Kp0 (qg 1 ?_)
  obtain ⟨a5,hp6,h⟩:=h
  refine sxQ (v:=(vp (some a5))) Kp1 (want0 rfl) rfl (x_nilCheck (p:=r1) (by kernel_rfl) hp6) (qq 2 (vp (some a5)) Kp2 (qg 3 ?_))
  have h:=h w3 hs
  have hs:=hs.here
  obtain ⟨v4,hv4,h⟩:=h
  refine sxQ (v:=v4.v) Kp3 (want0 rfl) rfl (xl (Tryz.isAgg23 _) hv4) (qq 4 (vp r1) Kp4 (qg 5 ?_))
  obtain ⟨a6,hp7,h⟩:=h
  refine sxQ (v:=(vp (some a6))) Kp5 (want0 rfl) rfl (x_nilCheck (p:=r1) (by kernel_rfl) hp7) (qq 6 (vp (some (a6.add 1))) Kp6 (qg 7 ?_))
  obtain ⟨v5,hv3,h⟩:=h
  refine sxQ (v:=(vi v5)) Kp7 (want0 rfl) rfl (xl (Tryz.isAgg3 _) hv3) (qq 8 (vi (q6.wrap (v5 - 1))) Kp8 (qg 9 ?_))
  obtain ⟨a7,hv2,h⟩:=h
  refine sxQ (v:=(vp (some a7))) Kp9 (want0 rfl) rfl (xi (Tryz.runUnderlying23 _) (Tryz.sizeOf5 _) hv2) (qg 10 ?_)
  obtain ⟨v6,hv1,h⟩:=h
  refine sxQ (v:=(.int .u8 v6)) (pickA (S8 (pickS (pickS pickZ)))) (want0 rfl) rfl (xl (Tryz.isAgg5 _) hv1) (qq 11 (.int .u8 v6) (pickA (S8 (pickS (pickS (pickS pickZ))))) (wn (th_n (wpE_ret (ep (rs1 Tryz.results151 (v:=(.int .u8 v6)) ?_))))))
  exact .inl ⟨v6,rfl,h⟩
 ·refine wpE_cond (t:=(v1 == (v2.len:Int))) (by kernel_rfl) (fun hc1=>?_) (fun hc1=>?_)
  ·have h:=h.1 hc1
   refine wpE_regionP (by kernel_rfl) (wpLP_split 1 (q0 (.iface 202 (vi 3)) (wpL_nil ?_)))
   refine sp_panic (want0 rfl) (by intro c hc;cases hc) (x_panic (by kernel_rfl)) (fun ρ'=>.inr ⟨_,rfl,h⟩)
  ·have h:=h.2 hc1
   refine wpE_skip (th_n ?_)
   exact ⟨None,hm,hs,hb,h⟩
def m_Q_j2 (n1 i1 r2:Int) (w:World) (Kc1:Int→Int→WP) (K:Option (List PanicEntry)→Int→WP):Prop :=
 ∃z1:Int,(Go.binOp .and 5 (.int .u8 r2) (.int .u8 127)).run Tryz.prog w=.ok (.int .u8 z1) w ∧
 ∃z2:Int,(Go.binOp .shl 47 (vu (IntKind.u64.wrap z1)) (vi (q6.wrap (7*i1)))).run Tryz.prog w=.ok (vu z2) w ∧
 ∃z3:Int,(Go.binOp .or 47 (vu n1) (vu z2)).run Tryz.prog w=.ok (vu z3) w ∧
 Br (decide (r2<128))
  (Br ((r2 == 0) && (decide (i1>0)))
   (K (some [{ v:=(.iface 202 (vi 10)),recovered:=false }]) 0 w)
   (K none z3 w))
  (Kc1 z3 (q6.wrap (i1+1)) w)
def m_Q_l1 (r1:Option Addr) (n1 i1:Int) (wl1:World) (Kc1:Int→Int→WP) (K:Option (List PanicEntry)→Int→WP):Prop :=
 Calls Tryz.prog 151 #[(vp r1)] wl1 (fun e w1=>(∃r2:Int,e=.returned (.int .u8 r2) ∧
  Br ((i1 == 9) && (decide (r2>1)))
   (K (some [{ v:=(.iface 202 (vi 11)),recovered:=false }]) 0 w1)
   (m_Q_j2 n1 i1 r2 w1 Kc1 K))∨∃ch,e=.panicked ch∧K (some ch) 0 w1)
def m_Q (r1:Option Addr) (w0:World) (K:Option (List PanicEntry)→Int→WP):Prop :=
 ∃(I1:Int→Int→WP) (mu1:Int→Int→World→Nat),I1 0 0 w0 ∧
  ∀(n1 i1:Int) (wl1:World),I1 n1 i1 wl1→m_Q_l1 r1 n1 i1 wl1 (fun y'0 y'1 w'=>I1 y'0 y'1 w'∧mu1 y'0 y'1 w'<mu1 n1 i1 wl1) K
theorem w_Q (r1 : Option Addr) (w0 : World) (K : Option (List PanicEntry) → Int → WP) (h : m_Q r1 w0 K) :
  Calls Tryz.prog 148 #[(vp r1)] w0 (fun e w'=>(∃r3:Int,e=.returned (vu r3)∧K none r3 w')∨∃ch,e=.panicked ch∧K (some ch) 0 w'):=by
 unfold m_Q at h
 refine calls_of_wpEP (args:=[(vp r1)]) Tryz.func148 rfl Tryz.ntmps148 (Nat.le_of_ble_eq_true rfl) (wpE_seq (rg (q0 (vu 0) (wpL_nil (th_n (wpE_seq (rg (q0 (vu 0) (wpL_nil (th_n (wpE_seq ?_)))))))))))
 refine rg (q0 (vi 0) (wpL_nil (th_n (wpE_block ?_))))
 obtain ⟨I1,mu1,h0,hr⟩:=h
 refine wpE_loop (σ:=Int×Int×World) (fun s ρ w=>w=s.2.2∧Has ρ [(0,(vp r1)),(3,(vu s.1)),(4,(vi s.2.1))]∧I1 s.1 s.2.1 s.2.2) (fun s=>mu1 s.1 s.2.1 s.2.2) (0,0,w0) ⟨rfl,hm,h0⟩ ?_
 rintro ⟨n1,i1,wl1⟩ ρ w ⟨hw,hH,hI⟩
 obtain rfl:wl1=w:=(show w=wl1 from hw).symm
 have hH:Has ρ [(0,(vp r1)),(3,(vu n1)),(4,(vi i1))]:=hH
 have h:=hr n1 i1 wl1 hI
 unfold m_Q_l1 at h
 refine wpE_has hH ?_
 refine wpE_seq (wpE_block (wpE_seq (wpE_regionP (by kernel_rfl) (wpLP_split 1 (q0 (vp r1) (wpL_nil ?_))))))
 refine sp_call (want0 rfl) (by intro c hc;cases hc) (xc Tryz.call151) (h.mono ?_)
 rintro e w1 (⟨r2,rfl,h⟩ | ⟨ch,rfl,h⟩)
 rotate_left
 ·exact .inr ⟨ch,rfl,fun ρ'=>.inr ⟨ch,rfl,h⟩⟩
 refine .inl ⟨_,rfl,?_⟩
 refine wpLP_last (q0 (.int .u8 r2) (wpL_nil (th_n (wpE_seq (wpE_seq ?_)))))
 refine wpE_via (fun ρ wJ=>∃b1'0:Bool,((i1 == 9)=b1'0)∧w1=wJ∧Has ρ [(0,(vp r1)),(3,(vu n1)),(4,(vi i1)),(5,(.int .u8 r2)),(15,(vb (b1'0 && (decide (r2>1)))))]) ?_ ?_
 ·refine rg (q0 (vi i1) (q0 (vb (i1 == 9)) (q0 (vb (i1 == 9)) ?_)))
  rcases Bool.eq_false_or_eq_true (i1 == 9) with hg2 | hg2
  ·refine q1 (.int .u8 r2) (want1 rfl (yD 12 hg2)) (q1 (vb (decide (r2>1))) (want1 rfl (yD 12 hg2)) (q2 (vb (decide (r2>1))) (xT hg2) (wpL_nil (th_n ?_))))
   exact ⟨true,hg2,rfl,hm⟩
  ·refine sk (yD 12 hg2) (sk (yD 12 hg2) (q2 (vb false) (xF hg2) (wpL_nil (th_n ?_))))
   exact ⟨false,hg2,rfl,hm⟩
 ·rintro ρ w2 ⟨b1'0,he0,hw,hH⟩
  subst he0
  subst hw
  refine norm_has hH ?_
  refine th_n ?_
  refine wpE_joinT (fun ρ w=>Has ρ [(0,(vp r1)),(3,(vu n1)),(4,(vi i1)),(5,(.int .u8 r2))]∧m_Q_j2 n1 i1 r2 w (fun y'0 y'1 w'=>I1 y'0 y'1 w'∧mu1 y'0 y'1 w'<mu1 n1 i1 wl1) K) ?_ ?_
  ·rintro ρ w ⟨hH,h⟩
   unfold m_Q_j2 at h
   refine wpE_has hH ?_
   refine wpE_seq (rg (q0 (vu n1) (q0 (.int .u8 r2) ?_)))
   obtain ⟨z1,hv3,h⟩:=h
   refine q2 (.int .u8 z1) (x_bin (by kernel_rfl) (by kernel_rfl) (by kernel_rfl) hv3) (q0 (vu (IntKind.u64.wrap z1)) (q0 (vi i1) (q0 (vi (q6.wrap (7*i1))) ?_)))
   obtain ⟨z2,hv2,h⟩:=h
   refine q2 (vu z2) (x_bin (by kernel_rfl) (by kernel_rfl) (by kernel_rfl) hv2) ?_
   obtain ⟨z3,hv1,h⟩:=h
   refine q2 (vu z3) (x_bin (by kernel_rfl) (by kernel_rfl) (by kernel_rfl) hv1) (q0 (vu z3) (wpL_nil (th_n (wpE_seq (rg (q0 (.int .u8 r2) (q0 (vb (decide (r2<128))) (wpL_nil (th_n ?_)))))))))
   refine wpE_cond (t:=(decide (r2<128))) (by kernel_rfl) (fun hc1=>?_) (fun hc1=>?_)
   ·have h:=h.1 hc1
    refine wpE_seq (wpE_seq ?_)
    refine wpE_via (fun ρ wJ=>∃b2'0:Bool,((r2 == 0)=b2'0)∧w=wJ∧Has ρ [(3,(vu z3)),(32,(vb (b2'0 && (decide (i1>0)))))]) ?_ ?_
    ·refine rg (q0 (.int .u8 r2) (q0 (vb (r2 == 0)) (q0 (vb (r2 == 0)) ?_)))
     rcases Bool.eq_false_or_eq_true (r2 == 0) with hg4 | hg4
     ·refine q1 (vi i1) (want1 rfl (yD 29 hg4)) (q1 (vb (decide (i1>0))) (want1 rfl (yD 29 hg4)) (q2 (vb (decide (i1>0))) (xT hg4) (wpL_nil (th_n ?_))))
      exact ⟨true,hg4,rfl,hm⟩
     ·refine sk (yD 29 hg4) (sk (yD 29 hg4) (q2 (vb false) (xF hg4) (wpL_nil (th_n ?_))))
      exact ⟨false,hg4,rfl,hm⟩
    ·rintro ρ w3 ⟨b2'0,he0,hw,hH⟩
     subst he0
     subst hw
     refine norm_has hH ?_
     refine th_n ?_
     refine wpE_cond (t:=((r2 == 0) && (decide (i1>0)))) (by kernel_rfl) (fun hc2=>?_) (fun hc2=>?_)
     ·have h:=h.1 hc2
      refine wpE_regionP (by kernel_rfl) (wpLP_split 1 (q0 (.iface 202 (vi 10)) (wpL_nil ?_)))
      refine sp_panic (want0 rfl) (by intro c hc;cases hc) (x_panic (by kernel_rfl)) (fun ρ'=>.inr ⟨_,rfl,h⟩)
     ·have h:=h.2 hc2
      refine wpE_skip (th_n (wpE_seq (rg (q0 (vu z3) (q0 (vu z3) (wpL_nil (th_n (wpE_ret (bl_r (th_r (th_r ?_)))))))))))
      refine bl_r (ep (rs1 Tryz.results148 (v:=(vu z3)) ?_))
      exact .inl ⟨z3,rfl,h⟩
   ·have h:=h.2 hc1
    refine wpE_skip (bl_n (th_n (rg (q0 (vi i1) (q0 (vi (q6.wrap (i1+1))) (q0 (vi (q6.wrap (i1+1))) (wpL_nil (th_n ?_))))))))
    exact ⟨(z3,(q6.wrap (i1+1)),w),⟨rfl,hm,h.1⟩,h.2⟩
  ·refine wpE_cond (t:=((i1 == 9) && (decide (r2>1)))) (by kernel_rfl) (fun hc3=>?_) (fun hc3=>?_)
   ·have h:=h.1 hc3
    refine wpE_regionP (by kernel_rfl) (wpLP_split 1 (q0 (.iface 202 (vi 11)) (wpL_nil ?_)))
    refine sp_panic (want0 rfl) (by intro c hc;cases hc) (x_panic (by kernel_rfl)) (fun ρ'=>.inr ⟨_,rfl,h⟩)
   ·have h:=h.2 hc3
    refine wpE_skip (th_n ?_)
    exact ⟨hm,h⟩
def m_K3 (cap1 cap2:Addr) (w0:World) (K:Option (List PanicEntry)→WP):Prop :=
 ∃v1:Option Addr,w0.cell? cap1=some (vp v1) ∧
 Calls Tryz.prog 148 #[(vp v1)] w0 (fun e w1=>(∃r1:Int,e=.returned (vu r1) ∧
  CanW w1 cap2∧∀w2:World,w2=w1.setCell cap2 (vu r1) →
  K none w2)∨∃ch,e=.panicked ch∧K (some ch)  w1)
theorem w_K3 (cap1 cap2 : Addr) (w0 : World) (K : Option (List PanicEntry) → WP) (h : m_K3 cap1 cap2 w0 K) :
  Calls Tryz.prog 147 #[(vp (some cap1)),(vp (some cap2))] w0 (fun e w'=>(e=.returned (.tuple #[])∧K none  w')∨∃ch,e=.panicked ch∧K (some ch)  w'):=by
 unfold m_K3 at h
 refine calls_of_wpEP (args:=[(vp (some cap1)),(vp (some cap2))]) Tryz.func147 rfl Tryz.ntmps147 (Nat.le_of_ble_eq_true rfl) (wpE_regionP (by kernel_rfl) (wpLP_split 1 ?_))
 obtain ⟨v1,hv1,h⟩:=h
 refine q2 (vp v1) (xl (Tryz.isAgg125 _) hv1) (wpL_nil ?_)
 refine sp_call (want0 rfl) (by intro c hc;cases hc) (xc Tryz.call148) (h.mono ?_)
 rintro e w1 (⟨r1,rfl,h⟩ | ⟨ch,rfl,h⟩)
 rotate_left
 ·exact .inr ⟨ch,rfl,fun ρ'=>.inr ⟨ch,rfl,h⟩⟩
 refine .inl ⟨_,rfl,?_⟩
 refine wpLP_last ?_
 obtain ⟨hp1,h⟩:=h
 refine st_set (want0 rfl) (x_store (a:=cap2) (v:=(vu r1)) (by kernel_rfl) (by kernel_rfl) rfl (Tryz.sizeOf47 _) hp1) ?_
 intro w2 hn1
 have h:=h w2 hn1
 refine wpL_nil (ep (res0 (.inr rfl) Tryz.results147 ?_))
 exact .inl ⟨rfl,h⟩
def m_N_j3 (cap1 cap3:Addr) (r1:Int) (H:NP) (w:World) (K:Option (List PanicEntry)→WP):Prop :=
 ∃C1:WP,C1 w.drew∧∀w3,w3=w.drew →
 ∃v6:Option Addr,w3.cell? cap1=some (vp v6) ∧
 ∃a3:Addr,v6=some a3 ∧
 ∃v7:Sl,w3.cell? a3=some v7.v ∧
 ∃v8:Option Addr,w3.cell? cap1=some (vp v8) ∧
 ∃a4:Addr,v8=some a4 ∧
 ∃v9:Int,w3.cell? (a4.add 1)=some (vi v9) ∧
 ∃v10:Option Addr,w3.cell? cap1=some (vp v10) ∧
 ∃a5:Addr,v10=some a5 ∧
 ∃v11:Int,w3.cell? (a5.add 1)=some (vi v11) ∧
 ∃s1:Sl,(Instr.sliceAt 23 v7.v (some (vi v9)) (some (vi (q6.wrap (v11+(q6.wrap r1))))) none).run Tryz.prog w3=.ok s1.v w3 ∧
 ∃c1:ByteArray,(convert 23 9 s1.v).run Tryz.prog w3=.ok (vs c1) w3 ∧
 CanW w3 cap3∧¬ H cap3.block∧∀w4:World,w4=w3.setCell cap3 (vs c1) →
 ∃v12:Option Addr,w4.cell? cap1=some (vp v12) ∧
 ∃a6:Addr,v12=some a6 ∧
 ∃v13:Int,w4.cell? (a6.add 1)=some (vi v13) ∧
 ∃a7:Addr,v12=some a7 ∧
 CanW w4 (a7.add 1)∧¬ H (a7.add 1).block∧∀w5:World,w5=w4.setCell (a7.add 1) (vi (q6.wrap (v13+(q6.wrap r1)))) →
 K none w5
def m_N_j2 (cap1 cap3:Addr) (r1:Int) (w0:World) (H:NP) (w:World) (K:Option (List PanicEntry)→WP):Prop :=
 ∀(w2:World),Hst w0 H w H w2 →
 ∃v2:Option Addr,w2.cell? cap1=some (vp v2) ∧
 ∃a1:Addr,v2=some a1 ∧
 ∃v3:Sl,w2.cell? a1=some v3.v ∧
 ∃v4:Option Addr,w2.cell? cap1=some (vp v4) ∧
 ∃a2:Addr,v4=some a2 ∧
 ∃v5:Int,w2.cell? (a2.add 1)=some (vi v5) ∧
 Br (decide (r1>(IntKind.u64.wrap (q6.wrap ((v3.len:Int) - v5)))))
  (K (some [{ v:=(.iface 202 (vi 3)),recovered:=false }])  w2)
  (m_N_j3 cap1 cap3 r1 H w2 K)
def m_N_j1 (cap1 cap3:Addr) (r1:Int) (x1:Bool) (w0:World) (H:NP) (w:World) (K:Option (List PanicEntry)→WP):Prop :=
 Br x1
  (K (some [{ v:=(.iface 202 (vi 1)),recovered:=false }])  w)
  (m_N_j2 cap1 cap3 r1 w0 H w K)
def m_N (cap1 cap2 cap3:Addr) (w0:World) (K:Option (List PanicEntry)→WP):Prop :=
 ∃v1:Option Addr,w0.cell? cap1=some (vp v1) ∧
 Calls Tryz.prog 148 #[(vp v1)] w0 (fun e w1=>(∃r1:Int,e=.returned (vu r1) ∧
  Kept None w0 w1 ∧
  ∃v14:Int,w1.cell? cap2=some (vi v14) ∧
  Br (decide (v14<0))
   (m_N_j1 cap1 cap3 r1 true w0 None w1 K)
   (∃v15:Int,w1.cell? cap2=some (vi v15) ∧
   m_N_j1 cap1 cap3 r1 (decide (r1>(IntKind.u64.wrap v15))) w0 None w1 K))∨∃ch,e=.panicked ch∧K (some ch)  w1)
theorem w_N (cap1 cap2 cap3 : Addr) (w0 : World) (K : Option (List PanicEntry) → WP) (h : m_N cap1 cap2 cap3 w0 K) :
  Calls Tryz.prog 149 #[(vp (some cap1)),(vp (some cap2)),(vp (some cap3))] w0 (fun e w'=>(e=.returned (.tuple #[])∧K none  w')∨∃ch,e=.panicked ch∧K (some ch)  w'):=by
 unfold m_N at h
 refine calls_of_wpEP (args:=[(vp (some cap1)),(vp (some cap2)),(vp (some cap3))]) Tryz.func149 rfl Tryz.ntmps149 (Nat.le_of_ble_eq_true rfl) ?_
 have hs:=Hst.start w0
 have hb:=HB.nil None w0
 refine wpE_seq (wpE_regionP (by kernel_rfl) (wpLP_split 1 ?_))
 obtain ⟨v1,hv17,h⟩:=h
 refine q2 (vp v1) (xl (Tryz.isAgg125 _) hv17) (wpL_nil ?_)
 refine sp_call (want0 rfl) (by intro c hc;cases hc) (xc Tryz.call148) (h.mono ?_)
 rintro e w1 (⟨r1,rfl,hk,h⟩ | ⟨ch,rfl,h⟩)
 rotate_left
 ·exact .inr ⟨ch,rfl,fun ρ'=>.inr ⟨ch,rfl,h⟩⟩
 refine .inl ⟨_,rfl,?_⟩
 obtain ⟨hs,hb⟩:=hk.hh hs hb
 refine wpLP_last (q0 (vu r1) (wpL_nil (th_n (wpE_seq (wpE_seq ?_)))))
 refine wpE_joinT (fun ρ w=>∃x1:Bool,∃H:NP,Has ρ [(0,(vp (some cap1))),(2,(vp (some cap3))),(3,(vu r1)),(13,(vb x1))]∧Hst w0 H w H w∧HB H w []∧m_N_j1 cap1 cap3 r1 x1 w0 H w K) ?_ ?_
 ·rintro ρ w ⟨x1,H,hH,hs,hb,h⟩
  unfold m_N_j1 at h
  refine wpE_has hH ?_
  refine wpE_joinT (fun ρ w=>∃H:NP,Has ρ [(0,(vp (some cap1))),(2,(vp (some cap3))),(3,(vu r1))]∧Hst w0 H w H w∧HB H w []∧m_N_j2 cap1 cap3 r1 w0 H w K) ?_ ?_
  ·rintro ρ w ⟨H,hH,hs,hb,h⟩
   unfold m_N_j2 at h
   refine wpE_has hH ?_
   refine wpE_seq (wpE_seq (wpE_drawnQ (by kernel_rfl) (by kernel_rfl) (by kernel_rfl) (by kernel_rfl) ?_))
   intro w2 hw2
   have hs:Hst w0 H w H w2:=by rw [hw2];exact hs.drew
   have hb:HB H w2 []:=by rw [hw2];exact hb.drew
   refine qq 0 (vu r1) Kp0 (qg 1 ?_)
   have h:=h w2 hs
   have hs:=hs.here
   obtain ⟨v2,hv14,h⟩:=h
   refine sxQ (v:=(vp v2)) Kp1 (want0 rfl) rfl (xl (Tryz.isAgg125 _) hv14) (qg 2 ?_)
   obtain ⟨a1,hp1,h⟩:=h
   refine sxQ (v:=(vp (some a1))) Kp2 (want0 rfl) rfl (x_nilCheck (p:=v2) (by kernel_rfl) hp1) (qq 3 (vp (some a1)) Kp3 (qg 4 ?_))
   obtain ⟨v3,hv13,h⟩:=h
   refine sxQ (v:=v3.v) Kp4 (want0 rfl) rfl (xl (Tryz.isAgg23 _) hv13) (qq 5 (vi (v3.len:Int)) Kp5 (qg 6 ?_))
   obtain ⟨v4,hv12,h⟩:=h
   refine sxQ (v:=(vp v4)) Kp6 (want0 rfl) rfl (xl (Tryz.isAgg125 _) hv12) (qg 7 ?_)
   obtain ⟨a2,hp2,h⟩:=h
   refine sxQ (v:=(vp (some a2))) Kp7 (want0 rfl) rfl (x_nilCheck (p:=v4) (by kernel_rfl) hp2) (qq 8 (vp (some (a2.add 1))) Kp8 (qg 9 ?_))
   obtain ⟨v5,hv11,h⟩:=h
   refine sxQ (v:=(vi v5)) Kp9 (want0 rfl) rfl (xl (Tryz.isAgg3 _) hv11) (qq 10 (vi (q6.wrap ((v3.len:Int) - v5))) (pickA (S8 (pickS (pickS pickZ)))) (qq 11 (vu (IntKind.u64.wrap (q6.wrap ((v3.len:Int) - v5)))) (pickA (S8 (pickS (pickS (pickS pickZ))))) (qq 12 (vb (decide (r1>(IntKind.u64.wrap (q6.wrap ((v3.len:Int) - v5)))))) (pickA (S8 (S4 pickZ))) (wn (th_n ?_)))))
   refine wpE_joinT (fun ρ w=>∃H:NP,Has ρ [(0,(vp (some cap1))),(2,(vp (some cap3))),(3,(vu r1))]∧Hst w0 H w H w∧HB H w []∧m_N_j3 cap1 cap3 r1 H w K) ?_ ?_
   ·rintro ρ w ⟨H,hH,hs,hb,h⟩
    unfold m_N_j3 at h
    refine wpE_has hH ?_
    refine wpE_seq ?_
    obtain ⟨C1,hC,h⟩:=h
    refine wpE_drawnC C1 [17] [17] (by kernel_rfl) (by kernel_rfl) (by kernel_rfl) (by kernel_rfl) hC ?_
    intro w3 hw3
    have h:=h w3 hw3
    have hs:Hst w0 H w H w3:=by rw [hw3];exact hs.drew
    have hb:HB H w3 []:=by rw [hw3];exact hb.drew
    have hs:=hs.here
    refine qg 0 ?_
    obtain ⟨v6,hv10,h⟩:=h
    refine sye Kp0 (xl (Tryz.isAgg125 _) hv10) (qg 1 ?_)
    obtain ⟨a3,hp3,h⟩:=h
    refine sy (v:=(vp (some a3))) Kp1 (fun _ _=>(x_nilCheck (p:=v6) (by kernel_rfl) hp3)) (qx 2 (vp (some a3)) Kp2 (qg 3 ?_))
    obtain ⟨v7,hv9,h⟩:=h
    refine sye Kp3 (xl (Tryz.isAgg23 _) hv9) (qg 4 ?_)
    obtain ⟨v8,hv8,h⟩:=h
    refine sye Kp4 (xl (Tryz.isAgg125 _) hv8) (qg 5 ?_)
    obtain ⟨a4,hp4,h⟩:=h
    refine sy (v:=(vp (some a4))) Kp5 (fun _ _=>(x_nilCheck (p:=v8) (by kernel_rfl) hp4)) (qx 6 (vp (some (a4.add 1))) Kp6 (qg 7 ?_))
    obtain ⟨v9,hv7,h⟩:=h
    refine sye Kp7 (xl (Tryz.isAgg3 _) hv7) (qg 8 ?_)
    obtain ⟨v10,hv6,h⟩:=h
    refine sye Kp8 (xl (Tryz.isAgg125 _) hv6) (qg 9 ?_)
    obtain ⟨a5,hp5,h⟩:=h
    refine sy (v:=(vp (some a5))) Kp9 (fun _ _=>(x_nilCheck (p:=v10) (by kernel_rfl) hp5)) (qx 10 (vp (some (a5.add 1))) (pickA (S8 (pickS (pickS pickZ)))) (qg 11 ?_))
    obtain ⟨v11,hv5,h⟩:=h
    refine sye (pickA (S8 (pickS (pickS (pickS pickZ))))) (xl (Tryz.isAgg3 _) hv5) (qx 12 (vu r1) (pickA (S8 (S4 pickZ))) (qx 13 (vi (q6.wrap r1)) (pickA (S8 (S4 (pickS pickZ)))) (qx 14 (vi (q6.wrap (v11+(q6.wrap r1)))) (pickA (S8 (S4 (pickS (pickS pickZ))))) (qg 15 ?_))))
    obtain ⟨s1,hv4,h⟩:=h
    refine sye (v:=s1.v) (pickA (S8 (S4 (pickS (pickS (pickS pickZ)))))) (x_slice (by kernel_rfl) (by kernel_rfl) (by kernel_rfl) (by kernel_rfl) hv4) (qg 16 ?_)
    obtain ⟨c1,hv3,h⟩:=h
    refine sye (v:=(vs c1)) (pickA (S8 (S8 pickZ))) (x_convert (by kernel_rfl) hv3) (lg 17 ?_)
    obtain ⟨hp6,hnh,h⟩:=h
    refine sl_t (pickA (S8 (S8 (pickS pickZ)))) (xs (v:=(vs c1)) (Tryz.sizeOf9 _) hp6) ?_
    intro w4 hn1
    have h:=h w4 hn1
    refine ⟨.inl (by kernel_rfl),?_⟩
    have hk:=Kept.sc hnh hn1
    obtain ⟨hs,hb⟩:=hk.hh hs hb
    refine wn (th_n (rg ?_))
    obtain ⟨v12,hv2,h⟩:=h
    refine q2 (vp v12) (xl (Tryz.isAgg125 _) hv2) ?_
    obtain ⟨a6,hp7,h⟩:=h
    refine q2 (vp (some a6)) (x_nilCheck (p:=v12) (by kernel_rfl) hp7) (q0 (vp (some (a6.add 1))) ?_)
    obtain ⟨v13,hv1,h⟩:=h
    refine q2 (vi v13) (xl (Tryz.isAgg3 _) hv1) (q0 (vu r1) (q0 (vi (q6.wrap r1)) (q0 (vi (q6.wrap (v13+(q6.wrap r1)))) ?_)))
    obtain ⟨a7,hp8,h⟩:=h
    refine q2 (vp (some a7)) (x_nilCheck (p:=v12) (by kernel_rfl) hp8) (q0 (vp (some (a7.add 1))) ?_)
    obtain ⟨hp9,hnh,h⟩:=h
    refine st_set (want0 rfl) (x_store (a:=(a7.add 1)) (v:=(vi (q6.wrap (v13+(q6.wrap r1))))) (by kernel_rfl) (by kernel_rfl) rfl (Tryz.sizeOf3 _) hp9) ?_
    intro w5 hn2
    have h:=h w5 hn2
    have hk:=Kept.sc hnh hn2
    obtain ⟨hs,hb⟩:=hk.hh hs hb
    refine wpL_nil (ep (res0 (.inr rfl) Tryz.results149 ?_))
    exact .inl ⟨rfl,h⟩
   ·refine wpE_cond (t:=(decide (r1>(IntKind.u64.wrap (q6.wrap ((v3.len:Int) - v5)))))) (by kernel_rfl) (fun hc1=>?_) (fun hc1=>?_)
    ·have h:=h.1 hc1
     refine wpE_regionP (by kernel_rfl) (wpLP_split 1 (q0 (.iface 202 (vi 3)) (wpL_nil ?_)))
     refine sp_panic (want0 rfl) (by intro c hc;cases hc) (x_panic (by kernel_rfl)) (fun ρ'=>.inr ⟨_,rfl,h⟩)
    ·have h:=h.2 hc1
     refine wpE_skip (th_n ?_)
     exact ⟨H,hm,hs,hb,h⟩
  ·refine wpE_cond (t:=x1) (by kernel_rfl) (fun hc2=>?_) (fun hc2=>?_)
   ·have h:=h.1 hc2
    refine wpE_regionP (by kernel_rfl) (wpLP_split 1 (q0 (.iface 202 (vi 1)) (wpL_nil ?_)))
    refine sp_panic (want0 rfl) (by intro c hc;cases hc) (x_panic (by kernel_rfl)) (fun ρ'=>.inr ⟨_,rfl,h⟩)
   ·have h:=h.2 hc2
    refine wpE_skip (th_n ?_)
    exact ⟨H,hm,hs,hb,h⟩
 ·refine rg ?_
  obtain ⟨v14,hv16,h⟩:=h
  refine q2 (vi v14) (xl (Tryz.isAgg3 _) hv16) (q0 (vb (decide (v14<0))) (q0 (vb (decide (v14<0))) ?_))
  rcases Bool.eq_false_or_eq_true (decide (v14<0)) with hg1 | hg1
  ·have h:=h.1 hg1
   refine sk (yD 8 hg1) (sk (yD 8 hg1) (sk (yD 8 hg1) (sk (yD 8 hg1) (q2 (vb true) (xT hg1) (wpL_nil (th_n ?_))))))
   exact ⟨true,None,hm,hs,hb,h⟩
  ·have h:=h.2 hg1
   refine q1 (vu r1) (want1 rfl (yD 8 hg1)) ?_
   obtain ⟨v15,hv15,h⟩:=h
   refine stp (v:=(vi v15)) (want1 rfl (yD 8 hg1)) (xl (Tryz.isAgg3 _) hv15) (q1 (vu (IntKind.u64.wrap v15)) (want1 rfl (yD 8 hg1)) (q1 (vb (decide (r1>(IntKind.u64.wrap v15)))) (want1 rfl (yD 8 hg1)) (q2 (vb (decide (r1>(IntKind.u64.wrap v15)))) (xF hg1) (wpL_nil (th_n ?_)))))
   exact ⟨(decide (r1>(IntKind.u64.wrap v15))),None,hm,hs,hb,h⟩
def m_L3 (cap1 cap2:Addr) (w0:World) (K:Option (List PanicEntry)→WP):Prop :=
 ∃v1:Option Addr,w0.cell? cap1=some (vp v1) ∧
 Calls Tryz.prog 151 #[(vp v1)] w0 (fun e w1=>(∃r1:Int,e=.returned (.int .u8 r1) ∧
  CanW w1 cap2∧∀w2:World,w2=w1.setCell cap2 (.int .u8 r1) →
  K none w2)∨∃ch,e=.panicked ch∧K (some ch)  w1)
theorem w_L3 (cap1 cap2 : Addr) (w0 : World) (K : Option (List PanicEntry) → WP) (h : m_L3 cap1 cap2 w0 K) :
  Calls Tryz.prog 150 #[(vp (some cap1)),(vp (some cap2))] w0 (fun e w'=>(e=.returned (.tuple #[])∧K none  w')∨∃ch,e=.panicked ch∧K (some ch)  w'):=by
 unfold m_L3 at h
 refine calls_of_wpEP (args:=[(vp (some cap1)),(vp (some cap2))]) Tryz.func150 rfl Tryz.ntmps150 (Nat.le_of_ble_eq_true rfl) (wpE_regionP (by kernel_rfl) (wpLP_split 1 ?_))
 obtain ⟨v1,hv1,h⟩:=h
 refine q2 (vp v1) (xl (Tryz.isAgg125 _) hv1) (wpL_nil ?_)
 refine sp_call (want0 rfl) (by intro c hc;cases hc) (xc Tryz.call151) (h.mono ?_)
 rintro e w1 (⟨r1,rfl,h⟩ | ⟨ch,rfl,h⟩)
 rotate_left
 ·exact .inr ⟨ch,rfl,fun ρ'=>.inr ⟨ch,rfl,h⟩⟩
 refine .inl ⟨_,rfl,?_⟩
 refine wpLP_last ?_
 obtain ⟨hp1,h⟩:=h
 refine st_set (want0 rfl) (x_store (a:=cap2) (v:=(.int .u8 r1)) (by kernel_rfl) (by kernel_rfl) rfl (Tryz.sizeOf5 _) hp1) ?_
 intro w2 hn1
 have h:=h w2 hn1
 refine wpL_nil (ep (res0 (.inr rfl) Tryz.results150 ?_))
 exact .inl ⟨rfl,h⟩
end Go.Proofs
end
