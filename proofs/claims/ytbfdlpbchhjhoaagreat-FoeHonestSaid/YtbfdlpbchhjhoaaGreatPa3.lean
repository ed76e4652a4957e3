import Derived.Test.YtbfdlpbchhjhoaaGreatProg
import Derived.KernelRfl
import Derived.Test.YtbfdlpbchhjhoaaGreatPa0
import Derived.Test.YtbfdlpbchhjhoaaGreatPa1
import Derived.Test.YtbfdlpbchhjhoaaGreatPa2
section
open Go Go.SE
open Go.IntKind renaming i64 → q6
namespace Go.Proofs
open Tryz
set_option maxRecDepth 100000
set_option maxHeartbeats 4000000
attribute [local irreducible] wpL wpX opE wpE Calls
def m_X3 (p1:Option Addr) (w0:World) (K:(Option Addr)→WP):Prop :=Br (Option.isNone p1) (K none w0) (∀(p2:Addr) (w1:World),New w0 (.map #[] 0) p2 w1→∀(p3:Addr) (w2:World),New w1 (.cells #[(vp p1),Sl.nil.v,(.map (some p2.block)),Sl.nil.v] 165) p3 w2→K (some p3) w2)
theorem w_X3 (p1:Option Addr) (w0:World) (K:(Option Addr)→WP) (h:m_X3 p1 w0 K) :
  Calls prog 45 #[(vp p1)] w0 (fun e w'=>∃r1:Option Addr,e=.returned (vp r1)∧K r1 w'):=by
 unfold m_X3 at h
 refine cw (args:=[(vp p1)]) func45 ntmps45 (eg (q0 (vp none) (ln (zA (eg (q0 (vp p1) (q2 (vb (Option.isNone p1)) (qL (by kernel_rfl) rfl underlying91) (zD ?_))))))))
 refine zN ?_
 refine zB (t:=(Option.isNone p1)) (by kernel_rfl) (fun hc1=>?_) (fun hc1=>?_)
 have h:=h.1 hc1
 refine eg (q0 (vp none) (ln (er (vL (rs1 results45 (v:=(vp none)) ?_)))))
 exact ⟨none,rfl,h⟩
 have h:=h.2 hc1
 refine zC (zN (eg (q0 (vp p1) (vR (O:=(.map #[] 0)) (fun p=>.map (some p.block)) (zJ rfl) (by kernel_rfl) ?_))))
 intro p2 w1 hn2
 have h:=h p2 w1 hn2
 refine q0 (.agg #[(vp p1),Sl.nil.v,(.map (some p2.block)),Sl.nil.v]) (sn (O:=(.cells #[(vp p1),Sl.nil.v,(.map (some p2.block)),Sl.nil.v] 165)) xb ?_)
 intro p3 w2 hn1
 have h:=h p3 w2 hn1
 refine q0 (vp (some p3)) (ln (er (rs1 results45 (v:=(vp (some p3))) ?_)))
 exact ⟨(some p3),rfl,h⟩
def m_T_j2 (p1:Addr) (at1:Int) (p5 a9:Addr) (w0:World) (H:NP) (w:World) (Kc1:Int→NP→WP) (_K:WP):Prop :=∃v15:Int,w.cell? a9=some (vi v15)∧Br (v15 == 4) (∃v16:Int,w.cell? (a9.add 5)=some (vi v16)∧Calls prog 164 #[(vi v16),(vi 1),(vp (some p1)),(vp (some p5))] w (fun e w13=>e=.returned (.tuple #[])∧Kept H w w13∧∃v17:Int,w13.cell? (a9.add 6)=some (vi v17)∧Calls prog 164 #[(vi v17),(vi 2),(vp (some p1)),(vp (some p5))] w13 (fun e w14=>e=.returned (.tuple #[])∧Kept H w13 w14∧Kc1 (q6.wrap (at1+1)) H w14))) (∀y1:Bool,y1=(cond (v15 == 7) (v15 == 7) (cond (v15 == 8) (v15 == 8) (v15 == 9)))→Br y1 (∀(H3:NP) (w15:World),Hst w0 H w H3 w15→∃v18:Int,w15.cell? (a9.add 5)=some (vi v18)∧Calls prog 164 #[(vi v18),(vi 3),(vp (some p1)),(vp (some p5))] w15 (fun e w16=>e=.returned (.tuple #[])∧Kept H3 w15 w16∧Kc1 (q6.wrap (at1+1)) H3 w16)) (∀(H3:NP) (w15:World),Hst w0 H w H3 w15→Kc1 (q6.wrap (at1+1)) H3 w15))
def m_T_l1 (p1:Addr) (at1:Int) (w0:World) (Hl1:NP) (wl1:World) (Kc1:Int→NP→WP) (K:WP):Prop :=∃v10:Option Addr,wl1.cell? p1=some (vp v10)∧∃a6:Addr,v10=some a6∧∃v11:Sl,wl1.cell? (a6.add 3)=some v11.v∧Br (decide (at1<(v11.len:Int))) (∃v12:Option Addr,wl1.cell? p1=some (vp v12)∧∃a7:Addr,v12=some a7∧∃v13:Sl,wl1.cell? (a7.add 3)=some v13.v∧∃a8:Addr,At v13 at1 1 a8∧∃v14:Int,wl1.cell? a8=some (vi v14)∧∀(p5:Addr) (w11:World),New wl1 (.cells #[(vi 0)] 78) p5 w11→CanW w11 p5∧¬ Hl1 p5.block∧∀w12:World,w12=w11.setCell p5 (vi v14)→∃C3:WP,C3 w12.drew∧∀w17,w17=w12.drew→∃v19:Option Addr,(∀w',C3 w'→w'.cell? p1=some (vp v19))∧∃a10:Addr,v19=some a10∧∃v20:Option Addr,(∀w',C3 w'→w'.cell? a10=some (vp v20))∧∃v21:Int,(∀w',C3 w'→w'.cell? p5=some (vi v21))∧(Calls prog 104 #[(vp v20),(vi v21)] w17 (fun e w18=>∃aA aC:Int,∃aD aF:Int,∃aG:ByteArray,∃aB aE:Int,∃r1:Bool,e=.returned (.tuple #[(.agg #[(vi aA),(vi aC),(vi aD),(vu aF),(vs aG),(vi aB),(vi aE)]),(vb r1)])∧C3 w18∧Kept Hl1 w17 w18∧∀(p6:Addr) (w19:World),New w18 (.cells #[(vi 0),(vi 0),(vi 0),(vu 0),ve,(vi 0),(vi 0)] 127) p6 w19→C3 w19∧(∀j,j<7→CanW w19 (p6.add j))∧¬ Hl1 p6.block∧∀w20:World,w20=storeRow w19 p6 [(vi aA),(vi aC),(vi aD),(vu aF),(vs aG),(vi aB),(vi aE)]→C3 w20∧m_T_j2 p1 at1 p5 p6 w0 Hl1 w20 Kc1 K))∧(∀(p7:Addr) (w21:World),New w17 (.cells #[(vi 0),(vi 0),(vi 0),(vu 0),ve,(vi 0),(vi 0)] 127) p7 w21→C3 w21∧Calls prog 104 #[(vp v20),(vi v21)] w21 (fun e w22=>∃aP aQ:Int,∃aR aS:Int,∃aT:ByteArray,∃aU aV:Int,∃r2:Bool,e=.returned (.tuple #[(.agg #[(vi aP),(vi aQ),(vi aR),(vu aS),(vs aT),(vi aU),(vi aV)]),(vb r2)])∧C3 w22∧Kept Hl1 w21 w22∧(∀j,j<7→CanW w22 (p7.add j))∧¬ Hl1 p7.block∧∀w23:World,w23=storeRow w22 p7 [(vi aP),(vi aQ),(vi aR),(vu aS),(vs aT),(vi aU),(vi aV)]→C3 w23∧m_T_j2 p1 at1 p5 p7 w0 Hl1 w23 Kc1 K))) (K wl1)
def m_T (k1:Option Addr) (t1 wrule1 wfrom1:Int) (w0:World) (K:WP):Prop :=∀(p1:Addr) (w1:World),New w0 (.cells #[(vp k1)] 93) p1 w1→∀(H1:NP) (w2:World),Hst w0 None w1 H1 w2→∃v1:Option Addr,w2.cell? p1=some (vp v1)∧∃a1:Addr,v1=some a1∧∃v2:Option Nat,w2.cell? (a1.add 2)=some (.map v2)∧∃vrule1 vfrom1:Int,∃ok1:Bool,(Instr.lookup 163 (.map v2) (vi t1) true).run prog w2=.ok (.tuple #[(.agg #[(vi vrule1),(vi vfrom1)]),(vb ok1)]) w2∧Br ok1 (∀(H2:NP) (w4:World),Hst w0 H1 w2 H2 w4→K w4) (∀(H2:NP) (w4:World),Hst w0 H1 w2 H2 w4→∃C1:WP,C1 w4.drew∧∀w5,w5=w4.drew→∃v3:Option Addr,(∀w',C1 w'→w'.cell? p1=some (vp v3))∧∃a2:Addr,v3=some a2∧∃v4:Option Nat,(∀w',C1 w'→w'.cell? (a2.add 2)=some (.map v4))∧∃w6:World,(Instr.mapUpdate 163 (.map v4) (vi t1) (.agg #[(vi wrule1),(vi wfrom1)])).run prog w5=.ok () w6∧Kept H2 w5 w6∧∃v5:Option Addr,w6.cell? p1=some (vp v5)∧∃a3:Addr,v5=some a3∧∃v6:Sl,w6.cell? (a3.add 3)=some v6.v∧∃C2:WP,C2 w6.drew∧∀w7,w7=w6.drew→∃v7:Option Addr,(∀w',C2 w'→w'.cell? p1=some (vp v7))∧∃v8:Option Addr,(∀w',C2 w'→w'.cell? p1=some (vp v8))∧∃a4:Addr,v8=some a4∧∃v9:Sl,(∀w',C2 w'→w'.cell? (a4.add 3)=some v9.v)∧∀(p4:Addr) (w8:World),New w7 (.cells #[(vi t1)] 78) p4 w8→C2 w8∧∃s1:Sl,∃w9:World,(Builtin.append_ #[54,54] 54 #[v9.v,(Sl.mk (some p4) 1 1).v]).run prog w8=.ok s1.v w9∧C2 w9∧Kept H2 w8 w9∧∃a5:Addr,v7=some a5∧CanW w9 (a5.add 3)∧¬ H2 (a5.add 3).block∧∀w10:World,w10=w9.setCell (a5.add 3) s1.v→∃(I1:Int→NP→WP) (mu1:Int→World→Nat),I1 (v6.len:Int) H2 w10∧∀(at1:Int) (Hl1:NP) (wl1:World),Hst w0 Hl1 wl1 Hl1 wl1→I1 at1 Hl1 wl1→m_T_l1 p1 at1 w0 Hl1 wl1 (fun y'0 H' w'=>I1 y'0 H' w'∧mu1 y'0 w'<mu1 at1 wl1) K)
theorem w_T (k1:Option Addr) (t1 wrule1 wfrom1:Int) (w0:World) (K:WP) (h:m_T k1 t1 wrule1 wfrom1 w0 K) :
  Calls prog 106 #[(vp k1),(vi t1),(.agg #[(vi wrule1),(vi wfrom1)])] w0 (fun e w'=>e=.returned (.tuple #[])∧K  w'):=by
 unfold m_T at h
 refine cw (args:=[(vp k1),(vi t1),(.agg #[(vi wrule1),(vi wfrom1)])]) func106 ntmps106 ?_
 have hs:=Hst.start w0
 have hb:=HB.nil None w0
 refine eg (sn (O:=(.cells #[(vp k1)] 93)) xb ?_)
 intro p1 w1 hn12
 have h:=h p1 w1 hn12
 have hs:=hs.again (Ext.new (F:=None) hn12).keptP
 have hb:=hb.kept (Ext.new (F:=None) hn12).keptP
 refine sn (O:=(.cells #[(vi wrule1),(vi wfrom1)] 171)) xb ?_
 intro p2 w2 hn1
 obtain ⟨H1,hs,hb⟩:=hs.alloc hb hn1
 refine ln (zA (eg ?_))
 have h:=h H1 w2 hs
 have hs:=hs.here
 obtain ⟨v1,hv25,h⟩:=h
 refine q2 (vp v1) (xl (isAgg93 _) hv25) ?_
 obtain ⟨a1,hp1,h⟩:=h
 refine q2 (vp (some a1)) (xn hp1) (q0 (vp (some (a1.add 2))) ?_)
 obtain ⟨v2,hv24,h⟩:=h
 refine q2 (.map v2) (xl (isAgg163 _) hv24) (q0 (vi t1) ?_)
 obtain ⟨vrule1,vfrom1,ok1,hv23,h⟩:=h
 refine q2 (.tuple #[(.agg #[(vi vrule1),(vi vfrom1)]),(vb ok1)]) (qT (by kernel_rfl) (by kernel_rfl) hv23) (q0 (.tuple #[(.agg #[(vi vrule1),(vi vfrom1)]),(vb ok1)]) (q0 (.agg #[(vi vrule1),(vi vfrom1)]) (q0 (vb ok1) (sn (O:=(.cells #[(vi 0),(vi 0)] 171)) (zO (zeroValue171 _) rfl) ?_))))
 intro p3 w3 hn2
 obtain ⟨H2,hs,hb⟩:=hs.alloc hb hn2
 refine ss (xo p3 [(vi vrule1),(vi vfrom1)] (sizeOf171 _) (hb.k0 0 2 gZ)) ?_
 intro w4 hn3
 obtain ⟨hs,hb⟩:=hb.s0 (l':=[(p3,[(vi vrule1),(vi vfrom1)],171),(p2,[(vi wrule1),(vi wfrom1)],171)]) 0 [(vi vrule1),(vi vfrom1)] hs hn3 gZ
 refine q0 (vb ok1) (ln (eg (q0 (vb ok1) (ln ?_))))
 refine zB (t:=ok1) (by kernel_rfl) (fun hc1=>?_) (fun hc1=>?_)
 have h:=h.1 hc1
 refine er (vL ?_)
 have h:=h H2 w4 hs
 have hs:=hs.here
 refine jFP (.inl rfl) results106 ?_
 exact ⟨rfl,h⟩
 have h:=h.2 hc1
 refine zC (zN (zA ?_))
 have h:=h H2 w4 hs
 have hs:=hs.here
 obtain ⟨C1,hC,h⟩:=h
 refine vB (fun x=>C1 x∧HB H2 x [(p3,[(vi vrule1),(vi vfrom1)],171),(p2,[(vi wrule1),(vi wfrom1)],171)]) [6] [6] (by kernel_rfl) (by kernel_rfl) (by kernel_rfl) (by kernel_rfl) ⟨hC,hb.drew⟩ ?_
 intro w5 hw5
 have h:=h w5 hw5
 have hs:Hst w0 H2 w4 H2 w5:=by rw [hw5];exact hs.drew
 have hb:HB H2 w5 [(p3,[(vi vrule1),(vi vfrom1)],171),(p2,[(vi wrule1),(vi wfrom1)],171)]:=by rw [hw5];exact hb.drew
 have hs:=hs.here
 refine qg 0 ?_
 obtain ⟨v3,hv22,h⟩:=h
 refine sy (v:=(vp v3)) Kp0 (fun w' hw'=>(xl (isAgg93 _) (hv22 w' hw'.1))) (qg 1 ?_)
 obtain ⟨a2,hp2,h⟩:=h
 refine sy (v:=(vp (some a2))) Kp1 (fun _ _=>(xn hp2)) (qx 2 (vp (some (a2.add 2))) Kp2 (qg 3 ?_))
 obtain ⟨v4,hv21,h⟩:=h
 refine sy (v:=(.map v4)) Kp3 (fun w' hw'=>(xl (isAgg163 _) (hv21 w' hw'.1))) (qx 4 (vi t1) Kp4 (qz 5 (.agg #[(vi wrule1),(vi wfrom1)]) Kp5 (fun w' hw'=>(xa p2 [(vi wrule1),(vi wfrom1)] (isAgg171 _) (sizeOf171 _) (hw'.2.r0 1 2 (gS gZ)))) (lg 6 ?_)))
 obtain ⟨w6,hv20,hk,h⟩:=h
 refine jHD Kp6 (zJ rfl) (by kernel_rfl) (yT (by kernel_rfl) (by kernel_rfl) (by kernel_rfl) hv20) (.inl (by kernel_rfl)) ?_
 obtain ⟨hs,hb⟩:=hk.hh hs hb
 refine wn (zN (eg ?_))
 obtain ⟨v5,hv19,h⟩:=h
 refine q2 (vp v5) (xl (isAgg93 _) hv19) ?_
 obtain ⟨a3,hp3,h⟩:=h
 refine q2 (vp (some a3)) (xn hp3) (q0 (vp (some (a3.add 3))) ?_)
 obtain ⟨v6,hv18,h⟩:=h
 refine q2 v6.v (xl (isAgg54 _) hv18) (q0 (vi (v6.len:Int)) (q0 (vi (v6.len:Int)) (ln (zA ?_))))
 obtain ⟨C2,hC,h⟩:=h
 refine vB (fun x=>C2 x∧HB H2 x [(p3,[(vi vrule1),(vi vfrom1)],171),(p2,[(vi wrule1),(vi wfrom1)],171)]) [6,7,10] [10] (by kernel_rfl) (by kernel_rfl) (by kernel_rfl) (by kernel_rfl) ⟨hC,hb.drew⟩ ?_
 intro w7 hw7
 have h:=h w7 hw7
 have hs:Hst w0 H2 w6 H2 w7:=by rw [hw7];exact hs.drew
 have hb:HB H2 w7 [(p3,[(vi vrule1),(vi vfrom1)],171),(p2,[(vi wrule1),(vi wfrom1)],171)]:=by rw [hw7];exact hb.drew
 have hs:=hs.here
 refine qg 0 ?_
 obtain ⟨v7,hv17,h⟩:=h
 refine sy (v:=(vp v7)) Kp0 (fun w' hw'=>(xl (isAgg93 _) (hv17 w' hw'.1))) (qg 1 ?_)
 obtain ⟨v8,hv16,h⟩:=h
 refine sy (v:=(vp v8)) Kp1 (fun w' hw'=>(xl (isAgg93 _) (hv16 w' hw'.1))) (qg 2 ?_)
 obtain ⟨a4,hp4,h⟩:=h
 refine sy (v:=(vp (some a4))) Kp2 (fun _ _=>(xn hp4)) (qx 3 (vp (some (a4.add 3))) Kp3 (qg 4 ?_))
 obtain ⟨v9,hv15,h⟩:=h
 refine sy (v:=v9.v) Kp4 (fun w' hw'=>(xl (isAgg54 _) (hv15 w' hw'.1))) (qx 5 (vi t1) Kp5 (lg 6 (jBS (O:=(.cells #[(vi t1)] 78)) (fun p=>(Sl.mk (some p) 1 1).v) Kp6 (zJ rfl) (by kernel_rfl) (zK (vs:=#[(0,(vi t1))]) (by kernel_rfl) (by kernel_rfl)) ?_)))
 intro p4 w8 hn11
 have h:=h p4 w8 hn11
 refine ⟨.inr ⟨h.1,hb.kept (Ext.new (F:=None) hn11).keptP⟩,?_⟩
 have h:=h.2
 have hs:=hs.again (Ext.new (F:=None) hn11).keptP
 have hb:=hb.kept (Ext.new (F:=None) hn11).keptP
 refine lg 7 ?_
 obtain ⟨s1,w9,hv14,hC,hk,h⟩:=h
 refine sl (v:=s1.v) Kp7 (zJ rfl) (by kernel_rfl) (vS (args:=#[v9.v,(Sl.mk (some p4) 1 1).v]) (by kernel_rfl) (fun _=>rfl) hv14) (.inr ⟨hC,hb.kept hk⟩) ?_
 obtain ⟨hs,hb⟩:=hk.hh hs hb
 refine qg 8 ?_
 obtain ⟨a5,hp5,h⟩:=h
 refine sy (v:=(vp (some a5))) Kp8 (fun _ _=>(xn hp5)) (qx 9 (vp (some (a5.add 3))) Kp9 (lg 10 ?_))
 obtain ⟨hp6,hnh,h⟩:=h
 refine jSS (zS (S8 (zG (zG zR)))) (xs (v:=s1.v) (sizeOf54 _) hp6) ?_
 intro w10 hn4
 have h:=h w10 hn4
 refine ⟨.inl (by kernel_rfl),?_⟩
 have hk:=Kept.sc hnh hn4
 obtain ⟨hs,hb⟩:=hk.hh hs hb
 refine wn (zN (zQ ?_))
 obtain ⟨I1,mu1,h0,hr⟩:=h
 refine qI (σ:=Int×NP×World) (fun s ρ w=>w=s.2.2∧Has ρ [(3,(vp (some p1))),(8,(vi s.1))]∧Hst w0 s.2.1 w s.2.1 w∧HB s.2.1 w [(p3,[(vi vrule1),(vi vfrom1)],171),(p2,[(vi wrule1),(vi wfrom1)],171)]∧I1 s.1 s.2.1 s.2.2) (fun s=>mu1 s.1 s.2.2) ((v6.len:Int),H2,w10) ⟨rfl,hm,hs,hb,h0⟩ ?_
 rintro ⟨at1,Hl1,wl1⟩ ρ w ⟨hw,hH,hs,hb,hI⟩
 obtain rfl:wl1=w:=(show w=wl1 from hw).symm
 have hH:Has ρ [(3,(vp (some p1))),(8,(vi at1))]:=hH
 have hs:Hst w0 Hl1 wl1 Hl1 wl1:=hs
 have hb:HB Hl1 wl1 [(p3,[(vi vrule1),(vi vfrom1)],171),(p2,[(vi wrule1),(vi wfrom1)],171)]:=hb
 have h:=hr at1 Hl1 wl1 hs hI
 unfold m_T_l1 at h
 refine vC hH ?_
 refine zA (eg (q0 (vi at1) ?_))
 obtain ⟨v10,hv13,h⟩:=h
 refine q2 (vp v10) (xl (isAgg93 _) hv13) ?_
 obtain ⟨a6,hp7,h⟩:=h
 refine q2 (vp (some a6)) (xn hp7) (q0 (vp (some (a6.add 3))) ?_)
 obtain ⟨v11,hv12,h⟩:=h
 refine q2 v11.v (xl (isAgg54 _) hv12) (q0 (vi (v11.len:Int)) (q0 (vb (decide (at1<(v11.len:Int)))) (ln ?_)))
 refine zB (t:=(decide (at1<(v11.len:Int)))) (by kernel_rfl) (fun hc2=>?_) (fun hc2=>?_)
 have h:=h.1 hc2
 refine zC (zN (zA (zQ (eg ?_))))
 obtain ⟨v12,hv11,h⟩:=h
 refine q2 (vp v12) (xl (isAgg93 _) hv11) ?_
 obtain ⟨a7,hp8,h⟩:=h
 refine q2 (vp (some a7)) (xn hp8) (q0 (vp (some (a7.add 3))) ?_)
 obtain ⟨v13,hv10,h⟩:=h
 refine q2 v13.v (xl (isAgg54 _) hv10) (q0 (vi at1) ?_)
 obtain ⟨a8,hv9,h⟩:=h
 refine q2 (vp (some a8)) (xi (runUnderlying54 _) (sizeOf78 _) hv9) ?_
 obtain ⟨v14,hv8,h⟩:=h
 refine q2 (vi v14) (xl (isAgg78 _) hv8) (sn (O:=(.cells #[(vi 0)] 78)) (zO (zeroValue78 _) rfl) ?_)
 intro p5 w11 hn10
 have h:=h p5 w11 hn10
 have hs:=hs.again (Ext.new (F:=None) hn10).keptP
 have hb:=hb.kept (Ext.new (F:=None) hn10).keptP
 obtain ⟨hp9,hnh,h⟩:=h
 refine ss (zT (a:=p5) (v:=(vi v14)) (by kernel_rfl) (by kernel_rfl) rfl (sizeOf78 _) hp9) ?_
 intro w12 hn5
 have h:=h w12 hn5
 have hk:=Kept.sc hnh hn5
 obtain ⟨hs,hb⟩:=hk.hh hs hb
 refine ln (zA ?_)
 refine vI (fun ρ w=>∃a9:Addr,∃H:NP,Has ρ [(3,(vp (some p1))),(8,(vi at1)),(9,(vp (some p5))),(10,(vp (some a9)))]∧Hst w0 H w H w∧HB H w [(p3,[(vi vrule1),(vi vfrom1)],171),(p2,[(vi wrule1),(vi wfrom1)],171)]∧m_T_j2 p1 at1 p5 a9 w0 H w (fun y'0 H' w'=>I1 y'0 H' w'∧mu1 y'0 w'<mu1 at1 wl1) K) ?_ ?_
 rintro ρ w ⟨a9,H,hH,hs,hb,h⟩
 unfold m_T_j2 at h
 refine vC hH ?_
 refine eg (q0 (.func (.func 164) #[] #[(vp (some p1)),(vp (some p5))]) (q0 (.func (.func 164) #[] #[(vp (some p1)),(vp (some p5))]) (ln (eg (q0 (vp (some a9)) ?_)))))
 obtain ⟨v15,hv4,h⟩:=h
 refine q2 (vi v15) (xl (isAgg3 _) hv4) (ln (zQ (eg (q0 (vb (v15 == 4)) (q0 (vb (v15 == 4)) (ln ?_))))))
 refine zB (t:=(v15 == 4)) (by kernel_rfl) (fun hc3=>?_) (fun hc3=>?_)
 have h:=h.1 hc3
 refine eg (q0 (.func (.func 164) #[] #[(vp (some p1)),(vp (some p5))]) (q0 (vp (some (a9.add 5))) ?_))
 obtain ⟨v16,hv2,h⟩:=h
 refine q2 (vi v16) (xl (isAgg78 _) hv2) ?_
 refine vG (zJ rfl) (jGX (fs:=#[]) (caps:=#[(vp (some p1)),(vp (some p5))]) (args:=#[(vi v16),(vi 1)]) (args':=#[(vi v16),(vi 1),(vp (some p1)),(vp (some p5))]) (by kernel_rfl) call164 (by kernel_rfl) (by kernel_rfl)) (h.mono ?_)
 rintro e w13 ⟨rfl,hk,h⟩
 refine ⟨_,rfl,?_⟩
 obtain ⟨hs,hb⟩:=hk.hh hs hb
 refine ln (rg (q0 (.func (.func 164) #[] #[(vp (some p1)),(vp (some p5))]) (q0 (vp (some (a9.add 6))) ?_)))
 obtain ⟨v17,hv1,h⟩:=h
 refine q2 (vi v17) (xl (isAgg78 _) hv1) ?_
 refine vG (zJ rfl) (jGX (fs:=#[]) (caps:=#[(vp (some p1)),(vp (some p5))]) (args:=#[(vi v17),(vi 2)]) (args':=#[(vi v17),(vi 2),(vp (some p1)),(vp (some p5))]) (by kernel_rfl) call164 (by kernel_rfl) (by kernel_rfl)) (h.mono ?_)
 rintro e w14 ⟨rfl,hk,h⟩
 refine ⟨_,rfl,?_⟩
 obtain ⟨hs,hb⟩:=hk.hh hs hb
 refine zD (tJ (tJ (zN (rg (q0 (vi at1) (q0 (vi (q6.wrap (at1+1))) (q0 (vi (q6.wrap (at1+1))) (ln ?_))))))))
 exact ⟨((q6.wrap (at1+1)),H,w14),⟨rfl,hm,hs,hb,h.1⟩,h.2⟩
 have h:=h.2 hc3
 refine zA (eg (q0 (vb (v15 == 7)) (q0 (vb (v15 == 7)) (ln ?_))))
 refine vO (fun ρ wJ=>∃b1'0 b1'1 y1:Bool,∃HJ:NP,((v15 == 7)=b1'0)∧((v15 == 8)=b1'1)∧(y1=(cond b1'0 (v15 == 7) (cond b1'1 (v15 == 8) (v15 == 9))))∧Hst w0 H w HJ wJ∧HB HJ wJ [(p3,[(vi vrule1),(vi vfrom1)],171),(p2,[(vi wrule1),(vi wfrom1)],171)]∧Has ρ [(3,(vp (some p1))),(8,(vi at1)),(10,(vp (some a9))),(12,(.func (.func 164) #[] #[(vp (some p1)),(vp (some p5))])),(82,(vb y1))]) ?_ ?_
 refine zB (t:=(v15 == 7)) (by kernel_rfl) (fun hc6=>?_) (fun hc6=>?_)
 refine zC (zN ?_)
 exact ⟨true,_,_,_,hc6,rfl,rfl,hs,hb,hm⟩
 refine eg (q0 (vb (v15 == 8)) (q0 (vb (v15 == 8)) (ln ?_)))
 refine zB (t:=(v15 == 8)) (by kernel_rfl) (fun hc7=>?_) (fun hc7=>?_)
 refine zC (zN ?_)
 exact ⟨false,true,_,_,hc6,hc7,rfl,hs,hb,hm⟩
 refine rg (q0 (vb (v15 == 9)) (q0 (vb (v15 == 9)) (ln ?_)))
 exact ⟨false,false,_,_,hc6,hc7,rfl,hs,hb,hm⟩
 rintro ρ w15 ⟨b1'0,b1'1,y1,H3,he0,he1,hy1,hs,hb,hH⟩
 subst he0
 subst he1
 have h:=h y1 hy1
 refine vH hH ?_
 refine zN ?_
 refine zB (t:=y1) (by kernel_rfl) (fun hc8=>?_) (fun hc8=>?_)
 have h:=h.1 hc8
 refine rg (q0 (.func (.func 164) #[] #[(vp (some p1)),(vp (some p5))]) (q0 (vp (some (a9.add 5))) ?_))
 have h:=h H3 w15 hs
 have hs:=hs.here
 obtain ⟨v18,hv3,h⟩:=h
 refine q2 (vi v18) (xl (isAgg78 _) hv3) ?_
 refine vG (zJ rfl) (jGX (fs:=#[]) (caps:=#[(vp (some p1)),(vp (some p5))]) (args:=#[(vi v18),(vi 3)]) (args':=#[(vi v18),(vi 3),(vp (some p1)),(vp (some p5))]) (by kernel_rfl) call164 (by kernel_rfl) (by kernel_rfl)) (h.mono ?_)
 rintro e w16 ⟨rfl,hk,h⟩
 refine ⟨_,rfl,?_⟩
 obtain ⟨hs,hb⟩:=hk.hh hs hb
 refine zD (tJ (tJ (zN (rg (q0 (vi at1) (q0 (vi (q6.wrap (at1+1))) (q0 (vi (q6.wrap (at1+1))) (ln ?_))))))))
 exact ⟨((q6.wrap (at1+1)),H3,w16),⟨rfl,hm,hs,hb,h.1⟩,h.2⟩
 have h:=h.2 hc8
 refine zC (tJ (tJ (zN (rg (q0 (vi at1) (q0 (vi (q6.wrap (at1+1))) (q0 (vi (q6.wrap (at1+1))) (zD ?_))))))))
 have h:=h H3 w15 hs
 have hs:=hs.here
 refine zN ?_
 exact ⟨((q6.wrap (at1+1)),H3,w15),⟨rfl,hm,hs,hb,h.1⟩,h.2⟩
 obtain ⟨C3,hC,h⟩:=h
 refine vB (fun x=>C3 x∧HB Hl1 x [(p3,[(vi vrule1),(vi vfrom1)],171),(p2,[(vi wrule1),(vi wfrom1)],171)]) [5,9,10] [] (by kernel_rfl) (by kernel_rfl) (by kernel_rfl) (by kernel_rfl) ⟨hC,hb.drew⟩ ?_
 intro w17 hw17
 have h:=h w17 hw17
 have hs:Hst w0 Hl1 w12 Hl1 w17:=by rw [hw17];exact hs.drew
 have hb:HB Hl1 w17 [(p3,[(vi vrule1),(vi vfrom1)],171),(p2,[(vi wrule1),(vi wfrom1)],171)]:=by rw [hw17];exact hb.drew
 have hs:=hs.here
 refine qg 0 ?_
 obtain ⟨v19,hv7,h⟩:=h
 refine sy (v:=(vp v19)) Kp0 (fun w' hw'=>(xl (isAgg93 _) (hv7 w' hw'.1))) (qg 1 ?_)
 obtain ⟨a10,hp10,h⟩:=h
 refine sy (v:=(vp (some a10))) Kp1 (fun _ _=>(xn hp10)) (qx 2 (vp (some a10)) Kp2 (qg 3 ?_))
 obtain ⟨v20,hv6,h⟩:=h
 refine sy (v:=(vp v20)) Kp3 (fun w' hw'=>(xl (isAgg91 _) (hv6 w' hw'.1))) (qg 4 ?_)
 obtain ⟨v21,hv5,h⟩:=h
 refine sy (v:=(vi v21)) Kp4 (fun w' hw'=>(xl (isAgg78 _) (hv5 w' hw'.1))) ?_
 refine lgo2 (k:=5) (k':=9) (by kernel_rfl) ?_ ?_
 have h:=h.1
 refine slc Kp5 call104 (h.mono ?_)
 rintro e w18 ⟨aA,aC,aD,aF,aG,aB,aE,r1,rfl,hC,hk,h⟩
 refine ⟨_,rfl,.inr ⟨hC,hb.kept hk⟩,?_⟩
 obtain ⟨hs,hb⟩:=hk.hh hs hb
 refine qx 6 (.tuple #[(.agg #[(vi aA),(vi aC),(vi aD),(vu aF),(vs aG),(vi aB),(vi aE)]),(vb r1)]) Kp6 (qx 7 (.agg #[(vi aA),(vi aC),(vi aD),(vu aF),(vs aG),(vi aB),(vi aE)]) Kp7 (qx 8 (vb r1) Kp8 (lg 9 (jBS (O:=(.cells #[(vi 0),(vi 0),(vi 0),(vu 0),ve,(vi 0),(vi 0)] 127)) (fun p=>.pointer (some p)) Kp9 (zJ rfl) (by kernel_rfl) (zO (zeroValue127 _) rfl) ?_))))
 intro p6 w19 hn7
 have h:=h p6 w19 hn7
 refine ⟨.inr ⟨h.1,hb.kept (Ext.new (F:=None) hn7).keptP⟩,?_⟩
 have h:=h.2
 have hs:=hs.again (Ext.new (F:=None) hn7).keptP
 have hb:=hb.kept (Ext.new (F:=None) hn7).keptP
 refine lg 10 ?_
 obtain ⟨hp11,hnh,h⟩:=h
 refine uB (zS (S8 (zG (zG zR)))) (zJ rfl) (by kernel_rfl) (xo p6 [(vi aA),(vi aC),(vi aD),(vu aF),(vs aG),(vi aB),(vi aE)] (sizeOf127 _) hp11) ?_
 intro w20 hn6
 have h:=h w20 hn6
 refine ⟨.inr ⟨h.1,hb.kept (by rw [hn6];exact Kept.storeRow hnh)⟩,?_⟩
 have h:=h.2
 have hk:Kept Hl1 w19 w20:=by rw [hn6];exact Kept.storeRow hnh
 obtain ⟨hs,hb⟩:=hk.hh hs hb
 refine qx 11 (vb r1) (zS (S8 (zG (zG (zG zR))))) (wn (zN ?_))
 exact ⟨p6,Hl1,hm,hs,hb,h⟩
 have h:=h.2
 refine jBS (O:=(.cells #[(vi 0),(vi 0),(vi 0),(vu 0),ve,(vi 0),(vi 0)] 127)) (fun p=>.pointer (some p)) Kp9 (zJ rfl) (by kernel_rfl) (zO (zeroValue127 _) rfl) ?_
 intro p7 w21 hn9
 have h:=h p7 w21 hn9
 refine ⟨.inr ⟨h.1,hb.kept (Ext.new (F:=None) hn9).keptP⟩,?_⟩
 have h:=h.2
 have hs:=hs.again (Ext.new (F:=None) hn9).keptP
 have hb:=hb.kept (Ext.new (F:=None) hn9).keptP
 refine lg 5 ?_
 refine slc Kp5 call104 (h.mono ?_)
 rintro e w22 ⟨aP,aQ,aR,aS,aT,aU,aV,r2,rfl,hC,hk,h⟩
 refine ⟨_,rfl,.inr ⟨hC,hb.kept hk⟩,?_⟩
 obtain ⟨hs,hb⟩:=hk.hh hs hb
 refine qx 6 (.tuple #[(.agg #[(vi aP),(vi aQ),(vi aR),(vu aS),(vs aT),(vi aU),(vi aV)]),(vb r2)]) Kp6 (qx 7 (.agg #[(vi aP),(vi aQ),(vi aR),(vu aS),(vs aT),(vi aU),(vi aV)]) Kp7 (qx 8 (vb r2) Kp8 (lg 10 ?_)))
 obtain ⟨hp12,hnh,h⟩:=h
 refine uB (zS (S8 (zG (zG zR)))) (zJ rfl) (by kernel_rfl) (xo p7 [(vi aP),(vi aQ),(vi aR),(vu aS),(vs aT),(vi aU),(vi aV)] (sizeOf127 _) hp12) ?_
 intro w23 hn8
 have h:=h w23 hn8
 refine ⟨.inr ⟨h.1,hb.kept (by rw [hn8];exact Kept.storeRow hnh)⟩,?_⟩
 have h:=h.2
 have hk:Kept Hl1 w22 w23:=by rw [hn8];exact Kept.storeRow hnh
 obtain ⟨hs,hb⟩:=hk.hh hs hb
 refine qx 11 (vb r2) (zS (S8 (zG (zG (zG zR))))) (wn (zN ?_))
 exact ⟨p7,Hl1,hm,hs,hb,h⟩
 have h:=h.2 hc2
 refine qE (tN (tN (tP (jFP (.inr rfl) results106 ?_))))
 exact ⟨rfl,h⟩
def m_W1 (k1:Option Addr) (t1:Int) (w0:World) (K:Int→WP):Prop :=Br (Option.isNone k1) (K 7 w0) (∃a1:Addr,k1=some a1∧∃v1:Option Addr,w0.cell? a1=some (vp v1)∧Calls prog 104 #[(vp v1),(vi t1)] w0 (fun e w1=>∃aA aC:Int,∃aD aF:Int,∃aG:ByteArray,∃aB aE:Int,∃r1:Bool,e=.returned (.tuple #[(.agg #[(vi aA),(vi aC),(vi aD),(vu aF),(vs aG),(vi aB),(vi aE)]),(vb r1)])∧Kept None w0 w1∧Br (!r1) (∀(H1:NP) (w3:World),Hst w0 None w1 H1 w3→K 51 w3) (∃a2:Addr,k1=some a2∧∀(H1:NP) (w3:World),Hst w0 None w1 H1 w3→∃v2:Sl,w3.cell? (a2.add 1)=some v2.v∧Calls prog 105 #[v2.v,(vi t1)] w3 (fun e w4=>∃r2:Bool,e=.returned (vb r2)∧Kept H1 w3 w4∧Br (!r2) (∃a3:Addr,k1=some a3∧∃v3:Sl,w4.cell? (a3.add 1)=some v3.v∧∀(p2:Addr) (w5:World),New w4 (.cells #[(vi t1)] 78) p2 w5→∃s1:Sl,∃w6:World,(Builtin.append_ #[54,54] 54 #[v3.v,(Sl.mk (some p2) 1 1).v]).run prog w5=.ok s1.v w6∧Kept H1 w5 w6∧∃a4:Addr,k1=some a4∧CanW w6 (a4.add 1)∧¬ H1 (a4.add 1).block∧∀w7:World,w7=w6.setCell (a4.add 1) s1.v→Calls prog 106 #[(vp k1),(vi t1),(.agg #[(vi 0),(vi 0)])] w7 (fun e w8=>e=.returned (.tuple #[])∧Kept H1 w7 w8∧K 0 w8)) (Calls prog 106 #[(vp k1),(vi t1),(.agg #[(vi 0),(vi 0)])] w4 (fun e w9=>e=.returned (.tuple #[])∧Kept H1 w4 w9∧K 0 w9))))))
theorem w_W1 (k1:Option Addr) (t1:Int) (w0:World) (K:Int→WP) (h:m_W1 k1 t1 w0 K) :
  Calls prog 47 #[(vp k1),(vi t1)] w0 (fun e w'=>∃r3:Int,e=.returned (vi r3)∧K r3 w'):=by
 unfold m_W1 at h
 refine cw (args:=[(vp k1),(vi t1)]) func47 ntmps47 ?_
 have hs:=Hst.start w0
 have hb:=HB.nil None w0
 refine eg (q0 (vi 0) (ln (zA (eg (q0 (vp k1) (q2 (vb (Option.isNone k1)) (qL (by kernel_rfl) rfl underlying93) (ln ?_)))))))
 refine zB (t:=(Option.isNone k1)) (by kernel_rfl) (fun hc1=>?_) (fun hc1=>?_)
 have h:=h.1 hc1
 refine eg (q0 (vi 7) (ln (er (vL (rs1 results47 (v:=(vi 7)) ?_)))))
 exact ⟨7,rfl,h⟩
 have h:=h.2 hc1
 refine zC (zN (zA (eg (q0 (vp k1) ?_))))
 obtain ⟨a1,hp1,h⟩:=h
 refine q2 (vp (some a1)) (xn hp1) (q0 (vp (some a1)) ?_)
 obtain ⟨v1,hv4,h⟩:=h
 refine q2 (vp v1) (xl (isAgg91 _) hv4) (q0 (vi t1) ?_)
 refine sc call104 (h.mono ?_)
 rintro e w1 ⟨aA,aC,aD,aF,aG,aB,aE,r1,rfl,hk,h⟩
 refine ⟨_,rfl,?_⟩
 obtain ⟨hs,hb⟩:=hk.hh hs hb
 refine q0 (.tuple #[(.agg #[(vi aA),(vi aC),(vi aD),(vu aF),(vs aG),(vi aB),(vi aE)]),(vb r1)]) (q0 (.agg #[(vi aA),(vi aC),(vi aD),(vu aF),(vs aG),(vi aB),(vi aE)]) (q0 (vb r1) (sn (O:=(.cells #[(vi 0),(vi 0),(vi 0),(vu 0),ve,(vi 0),(vi 0)] 127)) (zO (zeroValue127 _) rfl) ?_)))
 intro p1 w2 hn1
 obtain ⟨H1,hs,hb⟩:=hs.alloc hb hn1
 refine ss (xo p1 [(vi aA),(vi aC),(vi aD),(vu aF),(vs aG),(vi aB),(vi aE)] (sizeOf127 _) (hb.k0 0 7 gZ)) ?_
 intro w3 hn2
 obtain ⟨hs,hb⟩:=hb.s0 (l':=[(p1,[(vi aA),(vi aC),(vi aD),(vu aF),(vs aG),(vi aB),(vi aE)],127)]) 0 [(vi aA),(vi aC),(vi aD),(vu aF),(vs aG),(vi aB),(vi aE)] hs hn2 gZ
 refine q0 (vb r1) (ln (eg (q0 (vb r1) (q0 (vb (!r1)) (ln ?_)))))
 refine zB (t:=(!r1)) (by kernel_rfl) (fun hc2=>?_) (fun hc2=>?_)
 have h:=h.1 hc2
 refine eg (q0 (vi 51) (ln (er (vL ?_))))
 have h:=h H1 w3 hs
 have hs:=hs.here
 refine rs1 results47 (v:=(vi 51)) ?_
 exact ⟨51,rfl,h⟩
 have h:=h.2 hc2
 refine zC (zN (zA (eg (q0 (vp k1) ?_))))
 obtain ⟨a2,hp2,h⟩:=h
 refine q2 (vp (some a2)) (xn hp2) (q0 (vp (some (a2.add 1))) ?_)
 have h:=h H1 w3 hs
 have hs:=hs.here
 obtain ⟨v2,hv3,h⟩:=h
 refine q2 v2.v (xl (isAgg54 _) hv3) (q0 (vi t1) ?_)
 refine sc call105 (h.mono ?_)
 rintro e w4 ⟨r2,rfl,hk,h⟩
 refine ⟨_,rfl,?_⟩
 obtain ⟨hs,hb⟩:=hk.hh hs hb
 refine q0 (vb (!r2)) (ln ?_)
 refine zB (t:=(!r2)) (by kernel_rfl) (fun hc3=>?_) (fun hc3=>?_)
 have h:=h.1 hc3
 refine rg (q0 (vp k1) (q0 (vp k1) ?_))
 obtain ⟨a3,hp3,h⟩:=h
 refine q2 (vp (some a3)) (xn hp3) (q0 (vp (some (a3.add 1))) ?_)
 obtain ⟨v3,hv2,h⟩:=h
 refine q2 v3.v (xl (isAgg54 _) hv2) (q0 (vi t1) (vR (O:=(.cells #[(vi t1)] 78)) (fun p=>(Sl.mk (some p) 1 1).v) (zJ rfl) (zK (vs:=#[(0,(vi t1))]) (by kernel_rfl) (by kernel_rfl)) ?_))
 intro p2 w5 hn4
 have h:=h p2 w5 hn4
 have hs:=hs.again (Ext.new (F:=None) hn4).keptP
 have hb:=hb.kept (Ext.new (F:=None) hn4).keptP
 obtain ⟨s1,w6,hv1,hk,h⟩:=h
 refine st (v:=s1.v) (zJ rfl) (vS (args:=#[v3.v,(Sl.mk (some p2) 1 1).v]) (by kernel_rfl) (fun _=>rfl) hv1) ?_
 obtain ⟨hs,hb⟩:=hk.hh hs hb
 obtain ⟨a4,hp4,h⟩:=h
 refine q2 (vp (some a4)) (xn hp4) (q0 (vp (some (a4.add 1))) ?_)
 obtain ⟨hp5,hnh,h⟩:=h
 refine ss (zT (a:=(a4.add 1)) (v:=s1.v) (by kernel_rfl) (by kernel_rfl) rfl (sizeOf54 _) hp5) ?_
 intro w7 hn3
 have h:=h w7 hn3
 have hk:=Kept.sc hnh hn3
 obtain ⟨hs,hb⟩:=hk.hh hs hb
 refine ln (eg (q0 (vp k1) (q0 (vi t1) (q0 (.agg #[(vi 0),(vi 0)]) ?_))))
 refine sc call106 (h.mono ?_)
 rintro e w8 ⟨rfl,hk,h⟩
 refine ⟨_,rfl,?_⟩
 obtain ⟨hs,hb⟩:=hk.hh hs hb
 refine ln (eg (q0 (vi 0) (ln (er (rs1 results47 (v:=(vi 0)) ?_)))))
 exact ⟨0,rfl,h⟩
 have h:=h.2 hc3
 refine zC (zN (eg (q0 (vp k1) (q0 (vi t1) (q0 (.agg #[(vi 0),(vi 0)]) ?_)))))
 refine sc call106 (h.mono ?_)
 rintro e w9 ⟨rfl,hk,h⟩
 refine ⟨_,rfl,?_⟩
 obtain ⟨hs,hb⟩:=hk.hh hs hb
 refine ln (eg (q0 (vi 0) (ln (er (rs1 results47 (v:=(vi 0)) ?_)))))
 exact ⟨0,rfl,h⟩
def m_X1 (k1:Option Addr) (t1:Int) (w0:World) (K:Sl→Bool→WP):Prop :=∀(p1:Addr) (w1:World),New w0 (.cells #[(vp k1)] 93) p1 w1→∃v1:Option Addr,w1.cell? p1=some (vp v1)∧Br (Option.isNone v1) (K Sl.nil false w1) (∀(p2:Addr) (w2:World),New w1 (.cells #[Sl.nil.v] 181) p2 w2→∀(p3:Addr) (w3:World),New w2 (.map #[] 0) p3 w3→∀(p4:Addr) (w4:World),New w3 (.cells #[(.map none)] 245) p4 w4→CanW w4 p4∧∀w5:World,w5=w4.setCell p4 (.map (some p3.block))→∀(p5:Addr) (w6:World),New w5 (.map #[] 0) p5 w6→∀(p6:Addr) (w7:World),New w6 (.cells #[(.map none)] 246) p6 w7→CanW w7 p6∧∀w8:World,w8=w7.setCell p6 (.map (some p5.block))→∀(p7:Addr) (w9:World),New w8 (.cells #[(.nilFunc:Value)] 247) p7 w9→CanW w9 p7∧∀w10:World,w10=w9.setCell p7 (.func (.func 171) #[] #[(vp (some p4)),(vp (some p6)),(vp (some p1)),(vp (some p7)),(vp (some p2))])→∃v2:Value,w10.cell? p7=some v2∧∃(f1:FuncId) (fs1 cs1:Array Value),v2=.func (.func f1) fs1 cs1∧(∀args w,(callFunc f1 args).run prog w=.ok (.enter f1 args) w)∧Calls prog f1 (fs1++#[(vi t1)]++cs1) w10 (fun e w11=>∃r1:Int,∃r2:Bool,e=.returned (.tuple #[(vi r1),(vb r2)])∧Br (!r2) (K Sl.nil false w11) (∃v3:Sl,w11.cell? p2=some v3.v∧K v3 true w11)))
theorem w_X1 (k1:Option Addr) (t1:Int) (w0:World) (K:Sl→Bool→WP) (h:m_X1 k1 t1 w0 K) :
  Calls prog 116 #[(vp k1),(vi t1)] w0 (fun e w'=>∃r3:Sl,∃r4:Bool,e=.returned (.tuple #[r3.v,(vb r4)])∧K r3 r4 w'):=by
 unfold m_X1 at h
 refine cw (args:=[(vp k1),(vi t1)]) func116 ntmps116 (eg (sn (O:=(.cells #[(vp k1)] 93)) xb ?_))
 intro p1 w1 hn10
 have h:=h p1 w1 hn10
 refine q0 Sl.nil.v (q0 (vb false) (ln (zA (eg ?_))))
 obtain ⟨v1,hv3,h⟩:=h
 refine q2 (vp v1) (xl (isAgg93 _) hv3) (q2 (vb (Option.isNone v1)) (qL (by kernel_rfl) rfl underlying93) (ln ?_))
 refine zB (t:=(Option.isNone v1)) (by kernel_rfl) (fun hc1=>?_) (fun hc1=>?_)
 have h:=h.1 hc1
 refine eg (q0 Sl.nil.v (q0 (vb false) (ln (er (vL (xW (.inl rfl) results116 (v:=Sl.nil.v) (by kernel_rfl) (v':=(vb false)) (by kernel_rfl) ?_))))))
 exact ⟨Sl.nil,false,rfl,h⟩
 have h:=h.2 hc1
 refine zC (zN (eg (sn (O:=(.cells #[Sl.nil.v] 181)) (zO (zeroValue181 _) rfl) ?_)))
 intro p2 w2 hn9
 have h:=h p2 w2 hn9
 refine ln (eg (vR (O:=(.map #[] 0)) (fun p=>.map (some p.block)) (zJ rfl) (by kernel_rfl) ?_))
 intro p3 w3 hn8
 have h:=h p3 w3 hn8
 refine sn (O:=(.cells #[(.map none)] 245)) (zO (zeroValue245 _) rfl) ?_
 intro p4 w4 hn7
 have h:=h p4 w4 hn7
 obtain ⟨hp1,h⟩:=h
 refine ss (zT (a:=p4) (v:=(.map (some p3.block))) (by kernel_rfl) (by kernel_rfl) rfl (sizeOf245 _) hp1) ?_
 intro w5 hn1
 have h:=h w5 hn1
 refine ln (eg (vR (O:=(.map #[] 0)) (fun p=>.map (some p.block)) (zJ rfl) (by kernel_rfl) ?_))
 intro p5 w6 hn6
 have h:=h p5 w6 hn6
 refine sn (O:=(.cells #[(.map none)] 246)) (zO (zeroValue246 _) rfl) ?_
 intro p6 w7 hn5
 have h:=h p6 w7 hn5
 obtain ⟨hp2,h⟩:=h
 refine ss (zT (a:=p6) (v:=(.map (some p5.block))) (by kernel_rfl) (by kernel_rfl) rfl (sizeOf246 _) hp2) ?_
 intro w8 hn2
 have h:=h w8 hn2
 refine ln (eg (sn (O:=(.cells #[(.nilFunc:Value)] 247)) (zO (zeroValue247 _) rfl) ?_))
 intro p7 w9 hn4
 have h:=h p7 w9 hn4
 refine ln (eg (q0 (.func (.func 171) #[] #[(vp (some p4)),(vp (some p6)),(vp (some p1)),(vp (some p7)),(vp (some p2))]) ?_))
 obtain ⟨hp3,h⟩:=h
 refine ss (zT (a:=p7) (v:=(.func (.func 171) #[] #[(vp (some p4)),(vp (some p6)),(vp (some p1)),(vp (some p7)),(vp (some p2))])) (by kernel_rfl) (by kernel_rfl) rfl (sizeOf247 _) hp3) ?_
 intro w10 hn3
 have h:=h w10 hn3
 refine ln (zA (eg ?_))
 obtain ⟨v2,hv2,h⟩:=h
 refine q2 v2 (xl (isAgg247 _) hv2) (q0 (vi t1) ?_)
 obtain ⟨f1,fs1,cs1,hp4,h⟩:=h
 obtain ⟨hf1,h⟩:=h
 refine vG (zJ rfl) (lB (fs:=fs1) (caps:=cs1) (args:=#[(vi t1)]) (by kernel_rfl) hp4 hf1 (by kernel_rfl) rfl) (h.mono ?_)
 rintro e w11 ⟨r1,r2,rfl,h⟩
 refine ⟨_,rfl,?_⟩
 refine q0 (.tuple #[(vi r1),(vb r2)]) (q0 (vi r1) (q0 (vb r2) (q0 (vi r1) (q0 (vb r2) (ln (eg (q0 (vb r2) (q0 (vb (!r2)) (zD ?_)))))))))
 refine zN ?_
 refine zB (t:=(!r2)) (by kernel_rfl) (fun hc2=>?_) (fun hc2=>?_)
 have h:=h.1 hc2
 refine eg (q0 Sl.nil.v (q0 (vb false) (ln (er (vL (xW (.inl rfl) results116 (v:=Sl.nil.v) (by kernel_rfl) (v':=(vb false)) (by kernel_rfl) ?_))))))
 exact ⟨Sl.nil,false,rfl,h⟩
 have h:=h.2 hc2
 refine zC (zN (eg ?_))
 obtain ⟨v3,hv1,h⟩:=h
 refine q2 v3.v (xl (isAgg181 _) hv1) (q0 v3.v (q0 (vb true) (ln (er (xW (.inl rfl) results116 (v:=v3.v) (by kernel_rfl) (v':=(vb true)) (by kernel_rfl) ?_)))))
 exact ⟨v3,true,rfl,h⟩
def m_Y3 (k1:Option Addr) (t1:Int) (w0:World) (K:Bool→WP):Prop :=Calls prog 116 #[(vp k1),(vi t1)] w0 (fun e w1=>∃r1:Sl,∃r2:Bool,e=.returned (.tuple #[r1.v,(vb r2)])∧K r2 w1)
theorem w_Y3 (k1:Option Addr) (t1:Int) (w0:World) (K:Bool→WP) (h:m_Y3 k1 t1 w0 K) :
  Calls prog 71 #[(vp k1),(vi t1)] w0 (fun e w'=>∃r3:Bool,e=.returned (vb r3)∧K r3 w'):=by
 unfold m_Y3 at h
 refine cw (args:=[(vp k1),(vi t1)]) func71 ntmps71 (eg (q0 (vb false) (ln (eg (q0 (vp k1) (q0 (vi t1) ?_))))))
 refine sc call116 (h.mono ?_)
 rintro e w1 ⟨r1,r2,rfl,h⟩
 refine ⟨_,rfl,?_⟩
 refine q0 (.tuple #[r1.v,(vb r2)]) (q0 r1.v (q0 (vb r2) (q0 r1.v (q0 (vb r2) (ln (eg (q0 (vb r2) (q0 (vb r2) (zD ?_)))))))))
 refine zN (er (rs1 results71 (v:=(vb r2)) ?_))
 exact ⟨r2,rfl,h⟩
def m_Z3 (k1:Option Addr) (t1:Int) (w0:World) (K:Bool→WP):Prop :=Br (Option.isNone k1) (K false w0) (∃a1:Addr,k1=some a1∧∃v1:Option Nat,w0.cell? (a1.add 2)=some (.map v1)∧∃vrule1 vfrom1:Int,∃ok1:Bool,(Instr.lookup 163 (.map v1) (vi t1) true).run prog w0=.ok (.tuple #[(.agg #[(vi vrule1),(vi vfrom1)]),(vb ok1)]) w0∧∀(H1:NP) (w2:World),Hst w0 None w0 H1 w2→K ok1 w2)
theorem w_Z3 (k1:Option Addr) (t1:Int) (w0:World) (K:Bool→WP) (h:m_Z3 k1 t1 w0 K) :
  Calls prog 113 #[(vp k1),(vi t1)] w0 (fun e w'=>∃r1:Bool,e=.returned (vb r1)∧K r1 w'):=by
 unfold m_Z3 at h
 refine cw (args:=[(vp k1),(vi t1)]) func113 ntmps113 ?_
 have hs:=Hst.start w0
 have hb:=HB.nil None w0
 refine eg (q0 (vb false) (ln (zA (eg (q0 (vp k1) (q2 (vb (Option.isNone k1)) (qL (by kernel_rfl) rfl underlying93) (ln ?_)))))))
 refine zB (t:=(Option.isNone k1)) (by kernel_rfl) (fun hc1=>?_) (fun hc1=>?_)
 have h:=h.1 hc1
 refine eg (q0 (vb false) (ln (er (vL (rs1 results113 (v:=(vb false)) ?_)))))
 exact ⟨false,rfl,h⟩
 have h:=h.2 hc1
 refine zC (zN (eg (q0 (vp k1) ?_)))
 obtain ⟨a1,hp1,h⟩:=h
 refine q2 (vp (some a1)) (xn hp1) (q0 (vp (some (a1.add 2))) ?_)
 obtain ⟨v1,hv2,h⟩:=h
 refine q2 (.map v1) (xl (isAgg163 _) hv2) (q0 (vi t1) ?_)
 obtain ⟨vrule1,vfrom1,ok1,hv1,h⟩:=h
 refine q2 (.tuple #[(.agg #[(vi vrule1),(vi vfrom1)]),(vb ok1)]) (qT (by kernel_rfl) (by kernel_rfl) hv1) (q0 (.tuple #[(.agg #[(vi vrule1),(vi vfrom1)]),(vb ok1)]) (q0 (.agg #[(vi vrule1),(vi vfrom1)]) (q0 (vb ok1) (sn (O:=(.cells #[(vi 0),(vi 0)] 171)) (zO (zeroValue171 _) rfl) ?_))))
 intro p1 w1 hn1
 obtain ⟨H1,hs,hb⟩:=hs.alloc hb hn1
 refine ss (xo p1 [(vi vrule1),(vi vfrom1)] (sizeOf171 _) (hb.k0 0 2 gZ)) ?_
 intro w2 hn2
 obtain ⟨hs,hb⟩:=hb.s0 (l':=[(p1,[(vi vrule1),(vi vfrom1)],171)]) 0 [(vi vrule1),(vi vfrom1)] hs hn2 gZ
 refine q0 (vb ok1) (ln (eg (q0 (vb ok1) (q0 (vb ok1) (ln (er ?_))))))
 have h:=h H1 w2 hs
 have hs:=hs.here
 refine rs1 results113 (v:=(vb ok1)) ?_
 exact ⟨ok1,rfl,h⟩
def m_A4 (t1 rule1:Int) (cap1 cap2:Addr) (w0:World) (K:WP):Prop :=∃v1:Option Addr,w0.cell? cap1=some (vp v1)∧∃a1:Addr,v1=some a1∧∃v2:Option Nat,w0.cell? (a1.add 2)=some (.map v2)∧∃vrule1 vfrom1:Int,∃ok1:Bool,(Instr.lookup 163 (.map v2) (vi t1) true).run prog w0=.ok (.tuple #[(.agg #[(vi vrule1),(vi vfrom1)]),(vb ok1)]) w0∧Br (!ok1) (∀(H1:NP) (w2:World),Hst w0 None w0 H1 w2→∃C1:WP,C1 w2.drew∧∀w3,w3=w2.drew→∃v3:Option Addr,(∀w',C1 w'→w'.cell? cap1=some (vp v3))∧∃a2:Addr,v3=some a2∧∃v4:Option Nat,(∀w',C1 w'→w'.cell? (a2.add 2)=some (.map v4))∧∃v5:Int,(∀w',C1 w'→w'.cell? cap2=some (vi v5))∧∃w4:World,(Instr.mapUpdate 163 (.map v4) (vi t1) (.agg #[(vi rule1),(vi v5)])).run prog w3=.ok () w4∧Kept H1 w3 w4∧∃C2:WP,C2 w4.drew∧∀w5,w5=w4.drew→∃v6:Option Addr,(∀w',C2 w'→w'.cell? cap1=some (vp v6))∧∃v7:Option Addr,(∀w',C2 w'→w'.cell? cap1=some (vp v7))∧∃a3:Addr,v7=some a3∧∃v8:Sl,(∀w',C2 w'→w'.cell? (a3.add 3)=some v8.v)∧∀(p2:Addr) (w6:World),New w5 (.cells #[(vi t1)] 78) p2 w6→C2 w6∧∃s1:Sl,∃w7:World,(Builtin.append_ #[54,54] 54 #[v8.v,(Sl.mk (some p2) 1 1).v]).run prog w6=.ok s1.v w7∧C2 w7∧Kept H1 w6 w7∧∃a4:Addr,v6=some a4∧CanW w7 (a4.add 3)∧¬ H1 (a4.add 3).block∧∀w8:World,w8=w7.setCell (a4.add 3) s1.v→K w8) (∀(H1:NP) (w2:World),Hst w0 None w0 H1 w2→K w2)
theorem w_A4 (t1 rule1:Int) (cap1 cap2:Addr) (w0:World) (K:WP) (h:m_A4 t1 rule1 cap1 cap2 w0 K) :
  Calls prog 164 #[(vi t1),(vi rule1),(vp (some cap1)),(vp (some cap2))] w0 (fun e w'=>e=.returned (.tuple #[])∧K  w'):=by
 unfold m_A4 at h
 refine cw (args:=[(vi t1),(vi rule1),(vp (some cap1)),(vp (some cap2))]) func164 ntmps164 ?_
 have hs:=Hst.start w0
 have hb:=HB.nil None w0
 refine eg ?_
 obtain ⟨v1,hv11,h⟩:=h
 refine q2 (vp v1) (xl (isAgg93 _) hv11) ?_
 obtain ⟨a1,hp1,h⟩:=h
 refine q2 (vp (some a1)) (xn hp1) (q0 (vp (some (a1.add 2))) ?_)
 obtain ⟨v2,hv10,h⟩:=h
 refine q2 (.map v2) (xl (isAgg163 _) hv10) (q0 (vi t1) ?_)
 obtain ⟨vrule1,vfrom1,ok1,hv9,h⟩:=h
 refine q2 (.tuple #[(.agg #[(vi vrule1),(vi vfrom1)]),(vb ok1)]) (qT (by kernel_rfl) (by kernel_rfl) hv9) (q0 (.tuple #[(.agg #[(vi vrule1),(vi vfrom1)]),(vb ok1)]) (q0 (.agg #[(vi vrule1),(vi vfrom1)]) (q0 (vb ok1) (sn (O:=(.cells #[(vi 0),(vi 0)] 171)) (zO (zeroValue171 _) rfl) ?_))))
 intro p1 w1 hn1
 obtain ⟨H1,hs,hb⟩:=hs.alloc hb hn1
 refine ss (xo p1 [(vi vrule1),(vi vfrom1)] (sizeOf171 _) (hb.k0 0 2 gZ)) ?_
 intro w2 hn2
 obtain ⟨hs,hb⟩:=hb.s0 (l':=[(p1,[(vi vrule1),(vi vfrom1)],171)]) 0 [(vi vrule1),(vi vfrom1)] hs hn2 gZ
 refine q0 (vb ok1) (ln (eg (q0 (vb ok1) (q0 (vb (!ok1)) (ln ?_)))))
 refine zB (t:=(!ok1)) (by kernel_rfl) (fun hc1=>?_) (fun hc1=>?_)
 have h:=h.1 hc1
 refine zA ?_
 have h:=h H1 w2 hs
 have hs:=hs.here
 obtain ⟨C1,hC,h⟩:=h
 refine vB (fun x=>C1 x∧HB H1 x [(p1,[(vi vrule1),(vi vfrom1)],171)]) [8] [8] (by kernel_rfl) (by kernel_rfl) (by kernel_rfl) (by kernel_rfl) ⟨hC,hb.drew⟩ ?_
 intro w3 hw3
 have h:=h w3 hw3
 have hs:Hst w0 H1 w2 H1 w3:=by rw [hw3];exact hs.drew
 have hb:HB H1 w3 [(p1,[(vi vrule1),(vi vfrom1)],171)]:=by rw [hw3];exact hb.drew
 have hs:=hs.here
 refine qg 0 ?_
 obtain ⟨v3,hv8,h⟩:=h
 refine sy (v:=(vp v3)) Kp0 (fun w' hw'=>(xl (isAgg93 _) (hv8 w' hw'.1))) (qg 1 ?_)
 obtain ⟨a2,hp2,h⟩:=h
 refine sy (v:=(vp (some a2))) Kp1 (fun _ _=>(xn hp2)) (qx 2 (vp (some (a2.add 2))) Kp2 (qg 3 ?_))
 obtain ⟨v4,hv7,h⟩:=h
 refine sy (v:=(.map v4)) Kp3 (fun w' hw'=>(xl (isAgg163 _) (hv7 w' hw'.1))) (qx 4 (vi t1) Kp4 (qx 5 (vi rule1) Kp5 (qg 6 ?_)))
 obtain ⟨v5,hv6,h⟩:=h
 refine sy (v:=(vi v5)) Kp6 (fun w' hw'=>(xl (isAgg78 _) (hv6 w' hw'.1))) (qx 7 (.agg #[(vi rule1),(vi v5)]) Kp7 (lg 8 ?_))
 obtain ⟨w4,hv5,hk,h⟩:=h
 refine jHD Kp8 (zJ rfl) (by kernel_rfl) (yT (by kernel_rfl) (by kernel_rfl) (by kernel_rfl) hv5) (.inl (by kernel_rfl)) ?_
 obtain ⟨hs,hb⟩:=hk.hh hs hb
 refine wn (zN ?_)
 obtain ⟨C2,hC,h⟩:=h
 refine vB (fun x=>C2 x∧HB H1 x [(p1,[(vi vrule1),(vi vfrom1)],171)]) [6,7,10] [10] (by kernel_rfl) (by kernel_rfl) (by kernel_rfl) (by kernel_rfl) ⟨hC,hb.drew⟩ ?_
 intro w5 hw5
 have h:=h w5 hw5
 have hs:Hst w0 H1 w4 H1 w5:=by rw [hw5];exact hs.drew
 have hb:HB H1 w5 [(p1,[(vi vrule1),(vi vfrom1)],171)]:=by rw [hw5];exact hb.drew
 have hs:=hs.here
 refine qg 0 ?_
 obtain ⟨v6,hv4,h⟩:=h
 refine sy (v:=(vp v6)) Kp0 (fun w' hw'=>(xl (isAgg93 _) (hv4 w' hw'.1))) (qg 1 ?_)
 obtain ⟨v7,hv3,h⟩:=h
 refine sy (v:=(vp v7)) Kp1 (fun w' hw'=>(xl (isAgg93 _) (hv3 w' hw'.1))) (qg 2 ?_)
 obtain ⟨a3,hp3,h⟩:=h
 refine sy (v:=(vp (some a3))) Kp2 (fun _ _=>(xn hp3)) (qx 3 (vp (some (a3.add 3))) Kp3 (qg 4 ?_))
 obtain ⟨v8,hv2,h⟩:=h
 refine sy (v:=v8.v) Kp4 (fun w' hw'=>(xl (isAgg54 _) (hv2 w' hw'.1))) (qx 5 (vi t1) Kp5 (lg 6 (jBS (O:=(.cells #[(vi t1)] 78)) (fun p=>(Sl.mk (some p) 1 1).v) Kp6 (zJ rfl) (by kernel_rfl) (zK (vs:=#[(0,(vi t1))]) (by kernel_rfl) (by kernel_rfl)) ?_)))
 intro p2 w6 hn4
 have h:=h p2 w6 hn4
 refine ⟨.inr ⟨h.1,hb.kept (Ext.new (F:=None) hn4).keptP⟩,?_⟩
 have h:=h.2
 have hs:=hs.again (Ext.new (F:=None) hn4).keptP
 have hb:=hb.kept (Ext.new (F:=None) hn4).keptP
 refine lg 7 ?_
 obtain ⟨s1,w7,hv1,hC,hk,h⟩:=h
 refine sl (v:=s1.v) Kp7 (zJ rfl) (by kernel_rfl) (vS (args:=#[v8.v,(Sl.mk (some p2) 1 1).v]) (by kernel_rfl) (fun _=>rfl) hv1) (.inr ⟨hC,hb.kept hk⟩) ?_
 obtain ⟨hs,hb⟩:=hk.hh hs hb
 refine qg 8 ?_
 obtain ⟨a4,hp4,h⟩:=h
 refine sy (v:=(vp (some a4))) Kp8 (fun _ _=>(xn hp4)) (qx 9 (vp (some (a4.add 3))) Kp9 (lg 10 ?_))
 obtain ⟨hp5,hnh,h⟩:=h
 refine jSS (zS (S8 (zG (zG zR)))) (xs (v:=s1.v) (sizeOf54 _) hp5) ?_
 intro w8 hn3
 have h:=h w8 hn3
 refine ⟨.inl (by kernel_rfl),?_⟩
 have hk:=Kept.sc hnh hn3
 obtain ⟨hs,hb⟩:=hk.hh hs hb
 refine wn (jFP (.inr rfl) results164 ?_)
 exact ⟨rfl,h⟩
 have h:=h.2 hc1
 refine zC ?_
 have h:=h H1 w2 hs
 have hs:=hs.here
 refine jFP (.inr rfl) results164 ?_
 exact ⟨rfl,h⟩
def m_K1_j1 (k1:Option Addr) (aB who1:Int) (H:NP) (w:World) (K:Int→Int→Bool→Bool→WP):Prop :=∃a2:Addr,k1=some a2∧∃v2:Option Addr,w.cell? a2=some (vp v2)∧Calls prog 112 #[(vp v2),(.agg #[(vi 6),(vi who1),(vi 0),(vu 0),ve,(vi 0),(vi 0)])] w (fun e w4=>∃r2:Int,∃r3:Bool,e=.returned (.tuple #[(vi r2),(vb r3)])∧Kept H w w4∧∃C1:WP,C1 w4.drew∧∀w5,w5=w4.drew→Br r3 (Calls prog 113 #[(vp k1),(vi r2)] w5 (fun e w6=>∃r4:Bool,e=.returned (vb r4)∧C1 w6∧Kept H w5 w6∧K aB r2 false r4 w6)) (K aB r2 false false w5))
def m_K1 (k1:Option Addr) (t1:Int) (w0:World) (K:Int→Int→Bool→Bool→WP):Prop :=∃a1:Addr,k1=some a1∧∃v1:Option Addr,w0.cell? a1=some (vp v1)∧Calls prog 104 #[(vp v1),(vi t1)] w0 (fun e w1=>∃aA aC:Int,∃aD aF:Int,∃aG:ByteArray,∃aB aE:Int,∃r1:Bool,e=.returned (.tuple #[(.agg #[(vi aA),(vi aC),(vi aD),(vu aF),(vs aG),(vi aB),(vi aE)]),(vb r1)])∧Kept None w0 w1∧Br (!r1) (∀(H1:NP) (w3:World),Hst w0 None w1 H1 w3→K 0 0 false false w3) (∀y1:Bool,y1=(cond (aA == 1) (aA == 1) (cond (aA == 2) (aA == 2) (aA == 3)))→Br y1 (∀(H2:NP) (w7:World),Hst w0 None w1 H2 w7→K 0 0 true true w7) (Br (aA == 4) (∀(H2:NP) (w8:World),Hst w0 None w1 H2 w8→K aB aE false true w8) (Br (aA == 5) (∀(H2:NP) (w7:World),Hst w0 None w1 H2 w7→K aB 0 false true w7) (Br (aA == 6) (∀(H2:NP) (w7:World),Hst w0 None w1 H2 w7→K 0 0 false false w7) (∀(H3:NP) (w9:World),Hst w0 None w1 H3 w9→m_K1_j1 k1 aB (cond (aA == 9) aD aC) H3 w9 K))))))
theorem w_K1 (k1:Option Addr) (t1:Int) (w0:World) (K:Int→Int→Bool→Bool→WP) (h:m_K1 k1 t1 w0 K) :
  Calls prog 172 #[(vp k1),(vi t1)] w0 (fun e w'=>∃r5 r6:Int,∃r7 r8:Bool,e=.returned (.tuple #[(vi r5),(vi r6),(vb r7),(vb r8)])∧K r5 r6 r7 r8 w'):=by
 unfold m_K1 at h
 refine cw (args:=[(vp k1),(vi t1)]) func172 ntmps172 ?_
 have hs:=Hst.start w0
 have hb:=HB.nil None w0
 refine eg (q0 (vi 0) (q0 (vi 0) (q0 (vb false) (q0 (vb false) (ln (eg (q0 (vp k1) ?_)))))))
 obtain ⟨a1,hp1,h⟩:=h
 refine q2 (vp (some a1)) (xn hp1) (q0 (vp (some a1)) ?_)
 obtain ⟨v1,hv2,h⟩:=h
 refine q2 (vp v1) (xl (isAgg91 _) hv2) (q0 (vi t1) ?_)
 refine sc call104 (h.mono ?_)
 rintro e w1 ⟨aA,aC,aD,aF,aG,aB,aE,r1,rfl,hk,h⟩
 refine ⟨_,rfl,?_⟩
 obtain ⟨hs,hb⟩:=hk.hh hs hb
 refine q0 (.tuple #[(.agg #[(vi aA),(vi aC),(vi aD),(vu aF),(vs aG),(vi aB),(vi aE)]),(vb r1)]) (q0 (.agg #[(vi aA),(vi aC),(vi aD),(vu aF),(vs aG),(vi aB),(vi aE)]) (q0 (vb r1) (sn (O:=(.cells #[(vi 0),(vi 0),(vi 0),(vu 0),ve,(vi 0),(vi 0)] 127)) (zO (zeroValue127 _) rfl) ?_)))
 intro p1 w2 hn1
 obtain ⟨H1,hs,hb⟩:=hs.alloc hb hn1
 refine ss (xo p1 [(vi aA),(vi aC),(vi aD),(vu aF),(vs aG),(vi aB),(vi aE)] (sizeOf127 _) (hb.k0 0 7 gZ)) ?_
 intro w3 hn2
 obtain ⟨hs,hb⟩:=hb.s0 (l':=[(p1,[(vi aA),(vi aC),(vi aD),(vu aF),(vs aG),(vi aB),(vi aE)],127)]) 0 [(vi aA),(vi aC),(vi aD),(vu aF),(vs aG),(vi aB),(vi aE)] hs hn2 gZ
 refine q0 (vb r1) (ln (zA (eg (q0 (vb r1) (q0 (vb (!r1)) (ln ?_))))))
 refine zB (t:=(!r1)) (by kernel_rfl) (fun hc1=>?_) (fun hc1=>?_)
 have h:=h.1 hc1
 refine eg (q0 (vi 0) (q0 (vi 0) (q0 (vb false) (q0 (vb false) (ln (er (vL ?_)))))))
 have h:=h H1 w3 hs
 have hs:=hs.here
 refine jVI (.inl rfl) results172 (v:=(vi 0)) (by kernel_rfl) (v':=(vi 0)) (by kernel_rfl) (v'':=(vb false)) (by kernel_rfl) (v3:=(vb false)) (by kernel_rfl) ?_
 exact ⟨0,0,false,false,rfl,h⟩
 have h:=h.2 hc1
 refine zC (zN (eg (q0 (vp (some (p1.add 1))) (q2 (vi aC) (xl (isAgg3 _) (hb.c 0 1 gZ)) (q0 (vi aC) (ln (zA (eg ?_))))))))
 refine q0 (vp (some p1)) (q2 (vi aA) (xl (isAgg3 _) (hb.c0 0 gZ)) (ln ?_))
 refine vI (fun ρ w=>∃who1:Int,∃H:NP,Has ρ [(0,(vp k1)),(8,(vp (some p1))),(10,(vi who1))]∧Hst w0 H w H w∧HB H w [(p1,[(vi aA),(vi aC),(vi aD),(vu aF),(vs aG),(vi aB),(vi aE)],127)]∧m_K1_j1 k1 aB who1 H w K) ?_ ?_
 rintro ρ w ⟨who1,H,hH,hs,hb,h⟩
 unfold m_K1_j1 at h
 refine vC hH ?_
 refine eg (q0 (vp k1) ?_)
 obtain ⟨a2,hp2,h⟩:=h
 refine q2 (vp (some a2)) (xn hp2) (q0 (vp (some a2)) ?_)
 obtain ⟨v2,hv1,h⟩:=h
 refine q2 (vp v2) (xl (isAgg91 _) hv1) (q0 (vi who1) (q0 (.agg #[(vi 6),(vi who1),(vi 0),(vu 0),ve,(vi 0),(vi 0)]) ?_))
 refine sc call112 (h.mono ?_)
 rintro e w4 ⟨r2,r3,rfl,hk,h⟩
 refine ⟨_,rfl,?_⟩
 obtain ⟨hs,hb⟩:=hk.hh hs hb
 refine q0 (.tuple #[(vi r2),(vb r3)]) (q0 (vi r2) (q0 (vb r3) (q0 (vi r2) (q0 (vb r3) (ln (zA ?_))))))
 obtain ⟨C1,hC,h⟩:=h
 refine vB (fun x=>C1 x∧HB H x [(p1,[(vi aA),(vi aC),(vi aD),(vu aF),(vs aG),(vi aB),(vi aE)],127)]) [7] [] (by kernel_rfl) (by kernel_rfl) (by kernel_rfl) (by kernel_rfl) ⟨hC,hb.drew⟩ ?_
 intro w5 hw5
 have h:=h w5 hw5
 have hs:Hst w0 H w4 H w5:=by rw [hw5];exact hs.drew
 have hb:HB H w5 [(p1,[(vi aA),(vi aC),(vi aD),(vu aF),(vs aG),(vi aB),(vi aE)],127)]:=by rw [hw5];exact hb.drew
 have hs:=hs.here
 refine qx 0 (vp (some (p1.add 5))) Kp0 (qz 1 (vi aB) Kp1 (fun w' hw'=>(xl (isAgg78 _) (hw'.2.cell 0 5 gZ (by kernel_rfl)))) (qx 2 (vi r2) Kp2 (qx 3 (vb r3) Kp3 (qx 4 (vb r3) Kp4 (qg 5 ?_)))))
 rcases bte r3 with hg1 | hg1
 have h:=h.1 hg1
 refine sz (v:=(vp k1)) Kp5 (wy 61 hg1) (fun _ _=>(by kernel_rfl)) (qw 6 (vi r2) Kp6 (wy 61 hg1) (lg 7 ?_))
 refine jLD Kp7 (wy 61 hg1) (by kernel_rfl) (xc call113) (h.mono ?_)
 rintro e w6 ⟨r4,rfl,hC,hk,h⟩
 refine ⟨_,rfl,.inr ⟨hC,hb.kept hk⟩,?_⟩
 obtain ⟨hs,hb⟩:=hk.hh hs hb
 refine qz 8 (vb r4) Kp8 (fun _ _=>(xT hg1)) (qx 9 (vi aB) Kp9 (qx 10 (vi r2) (zS (S8 (zG (zG zR)))) (qx 11 (vb false) (zS (S8 (zG (zG (zG zR))))) (qx 12 (vb r4) (zS (S8 (S4 zR))) (wn (zN (er (jVI (.inl rfl) results172 (v:=(vi aB)) (by kernel_rfl) (v':=(vi r2)) (by kernel_rfl) (v'':=(vb false)) (by kernel_rfl) (v3:=(vb r4)) (by kernel_rfl) ?_))))))))
 exact ⟨aB,r2,false,r4,rfl,h⟩
 have h:=h.2 hg1
 refine jAQ Kp5 (vM rfl (yD 61 hg1) rfl) (qn 6 Kp6 (vM rfl (yD 61 hg1) rfl) (lg 7 (jAQ Kp7 (vM rfl (yD 61 hg1) rfl) (qz 8 (vb false) Kp8 (fun _ _=>(xF hg1)) (qx 9 (vi aB) Kp9 (qx 10 (vi r2) (zS (S8 (zG (zG zR)))) (qx 11 (vb false) (zS (S8 (zG (zG (zG zR))))) (qx 12 (vb false) (zS (S8 (S4 zR))) (wn (zN (er ?_)))))))))))
 refine jVI (.inl rfl) results172 (v:=(vi aB)) (by kernel_rfl) (v':=(vi r2)) (by kernel_rfl) (v'':=(vb false)) (by kernel_rfl) (v3:=(vb false)) (by kernel_rfl) ?_
 exact ⟨aB,r2,false,false,rfl,h⟩
 refine zQ (zA (eg (q0 (vb (aA == 1)) (q0 (vb (aA == 1)) (ln ?_)))))
 refine vO (fun ρ wJ=>∃b1'0 b1'1 y1:Bool,∃HJ:NP,((aA == 1)=b1'0)∧((aA == 2)=b1'1)∧(y1=(cond b1'0 (aA == 1) (cond b1'1 (aA == 2) (aA == 3))))∧Hst w0 None w1 HJ wJ∧HB HJ wJ [(p1,[(vi aA),(vi aC),(vi aD),(vu aF),(vs aG),(vi aB),(vi aE)],127)]∧Has ρ [(0,(vp k1)),(8,(vp (some p1))),(10,(vi aC)),(26,(vi aA)),(27,(vb y1))]) ?_ ?_
 refine zB (t:=(aA == 1)) (by kernel_rfl) (fun hc4=>?_) (fun hc4=>?_)
 refine zC (zN ?_)
 exact ⟨true,_,_,_,hc4,rfl,rfl,hs,hb,hm⟩
 refine eg (q0 (vb (aA == 2)) (q0 (vb (aA == 2)) (ln ?_)))
 refine zB (t:=(aA == 2)) (by kernel_rfl) (fun hc5=>?_) (fun hc5=>?_)
 refine zC (zN ?_)
 exact ⟨false,true,_,_,hc4,hc5,rfl,hs,hb,hm⟩
 refine rg (q0 (vb (aA == 3)) (q0 (vb (aA == 3)) (ln ?_)))
 exact ⟨false,false,_,_,hc4,hc5,rfl,hs,hb,hm⟩
 rintro ρ w7 ⟨b1'0,b1'1,y1,H2,he0,he1,hy1,hs,hb,hH⟩
 subst he0
 subst he1
 have h:=h y1 hy1
 refine vH hH ?_
 refine zN ?_
 refine zB (t:=y1) (by kernel_rfl) (fun hc6=>?_) (fun hc6=>?_)
 have h:=h.1 hc6
 refine eg (q0 (vi 0) (q0 (vi 0) (q0 (vb true) (q0 (vb true) (ln (er (uK (vL ?_))))))))
 have h:=h H2 w7 hs
 have hs:=hs.here
 refine jVI (.inl rfl) results172 (v:=(vi 0)) (by kernel_rfl) (v':=(vi 0)) (by kernel_rfl) (v'':=(vb true)) (by kernel_rfl) (v3:=(vb true)) (by kernel_rfl) ?_
 exact ⟨0,0,true,true,rfl,h⟩
 have h:=h.2 hc6
 refine eg (q0 (vb (aA == 4)) (q0 (vb (aA == 4)) (ln ?_)))
 refine zB (t:=(aA == 4)) (by kernel_rfl) (fun hc7=>?_) (fun hc7=>?_)
 have h:=h.1 hc7
 refine zA (qO (by kernel_rfl) (by kernel_rfl) (by kernel_rfl) (by kernel_rfl) ?_)
 intro w8 hw8
 have hs:Hst w0 None w1 H2 w8:=by rw [hw8];exact hs.drew
 have hb:HB H2 w8 [(p1,[(vi aA),(vi aC),(vi aD),(vu aF),(vs aG),(vi aB),(vi aE)],127)]:=by rw [hw8];exact hb.drew
 refine qq 0 (vp (some (p1.add 5))) Kp0 (qr 1 (vi aB) Kp1 (xl (isAgg78 _) (hb.c 0 5 gZ)) (qq 2 (vp (some (p1.add 6))) Kp2 (qr 3 (vi aE) Kp3 (xl (isAgg78 _) (hb.c 0 6 gZ)) (qq 4 (vi aB) Kp4 (qq 5 (vi aE) Kp5 (qq 6 (vb false) Kp6 (qq 7 (vb true) Kp7 (wn (zN (er (uK ?_)))))))))))
 refine vL ?_
 have h:=h H2 w8 hs
 have hs:=hs.here
 refine jVI (.inl rfl) results172 (v:=(vi aB)) (by kernel_rfl) (v':=(vi aE)) (by kernel_rfl) (v'':=(vb false)) (by kernel_rfl) (v3:=(vb true)) (by kernel_rfl) ?_
 exact ⟨aB,aE,false,true,rfl,h⟩
 have h:=h.2 hc7
 refine eg (q0 (vb (aA == 5)) (q0 (vb (aA == 5)) (ln ?_)))
 refine zB (t:=(aA == 5)) (by kernel_rfl) (fun hc8=>?_) (fun hc8=>?_)
 have h:=h.1 hc8
 refine eg (q0 (vp (some (p1.add 5))) (q2 (vi aB) (xl (isAgg78 _) (hb.c 0 5 gZ)) (q0 (vi aB) (q0 (vi 0) (q0 (vb false) (q0 (vb true) (ln (er (uK ?_)))))))))
 refine vL ?_
 have h:=h H2 w7 hs
 have hs:=hs.here
 refine jVI (.inl rfl) results172 (v:=(vi aB)) (by kernel_rfl) (v':=(vi 0)) (by kernel_rfl) (v'':=(vb false)) (by kernel_rfl) (v3:=(vb true)) (by kernel_rfl) ?_
 exact ⟨aB,0,false,true,rfl,h⟩
 have h:=h.2 hc8
 refine eg (q0 (vb (aA == 6)) (q0 (vb (aA == 6)) (ln ?_)))
 refine zB (t:=(aA == 6)) (by kernel_rfl) (fun hc9=>?_) (fun hc9=>?_)
 have h:=h.1 hc9
 refine eg (q0 (vi 0) (q0 (vi 0) (q0 (vb false) (q0 (vb false) (ln (er (uK (vL ?_))))))))
 have h:=h H2 w7 hs
 have hs:=hs.here
 refine jVI (.inl rfl) results172 (v:=(vi 0)) (by kernel_rfl) (v':=(vi 0)) (by kernel_rfl) (v'':=(vb false)) (by kernel_rfl) (v3:=(vb false)) (by kernel_rfl) ?_
 exact ⟨0,0,false,false,rfl,h⟩
 have h:=h.2 hc9
 refine eg (q0 (vb (aA == 9)) (q0 (vb (aA == 9)) (ln ?_)))
 refine vO (fun ρ wJ=>∃b2'0:Bool,∃HJ:NP,((aA == 9)=b2'0)∧Hst w0 None w1 HJ wJ∧HB HJ wJ [(p1,[(vi aA),(vi aC),(vi aD),(vu aF),(vs aG),(vi aB),(vi aE)],127)]∧Has ρ [(0,(vp k1)),(8,(vp (some p1))),(10,(vi (cond b2'0 aD aC)))]) ?_ ?_
 refine zB (t:=(aA == 9)) (by kernel_rfl) (fun hc11=>?_) (fun hc11=>?_)
 refine rg (q0 (vp (some (p1.add 2))) (q2 (vi aD) (xl (isAgg3 _) (hb.c 0 2 gZ)) (q0 (vi aD) (ln ?_))))
 exact ⟨true,_,hc11,hs,hb,hm⟩
 refine zC (zN ?_)
 exact ⟨false,_,hc11,hs,hb,hm⟩
 rintro ρ w9 ⟨b2'0,H3,he0,hs,hb,hH⟩
 subst he0
 refine vH hH ?_
 refine tJ ?_
 have h:=h H3 w9 hs
 have hs:=hs.here
 refine zN ?_
 exact ⟨(cond (aA == 9) aD aC),H3,hm,hs,hb,h⟩
def m_L_j1 (t1:Int) (cap1 cap2 cap5:Addr) (ok3:Bool) (aK aL:Int) (aM aN:Int) (H:NP) (w:World) (K:Int→Bool→WP):Prop :=Br (!ok3) (∃v7:Option Nat,w.cell? cap2=some (.map v7)∧∃w5:World,(Instr.mapUpdate 246 (.map v7) (vi t1) (vb true)).run prog w=.ok () w5∧Kept H w w5∧K 0 false w5) (∃v8:Option Nat,w.cell? cap1=some (.map v8)∧∃v9:Sl,w.cell? cap5=some v9.v∧∃w6:World,(Instr.mapUpdate 245 (.map v8) (vi t1) (vi (v9.len:Int))).run prog w=.ok () w6∧Kept H w w6∧∃v10:Sl,w6.cell? cap5=some v10.v∧∀(p3:Addr) (w7:World),New w6 (.cells #[(vi aK),(vi aL),(vi aM),(vi aN)] 185) p3 w7→∃s1:Sl,∃w8:World,(Builtin.append_ #[181,181] 181 #[v10.v,(Sl.mk (some p3) 1 1).v]).run prog w7=.ok s1.v w8∧Kept H w7 w8∧CanW w8 cap5∧¬ H cap5.block∧∀w9:World,w9=w8.setCell cap5 s1.v→∃v11:Option Nat,w9.cell? cap1=some (.map v11)∧∃v12:Int,(Instr.lookup 245 (.map v11) (vi t1) false).run prog w9=.ok (vi v12) w9∧K v12 true w9)
def m_L_j2 (t1:Int) (cap1 cap2:Addr) (cap4 cap5:Addr) (r4:Int) (ok4:Bool) (aH aI:Int) (aO aJ:Int) (w0:World) (H:NP) (w:World) (K:Int→Bool→WP):Prop :=Br (ok4 && (decide (r4>0))) (∀(H5:NP) (w19:World),Hst w0 H w H5 w19→∃v15:Value,w19.cell? cap4=some v15∧∃(f2:FuncId) (fs2 cs2:Array Value),v15=.func (.func f2) fs2 cs2∧(∀args w,(callFunc f2 args).run prog w=.ok (.enter f2 args) w)∧Calls prog f2 (fs2++#[(vi r4)]++cs2) w19 (fun e w20=>∃r7:Int,∃r8:Bool,e=.returned (.tuple #[(vi r7),(vb r8)])∧Kept H5 w19 w20∧∀(w21:World),Hst w0 H5 w20 H5 w21→m_L_j1 t1 cap1 cap2 cap5 r8 aH aI r7 aJ H5 w21 K)) (∀(H5:NP) (w19:World),Hst w0 H w H5 w19→m_L_j1 t1 cap1 cap2 cap5 ok4 aH aI aO aJ H5 w19 K)
def m_L (t1:Int) (cap1 cap2:Addr) (cap3 cap4 cap5:Addr) (w0:World) (K:Int→Bool→WP):Prop :=∃v1:Option Nat,w0.cell? cap1=some (.map v1)∧∃v2:Int,∃ok1:Bool,(Instr.lookup 245 (.map v1) (vi t1) true).run prog w0=.ok (.tuple #[(vi v2),(vb ok1)]) w0∧Br ok1 (K v2 true w0) (∀(H1:NP) (w2:World),Hst w0 None w0 H1 w2→∃v3:Option Nat,w2.cell? cap2=some (.map v3)∧∃v4:Bool,(Instr.lookup 246 (.map v3) (vi t1) false).run prog w2=.ok (vb v4) w2∧∃v5:Option Addr,w2.cell? cap3=some (vp v5)∧∃a1:Addr,v5=some a1∧∃v6:Option Nat,w2.cell? (a1.add 2)=some (.map v6)∧∃vrule1 vfrom1:Int,∃ok2:Bool,(Instr.lookup 163 (.map v6) (vi t1) true).run prog w2=.ok (.tuple #[(.agg #[(vi vrule1),(vi vfrom1)]),(vb ok2)]) w2∧Br ok2 (Br (vrule1 != 0) (∀(H2:NP) (w10:World),Hst w0 H1 w2 H2 w10→∃v13:Value,w10.cell? cap4=some v13∧∃(f1:FuncId) (fs1 cs1:Array Value),v13=.func (.func f1) fs1 cs1∧(∀args w,(callFunc f1 args).run prog w=.ok (.enter f1 args) w)∧Calls prog f1 (fs1++#[(vi vfrom1)]++cs1) w10 (fun e w11=>∃r1:Int,∃r2:Bool,e=.returned (.tuple #[(vi r1),(vb r2)])∧Kept H2 w10 w11∧∀(w12:World),Hst w0 H2 w11 H2 w12→m_L_j1 t1 cap1 cap2 cap5 (!v4) vrule1 r1 0 t1 H2 w12 K)) (∀(H2:NP) (w10:World),Hst w0 H1 w2 H2 w10→m_L_j1 t1 cap1 cap2 cap5 (!v4) vrule1 0 0 t1 H2 w10 K)) (Br (!v4) (∀(H2:NP) (w4:World),Hst w0 H1 w2 H2 w4→∃v14:Option Addr,w4.cell? cap3=some (vp v14)∧Calls prog 172 #[(vp v14),(vi t1)] w4 (fun e w13=>∃r3 r4:Int,∃r5 r6:Bool,e=.returned (.tuple #[(vi r3),(vi r4),(vb r5),(vb r6)])∧Kept H2 w4 w13∧Br (r6 && (decide (r3>0))) (∀(H4:NP) (w18:World),Hst w0 H2 w13 H4 w18→∃v16:Value,w18.cell? cap4=some v16∧∃(f3:FuncId) (fs3 cs3:Array Value),v16=.func (.func f3) fs3 cs3∧(∀args w,(callFunc f3 args).run prog w=.ok (.enter f3 args) w)∧Calls prog f3 (fs3++#[(vi r3)]++cs3) w18 (fun e w22=>∃r9:Int,∃r10:Bool,e=.returned (.tuple #[(vi r9),(vb r10)])∧Kept H4 w18 w22∧∀(w23:World),Hst w0 H4 w22 H4 w23→m_L_j2 t1 cap1 cap2 cap4 cap5 r4 r10 (cond r5 4 5) r9 0 t1 w0 H4 w23 K)) (∀(H4:NP) (w18:World),Hst w0 H2 w13 H4 w18→m_L_j2 t1 cap1 cap2 cap4 cap5 r4 r6 (cond r5 4 5) 0 0 t1 w0 H4 w18 K))) (∀(H2:NP) (w4:World),Hst w0 H1 w2 H2 w4→m_L_j1 t1 cap1 cap2 cap5 (!v4) 0 0 0 t1 H2 w4 K)))
theorem w_L (t1:Int) (cap1 cap2:Addr) (cap3 cap4 cap5:Addr) (w0:World) (K:Int→Bool→WP) (h:m_L t1 cap1 cap2 cap3 cap4 cap5 w0 K) :
  Calls prog 171 #[(vi t1),(vp (some cap1)),(vp (some cap2)),(vp (some cap3)),(vp (some cap4)),(vp (some cap5))] w0 (fun e w'=>∃r11:Int,∃r12:Bool,e=.returned (.tuple #[(vi r11),(vb r12)])∧K r11 r12 w'):=by
 unfold m_L at h
 refine cw (args:=[(vi t1),(vp (some cap1)),(vp (some cap2)),(vp (some cap3)),(vp (some cap4)),(vp (some cap5))]) func171 ntmps171 ?_
 have hs:=Hst.start w0
 have hb:=HB.nil None w0
 refine eg (q0 (vi 0) (q0 (vb false) (ln (zA (eg ?_)))))
 obtain ⟨v1,hv20,h⟩:=h
 refine q2 (.map v1) (xl (isAgg245 _) hv20) (q0 (vi t1) ?_)
 obtain ⟨v2,ok1,hv19,h⟩:=h
 refine q2 (.tuple #[(vi v2),(vb ok1)]) (qT (by kernel_rfl) (by kernel_rfl) hv19) (q0 (.tuple #[(vi v2),(vb ok1)]) (q0 (vi v2) (q0 (vb ok1) (q0 (vi v2) (q0 (vb ok1) (ln (eg (q0 (vb ok1) (zD ?_)))))))))
 refine zN ?_
 refine zB (t:=ok1) (by kernel_rfl) (fun hc1=>?_) (fun hc1=>?_)
 have h:=h.1 hc1
 refine eg (q0 (vi v2) (q0 (vi v2) (q0 (vb true) (ln (er (vL (xW (.inl rfl) results171 (v:=(vi v2)) (by kernel_rfl) (v':=(vb true)) (by kernel_rfl) ?_)))))))
 exact ⟨v2,true,rfl,h⟩
 have h:=h.2 hc1
 refine zC (zN (eg (q0 (vi t1) (q0 (.agg #[(vi 0),(vi 0),(vi 0),(vi t1)]) (sn (O:=(.cells #[(vi 0),(vi 0),(vi 0),(vi 0)] 185)) (zO (zeroValue185 _) rfl) ?_)))))
 intro p1 w1 hn1
 obtain ⟨H1,hs,hb⟩:=hs.alloc hb hn1
 refine ss (xo p1 [(vi 0),(vi 0),(vi 0),(vi t1)] (sizeOf185 _) (hb.k0 0 4 gZ)) ?_
 intro w2 hn2
 obtain ⟨hs,hb⟩:=hb.s0 (l':=[(p1,[(vi 0),(vi 0),(vi 0),(vi t1)],185)]) 0 [(vi 0),(vi 0),(vi 0),(vi t1)] hs hn2 gZ
 refine ln (eg ?_)
 have h:=h H1 w2 hs
 have hs:=hs.here
 obtain ⟨v3,hv18,h⟩:=h
 refine q2 (.map v3) (xl (isAgg246 _) hv18) (q0 (vi t1) ?_)
 obtain ⟨v4,hv17,h⟩:=h
 refine q2 (vb v4) (qT (by kernel_rfl) (by kernel_rfl) hv17) (q0 (vb (!v4)) (q0 (vb (!v4)) (ln (zA (eg ?_)))))
 obtain ⟨v5,hv16,h⟩:=h
 refine q2 (vp v5) (xl (isAgg93 _) hv16) ?_
 obtain ⟨a1,hp1,h⟩:=h
 refine q2 (vp (some a1)) (xn hp1) (q0 (vp (some (a1.add 2))) ?_)
 obtain ⟨v6,hv15,h⟩:=h
 refine q2 (.map v6) (xl (isAgg163 _) hv15) (q0 (vi t1) ?_)
 obtain ⟨vrule1,vfrom1,ok2,hv14,h⟩:=h
 refine q2 (.tuple #[(.agg #[(vi vrule1),(vi vfrom1)]),(vb ok2)]) (qT (by kernel_rfl) (by kernel_rfl) hv14) (q0 (.tuple #[(.agg #[(vi vrule1),(vi vfrom1)]),(vb ok2)]) (q0 (.agg #[(vi vrule1),(vi vfrom1)]) (q0 (vb ok2) (sn (O:=(.cells #[(vi 0),(vi 0)] 171)) (zO (zeroValue171 _) rfl) ?_))))
 intro p2 w3 hn3
 obtain ⟨H2,hs,hb⟩:=hs.alloc hb hn3
 refine ss (xo p2 [(vi vrule1),(vi vfrom1)] (sizeOf171 _) (hb.k0 0 2 gZ)) ?_
 intro w4 hn4
 obtain ⟨hs,hb⟩:=hb.s0 (l':=[(p2,[(vi vrule1),(vi vfrom1)],171),(p1,[(vi 0),(vi 0),(vi 0),(vi t1)],185)]) 0 [(vi vrule1),(vi vfrom1)] hs hn4 gZ
 refine q0 (vb ok2) (ln (eg (q0 (vb ok2) (ln ?_))))
 refine vI (fun ρ w=>∃ok3:Bool,∃aK aL:Int,∃aM aN:Int,∃H:NP,Has ρ [(0,(vi t1)),(1,(vp (some cap1))),(2,(vp (some cap2))),(5,(vp (some cap5))),(11,(vp (some p1))),(12,(vb ok3))]∧Hst w0 H w H w∧HB H w [(p2,[(vi vrule1),(vi vfrom1)],171),(p1,[(vi aK),(vi aL),(vi aM),(vi aN)],185)]∧m_L_j1 t1 cap1 cap2 cap5 ok3 aK aL aM aN H w K) ?_ ?_
 rintro ρ w ⟨ok3,aK,aL,aM,aN,H,hH,hs,hb,h⟩
 unfold m_L_j1 at h
 refine vC hH ?_
 refine zA (eg (q0 (vb ok3) (q0 (vb (!ok3)) (ln ?_))))
 refine zB (t:=(!ok3)) (by kernel_rfl) (fun hc2=>?_) (fun hc2=>?_)
 have h:=h.1 hc2
 refine eg ?_
 obtain ⟨v7,hv2,h⟩:=h
 refine q2 (.map v7) (xl (isAgg246 _) hv2) (q0 (vi t1) ?_)
 obtain ⟨w5,hv1,hk,h⟩:=h
 refine yZ (zJ rfl) (yT (by kernel_rfl) (by kernel_rfl) (by kernel_rfl) hv1) ?_
 obtain ⟨hs,hb⟩:=hk.hh hs hb
 refine ln (eg (q0 (vi 0) (q0 (vb false) (ln (er (vL (xW (.inl rfl) results171 (v:=(vi 0)) (by kernel_rfl) (v':=(vb false)) (by kernel_rfl) ?_)))))))
 exact ⟨0,false,rfl,h⟩
 have h:=h.2 hc2
 refine zC (zN (eg ?_))
 obtain ⟨v8,hv9,h⟩:=h
 refine q2 (.map v8) (xl (isAgg245 _) hv9) (q0 (vi t1) ?_)
 obtain ⟨v9,hv8,h⟩:=h
 refine q2 v9.v (xl (isAgg181 _) hv8) (q0 (vi (v9.len:Int)) ?_)
 obtain ⟨w6,hv7,hk,h⟩:=h
 refine yZ (zJ rfl) (yT (by kernel_rfl) (by kernel_rfl) (by kernel_rfl) hv7) ?_
 obtain ⟨hs,hb⟩:=hk.hh hs hb
 refine ln (eg ?_)
 obtain ⟨v10,hv6,h⟩:=h
 refine q2 v10.v (xl (isAgg181 _) hv6) (q2 (.agg #[(vi aK),(vi aL),(vi aM),(vi aN)]) (xa p1 [(vi aK),(vi aL),(vi aM),(vi aN)] (isAgg185 _) (sizeOf185 _) (hb.r0 1 4 (gS gZ))) (vR (O:=(.cells #[(vi aK),(vi aL),(vi aM),(vi aN)] 185)) (fun p=>(Sl.mk (some p) 1 1).v) (zJ rfl) (zK (vs:=#[(0,(.agg #[(vi aK),(vi aL),(vi aM),(vi aN)]))]) (by kernel_rfl) (by kernel_rfl)) ?_))
 intro p3 w7 hn6
 have h:=h p3 w7 hn6
 have hs:=hs.again (Ext.new (F:=None) hn6).keptP
 have hb:=hb.kept (Ext.new (F:=None) hn6).keptP
 obtain ⟨s1,w8,hv5,hk,h⟩:=h
 refine st (v:=s1.v) (zJ rfl) (vS (args:=#[v10.v,(Sl.mk (some p3) 1 1).v]) (by kernel_rfl) (fun _=>rfl) hv5) ?_
 obtain ⟨hs,hb⟩:=hk.hh hs hb
 obtain ⟨hp2,hnh,h⟩:=h
 refine ss (zT (a:=cap5) (v:=s1.v) (by kernel_rfl) (by kernel_rfl) rfl (sizeOf181 _) hp2) ?_
 intro w9 hn5
 have h:=h w9 hn5
 have hk:=Kept.sc hnh hn5
 obtain ⟨hs,hb⟩:=hk.hh hs hb
 refine ln (eg ?_)
 obtain ⟨v11,hv4,h⟩:=h
 refine q2 (.map v11) (xl (isAgg245 _) hv4) (q0 (vi t1) ?_)
 obtain ⟨v12,hv3,h⟩:=h
 refine q2 (vi v12) (qT (by kernel_rfl) (by kernel_rfl) hv3) (q0 (vi v12) (q0 (vb true) (ln (er (xW (.inl rfl) results171 (v:=(vi v12)) (by kernel_rfl) (v':=(vb true)) (by kernel_rfl) ?_)))))
 exact ⟨v12,true,rfl,h⟩
 refine zB (t:=ok2) (by kernel_rfl) (fun hc3=>?_) (fun hc3=>?_)
 have h:=h.1 hc3
 refine eg (q0 (vp (some p2)) (q2 (vi vrule1) (xl (isAgg3 _) (hb.c0 0 gZ)) (q0 (vp (some p1)) (uA (zJ rfl) (zT (a:=p1) (v:=(vi vrule1)) (by kernel_rfl) (by kernel_rfl) rfl (sizeOf3 _) (hb.canW0 1 (gS gZ) (by kernel_rfl))) ?_))))
 intro w10 hn7
 have hsb:Hst w0 H1 w2 H2 w10∧HB H2 w10 [(p2,[(vi vrule1),(vi vfrom1)],171),(p1,[(vi vrule1),(vi 0),(vi 0),(vi t1)],185)]:=by
  rw [hn7];exact hb.set0 (i:=1) (v:=(vi vrule1)) hs (gS gZ) (by kernel_rfl)
 obtain ⟨hs,hb⟩:=hsb
 refine ln (eg (q0 (vp (some p2)) (q2 (vi vrule1) (xl (isAgg3 _) (hb.c0 0 gZ)) (q0 (vb (vrule1 != 0)) (ln ?_)))))
 refine zB (t:=(vrule1 != 0)) (by kernel_rfl) (fun hc4=>?_) (fun hc4=>?_)
 have h:=h.1 hc4
 refine rg ?_
 have h:=h H2 w10 hs
 have hs:=hs.here
 obtain ⟨v13,hv10,h⟩:=h
 refine q2 v13 (xl (isAgg247 _) hv10) (q0 (vp (some (p2.add 1))) (q2 (vi vfrom1) (xl (isAgg78 _) (hb.c 0 1 gZ)) ?_))
 obtain ⟨f1,fs1,cs1,hp3,h⟩:=h
 obtain ⟨hf1,h⟩:=h
 refine vG (zJ rfl) (lB (fs:=fs1) (caps:=cs1) (args:=#[(vi vfrom1)]) (by kernel_rfl) hp3 hf1 (by kernel_rfl) rfl) (h.mono ?_)
 rintro e w11 ⟨r1,r2,rfl,hk,h⟩
 refine ⟨_,rfl,?_⟩
 obtain ⟨hs,hb⟩:=hk.hh hs hb
 refine q0 (.tuple #[(vi r1),(vb r2)]) (q0 (vi r1) (q0 (vb r2) (q0 (vp (some (p1.add 1))) (uA (zJ rfl) (zT (a:=(p1.add 1)) (v:=(vi r1)) (by kernel_rfl) (by kernel_rfl) rfl (sizeOf3 _) (hb.canW 1 1 (gS gZ) (by kernel_rfl))) ?_))))
 intro w12 hn8
 have hsb:Hst w0 H2 w11 H2 w12∧HB H2 w12 [(p2,[(vi vrule1),(vi vfrom1)],171),(p1,[(vi vrule1),(vi r1),(vi 0),(vi t1)],185)]:=by
  rw [hn8];exact hb.set (i:=1) 1 (v:=(vi r1)) hs (gS gZ) (by kernel_rfl)
 obtain ⟨hs,hb⟩:=hsb
 refine zD ?_
 have h:=h w12 hs
 have hs:=hs.here
 refine zN ?_
 exact ⟨(!v4),vrule1,r1,0,t1,H2,hm,hs,hb,h⟩
 have h:=h.2 hc4
 refine zC ?_
 have h:=h H2 w10 hs
 have hs:=hs.here
 refine zN ?_
 exact ⟨(!v4),vrule1,0,0,t1,H2,hm,hs,hb,h⟩
 have h:=h.2 hc3
 refine eg (q0 (vb (!v4)) (ln ?_))
 refine zB (t:=(!v4)) (by kernel_rfl) (fun hc5=>?_) (fun hc5=>?_)
 have h:=h.1 hc5
 refine eg ?_
 have h:=h H2 w4 hs
 have hs:=hs.here
 obtain ⟨v14,hv13,h⟩:=h
 refine q2 (vp v14) (xl (isAgg93 _) hv13) (q0 (vi t1) ?_)
 refine sc call172 (h.mono ?_)
 rintro e w13 ⟨r3,r4,r5,r6,rfl,hk,h⟩
 refine ⟨_,rfl,?_⟩
 obtain ⟨hs,hb⟩:=hk.hh hs hb
 refine q0 (.tuple #[(vi r3),(vi r4),(vb r5),(vb r6)]) (q0 (vi r3) (q0 (vi r4) (q0 (vb r5) (q0 (vb r6) (q0 (vi r3) (q0 (vi r4) (q0 (vb r5) (q0 (vb r6) (ln (zA ?_))))))))))
 refine rg (q0 (vb r6) (q0 (vp (some p1)) (uA (zJ rfl) (zT (a:=p1) (v:=(vi 5)) (by kernel_rfl) (by kernel_rfl) rfl (sizeOf3 _) (hb.canW0 1 (gS gZ) (by kernel_rfl))) ?_)))
 intro w14 hn9
 have hsb:Hst w0 H2 w13 H2 w14∧HB H2 w14 [(p2,[(vi vrule1),(vi vfrom1)],171),(p1,[(vi 5),(vi 0),(vi 0),(vi t1)],185)]:=by
  rw [hn9];exact hb.set0 (i:=1) (v:=(vi 5)) hs (gS gZ) (by kernel_rfl)
 obtain ⟨hs,hb⟩:=hsb
 refine q0 (vb r6) (ln (zA (eg (q0 (vb r5) (ln ?_)))))
 refine vO (fun ρ wJ=>∃b1'0:Bool,∃HJ:NP,(r5=b1'0)∧Hst w0 H2 w13 HJ wJ∧HB HJ wJ [(p2,[(vi vrule1),(vi vfrom1)],171),(p1,[(vi (cond b1'0 4 5)),(vi 0),(vi 0),(vi t1)],185)]∧Has ρ [(0,(vi t1)),(1,(vp (some cap1))),(2,(vp (some cap2))),(4,(vp (some cap4))),(5,(vp (some cap5))),(11,(vp (some p1))),(12,(vb r6)),(15,(vi r3)),(16,(vi r4))]) ?_ ?_
 refine zB (t:=r5) (by kernel_rfl) (fun hc7=>?_) (fun hc7=>?_)
 refine rg (q0 (vp (some p1)) (uA (zJ rfl) (zT (a:=p1) (v:=(vi 4)) (by kernel_rfl) (by kernel_rfl) rfl (sizeOf3 _) (hb.canW0 1 (gS gZ) (by kernel_rfl))) ?_))
 intro w17 hn11
 have hsb:Hst w0 H2 w13 H2 w17∧HB H2 w17 [(p2,[(vi vrule1),(vi vfrom1)],171),(p1,[(vi 4),(vi 0),(vi 0),(vi t1)],185)]:=by
  rw [hn11];exact hb.set0 (i:=1) (v:=(vi 4)) hs (gS gZ) (by kernel_rfl)
 obtain ⟨hs,hb⟩:=hsb
 refine ln ?_
 exact ⟨true,_,hc7,hs,hb,hm⟩
 refine zC (zN ?_)
 exact ⟨false,_,hc7,hs,hb,hm⟩
 rintro ρ w16 ⟨b1'0,H3,he0,hs,hb,hH⟩
 subst he0
 refine vH hH ?_
 refine zN (zA (zA ?_))
 refine vO (fun ρ wJ=>∃b2'0:Bool,∃HJ:NP,(r6=b2'0)∧Hst w0 H2 w13 HJ wJ∧HB HJ wJ [(p2,[(vi vrule1),(vi vfrom1)],171),(p1,[(vi (cond r5 4 5)),(vi 0),(vi 0),(vi t1)],185)]∧Has ρ [(0,(vi t1)),(1,(vp (some cap1))),(2,(vp (some cap2))),(4,(vp (some cap4))),(5,(vp (some cap5))),(11,(vp (some p1))),(12,(vb r6)),(15,(vi r3)),(16,(vi r4)),(74,(vb (b2'0 && (decide (r3>0)))))]) ?_ ?_
 refine rg (q0 (vb r6) (q0 (vb r6) ?_))
 rcases bte r6 with hg2 | hg2
 refine q1 (vi r3) (wy 71 hg2) (q1 (vb (decide (r3>0))) (wy 71 hg2) (q2 (vb (decide (r3>0))) (xT hg2) (ln ?_)))
 exact ⟨true,_,hg2,hs,hb,hm⟩
 refine sk (yD 71 hg2) (sk (yD 71 hg2) (q2 (vb false) (xF hg2) (ln ?_)))
 exact ⟨false,_,hg2,hs,hb,hm⟩
 rintro ρ w18 ⟨b2'0,H4,he0,hs,hb,hH⟩
 subst he0
 refine vH hH ?_
 refine zN ?_
 refine vI (fun ρ w=>∃ok4:Bool,∃aH aI:Int,∃aO aJ:Int,∃H:NP,Has ρ [(0,(vi t1)),(1,(vp (some cap1))),(2,(vp (some cap2))),(4,(vp (some cap4))),(5,(vp (some cap5))),(11,(vp (some p1))),(12,(vb ok4)),(16,(vi r4))]∧Hst w0 H w H w∧HB H w [(p2,[(vi vrule1),(vi vfrom1)],171),(p1,[(vi aH),(vi aI),(vi aO),(vi aJ)],185)]∧m_L_j2 t1 cap1 cap2 cap4 cap5 r4 ok4 aH aI aO aJ w0 H w K) ?_ ?_
 rintro ρ w ⟨ok4,aH,aI,aO,aJ,H,hH,hs,hb,h⟩
 unfold m_L_j2 at h
 refine vC hH ?_
 refine zA ?_
 refine vO (fun ρ wJ=>∃b3'0:Bool,∃HJ:NP,(ok4=b3'0)∧Hst w0 H w HJ wJ∧HB HJ wJ [(p2,[(vi vrule1),(vi vfrom1)],171),(p1,[(vi aH),(vi aI),(vi aO),(vi aJ)],185)]∧Has ρ [(0,(vi t1)),(1,(vp (some cap1))),(2,(vp (some cap2))),(4,(vp (some cap4))),(5,(vp (some cap5))),(11,(vp (some p1))),(12,(vb ok4)),(16,(vi r4)),(86,(vb (b3'0 && (decide (r4>0)))))]) ?_ ?_
 refine rg (q0 (vb ok4) (q0 (vb ok4) ?_))
 rcases bte ok4 with hg4 | hg4
 refine q1 (vi r4) (wy 83 hg4) (q1 (vb (decide (r4>0))) (wy 83 hg4) (q2 (vb (decide (r4>0))) (xT hg4) (ln ?_)))
 exact ⟨true,_,hg4,hs,hb,hm⟩
 refine sk (yD 83 hg4) (sk (yD 83 hg4) (q2 (vb false) (xF hg4) (ln ?_)))
 exact ⟨false,_,hg4,hs,hb,hm⟩
 rintro ρ w19 ⟨b3'0,H5,he0,hs,hb,hH⟩
 subst he0
 refine vH hH ?_
 refine zN ?_
 refine zB (t:=(ok4 && (decide (r4>0)))) (by kernel_rfl) (fun hc8=>?_) (fun hc8=>?_)
 have h:=h.1 hc8
 refine rg ?_
 have h:=h H5 w19 hs
 have hs:=hs.here
 obtain ⟨v15,hv11,h⟩:=h
 refine q2 v15 (xl (isAgg247 _) hv11) (q0 (vi r4) ?_)
 obtain ⟨f2,fs2,cs2,hp4,h⟩:=h
 obtain ⟨hf2,h⟩:=h
 refine vG (zJ rfl) (lB (fs:=fs2) (caps:=cs2) (args:=#[(vi r4)]) (by kernel_rfl) hp4 hf2 (by kernel_rfl) rfl) (h.mono ?_)
 rintro e w20 ⟨r7,r8,rfl,hk,h⟩
 refine ⟨_,rfl,?_⟩
 obtain ⟨hs,hb⟩:=hk.hh hs hb
 refine q0 (.tuple #[(vi r7),(vb r8)]) (q0 (vi r7) (q0 (vb r8) (q0 (vp (some (p1.add 2))) (uA (zJ rfl) (zT (a:=(p1.add 2)) (v:=(vi r7)) (by kernel_rfl) (by kernel_rfl) rfl (sizeOf3 _) (hb.canW 1 2 (gS gZ) (by kernel_rfl))) ?_))))
 intro w21 hn12
 have hsb:Hst w0 H5 w20 H5 w21∧HB H5 w21 [(p2,[(vi vrule1),(vi vfrom1)],171),(p1,[(vi aH),(vi aI),(vi r7),(vi aJ)],185)]:=by
  rw [hn12];exact hb.set (i:=1) 2 (v:=(vi r7)) hs (gS gZ) (by kernel_rfl)
 obtain ⟨hs,hb⟩:=hsb
 refine q0 (vb r8) (zD ?_)
 have h:=h w21 hs
 have hs:=hs.here
 refine zN ?_
 exact ⟨r8,aH,aI,r7,aJ,H5,hm,hs,hb,h⟩
 have h:=h.2 hc8
 refine zC ?_
 have h:=h H5 w19 hs
 have hs:=hs.here
 refine zN ?_
 exact ⟨ok4,aH,aI,aO,aJ,H5,hm,hs,hb,h⟩
 refine zB (t:=(r6 && (decide (r3>0)))) (by kernel_rfl) (fun hc9=>?_) (fun hc9=>?_)
 have h:=h.1 hc9
 refine rg ?_
 have h:=h H4 w18 hs
 have hs:=hs.here
 obtain ⟨v16,hv12,h⟩:=h
 refine q2 v16 (xl (isAgg247 _) hv12) (q0 (vi r3) ?_)
 obtain ⟨f3,fs3,cs3,hp5,h⟩:=h
 obtain ⟨hf3,h⟩:=h
 refine vG (zJ rfl) (lB (fs:=fs3) (caps:=cs3) (args:=#[(vi r3)]) (by kernel_rfl) hp5 hf3 (by kernel_rfl) rfl) (h.mono ?_)
 rintro e w22 ⟨r9,r10,rfl,hk,h⟩
 refine ⟨_,rfl,?_⟩
 obtain ⟨hs,hb⟩:=hk.hh hs hb
 refine q0 (.tuple #[(vi r9),(vb r10)]) (q0 (vi r9) (q0 (vb r10) (q0 (vp (some (p1.add 1))) (uA (zJ rfl) (zT (a:=(p1.add 1)) (v:=(vi r9)) (by kernel_rfl) (by kernel_rfl) rfl (sizeOf3 _) (hb.canW 1 1 (gS gZ) (by kernel_rfl))) ?_))))
 intro w23 hn13
 have hsb:Hst w0 H4 w22 H4 w23∧HB H4 w23 [(p2,[(vi vrule1),(vi vfrom1)],171),(p1,[(vi (cond r5 4 5)),(vi r9),(vi 0),(vi t1)],185)]:=by
  rw [hn13];exact hb.set (i:=1) 1 (v:=(vi r9)) hs (gS gZ) (by kernel_rfl)
 obtain ⟨hs,hb⟩:=hsb
 refine q0 (vb r10) (zD ?_)
 have h:=h w23 hs
 have hs:=hs.here
 refine zN ?_
 exact ⟨r10,(cond r5 4 5),r9,0,t1,H4,hm,hs,hb,h⟩
 have h:=h.2 hc9
 refine zC ?_
 have h:=h H4 w18 hs
 have hs:=hs.here
 refine zN ?_
 exact ⟨r6,(cond r5 4 5),0,0,t1,H4,hm,hs,hb,h⟩
 have h:=h.2 hc5
 refine zC ?_
 have h:=h H2 w4 hs
 have hs:=hs.here
 refine zN ?_
 exact ⟨(!v4),0,0,0,t1,H2,hm,hs,hb,h⟩
end Go.Proofs
end
section
open Go Go.SE
namespace Go.Proofs
open Tryz
attribute [local irreducible] Calls
def wayv (p:Int×Int):Value:=.agg #[.int .i64 p.1,.int .i64 p.2]
def jVD (S:List Sp.Way):List (Int×(Int×Int)):=S.map fun v=>(v.t,(v.rule,v.frm))
theorem jEK (S:List Sp.Way):(jVD S).map Prod.fst=Sp.zM S:=by simp [jVD,Sp.zM]
theorem jPS (S:List Sp.Way) (v:Sp.Way):jVD (S++[v])=jVD S++[(v.t,(v.rule,v.frm))]:=by simp [jVD]
structure KnowS (w:World) (k p:Addr) (G:List Int) (S:List Sp.Way) (ks:List Int) (sg:Sl) (m:Nat) (sl:Sl):Prop where
 box:Box w k [.pointer (some p),sg.v,.map (some m),sl.v] 165
 giv:Rws w 78 1 sg (tmr G)
 seen:IMap wayv w m (jVD S)
 list:Rws w 78 1 sl (tmr ks)
 n1:m≠k.block
 n2:¬ sg.blk k.block
 n3:¬ sl.blk k.block
 n4:¬ sg.blk m
 n5:¬ sl.blk m
 n6:∀b,sg.blk b→¬ sl.blk b
def KF (k:Addr) (sg:Sl) (m:Nat) (sl:Sl) (b:Nat):Prop:=b=k.block∨sg.blk b∨b=m∨sl.blk b
def qB (w:World) (k p:Addr) (G:List Int) (S:List Sp.Way) (F:NP):Prop:=∃sg m sl,KnowS w k p G S (Sp.zM S) sg m sl∧∀b,F b↔KF k sg m sl b
section
variable {w w':World} {k p:Addr} {G:List Int} {S:List Sp.Way} {ks:List Int} {sg sl:Sl} {m:Nat} {F:NP}
theorem KnowS.ext {X:NP} (h:KnowS w k p G S ks sg m sl) (hE:Ext X w w') (hd:∀b,KF k sg m sl b→¬ X b):KnowS w' k p G S ks sg m sl :=
 ⟨h.box.ext hE (hd _ (.inl rfl)),h.giv.ext hE (fun b hb=>hd _ (.inr (.inl hb))),h.seen.ext hE (hd _ (.inr (.inr (.inl rfl)))),h.list.ext hE (fun b hb=>hd _ (.inr (.inr (.inr hb)))),h.n1,h.n2,h.n3,h.n4,h.n5,h.n6⟩
theorem KnowS.pure (h:KnowS w k p G S ks sg m sl) (hE:Pure w w'):KnowS w' k p G S ks sg m sl:=h.ext hE (fun _ _ h=>h)
theorem KnowS.lt (h:KnowS w k p G S ks sg m sl) {b:Nat} (hb:KF k sg m sl b):b<w.heap.size:=by
 rcases hb with rfl | hb | rfl | hb
 ·exact h.box.lt
 ·exact h.giv.lt hb
 ·exact h.seen.lt
 ·exact h.list.lt hb
theorem qB.ext {X:NP} (h:qB w k p G S F) (hE:Ext X w w') (hd:∀b,F b→¬ X b):qB w' k p G S F:=by
 obtain ⟨sg,m,sl,h,hF⟩:=h;exact ⟨sg,m,sl,h.ext hE (fun b hb=>hd b ((hF b).2 hb)),hF⟩
theorem qB.pure (h:qB w k p G S F) (hE:Pure w w'):qB w' k p G S F:=h.ext hE (fun _ _ h=>h)
theorem qB.lt (h:qB w k p G S F) {b:Nat} (hb:F b):b<w.heap.size:=by
 obtain ⟨sg,m,sl,h,hF⟩:=h;exact h.lt ((hF b).1 hb)
theorem KnowS.look (h:KnowS w k p G S ks sg m sl) (t:Int):∃r f:Int,(Instr.lookup 163 (.map (some m)) (.int .i64 t) true).run prog w=.ok (.tuple #[.agg #[.int .i64 r,.int .i64 f],.bool (decide (t∈Sp.zM S))]) w∧(t∈Sp.zM S→SE.look (jVD S) t=some (r,f)):=by
 rcases h.seen.get (P:=prog) (T:=163) underlying163 underlying78 (zeroValue171 _) t true with ⟨h1,h2⟩ | ⟨⟨r,f⟩,h1,h2⟩
 ·have hn:t ∉ Sp.zM S:=by have:=uD.1 h1;rwa [jEK] at this
  exact ⟨0,0,by rw [decide_eq_false hn];exact h2,fun h=>absurd h hn⟩
 ·have hy : t ∈ Sp.zM S := by
   have:=xA h1;rw [← jEK];exact List.mem_map.2 ⟨_,this,rfl⟩
  exact ⟨r,f,by rw [decide_eq_true hy];exact h2,fun _=>h1⟩
theorem KnowS.put (h:KnowS w k p G S ks sg m sl) {v:Sp.Way} (hn:v.t ∉ Sp.zM S):∃w',(Instr.mapUpdate 163 (.map (some m)) (.int .i64 v.t) (.agg #[.int .i64 v.rule,.int .i64 v.frm])).run prog w=.ok () w'∧KnowS w' k p G (S++[v]) ks sg m sl∧Ext (·=m) w w':=by
 obtain ⟨w',h1,h2,h3⟩:=h.seen.put (P:=prog) (T:=163) (K:=78) underlying163 underlying78 (k:=v.t) (uD.2 (by rw [jEK];exact hn)) (v.rule,v.frm);exact ⟨w',h1,⟨h.box.ext h3 (fun e=>h.n1 e.symm),h.giv.ext h3 (fun b hb e=>h.n4 (e▸hb)),by rw [jPS];exact h2,h.list.ext h3 (fun b hb e=>h.n5 (e▸hb)),h.n1,h.n2,h.n3,h.n4,h.n5,h.n6⟩,h3⟩
theorem KnowS.app (h:KnowS w k p G S ks sg m sl) {t:Int} {q:Addr} {w1:World} (hq:New w (.cells #[.int .i64 t] 78) q w1) (hn:ks.length≤1000000):∃s1 w2,(Builtin.append_ #[54,54] 54 #[sl.v,(Sl.mk (some q) 1 1).v]).run prog w1=.ok s1.v w2∧Ext sl.blk w1 w2∧Box w2 k [.pointer (some p),sg.v,.map (some m),sl.v] 165 ∧
  KnowS (w2.setCell (k.add 3) s1.v) k p G S (ks++[t]) sg m s1∧Ext (KF k sg m sl) w (w2.setCell (k.add 3) s1.v)∧∀b,KF k sg m s1 b→KF k sg m sl b∨w.heap.size≤b:=by
 have E1:Pure w w1:=Ext.new hq
 have h1:=h.pure E1
 obtain ⟨s1,w2,hr,hR,hE,hb⟩:=h1.list.append (P:=prog) (ty:=54) (c:=1) jMP (r:=[.int .i64 t]) (Box.of_new hq).row rfl rfl (by rw [qP];omega) (by rw [qP];simp [maxLen];omega)
 have hbx:=h1.box.ext hE h1.n3
 have hs1:∀b,s1.blk b→sl.blk b∨w.heap.size≤b:=fun b h=>(hb b h).imp_right (fun h=>by have:=E1.size;omega)
 have nk:¬ s1.blk k.block:=fun hh=>(hs1 _ hh).elim h.n3 (fun hh=>by have:=h.box.lt;omega)
 have nm:¬ s1.blk m:=fun hh=>(hs1 _ hh).elim h.n5 (fun hh=>by have:=h.seen.lt;omega)
 have E3:=Ext.setCell (w:=w2) (k.add 3) s1.v
 rw [zX] at E3
 refine ⟨s1,w2,hr,hE,hbx,⟨hbx.set 3 s1.v,((h1.giv.ext hE h.n6).ext E3 (fun b hb e=>h.n2 (e▸hb))),((h1.seen.ext hE h.n5).ext E3 h.n1),by rw [show tmr (ks++[t])=tmr ks++[[.int .i64 t]] by simp [tmr]];exact hR.ext E3 (fun b hb e=>nk (e▸hb)),h.n1,h.n2,nk,h.n4,nm,fun b h1 h2=>(hs1 b h2).elim (h.n6 b h1) (fun hh=>by have:=h.giv.lt h1;omega)⟩,?_,?_⟩
 ·exact ((E1.pure (F:=KF k sg m sl)).trans (hE.mono (fun b _ hb=>.inr (.inr (.inr hb))))).trans (E3.mono (fun b _ hb=>.inl hb))
 ·rintro b (hb | hb | hb | hb)
  ·exact .inl (.inl hb)
  ·exact .inl (.inr (.inl hb))
  ·exact .inl (.inr (.inr (.inl hb)))
  ·exact (hs1 b hb).imp_left (fun h=>.inr (.inr (.inr h)))
end
theorem jSF (p:Addr) (w0:World):Calls prog 45 #[.pointer (some p)] w0 (fun e w'=>∃r:Option Addr,e=.returned (.pointer r)∧∃k F,r=some k∧qB w' k p [] [] F∧Pure w0 w'∧∀b,F b→w0.heap.size≤b):=by
 refine w_X3 _ w0 (fun r w'=>∃k F,r=some k∧qB w' k p [] [] F∧Pure w0 w'∧∀b,F b→w0.heap.size≤b) ?_;unfold m_X3;refine Br.f rfl ?_;intro p2 w1 h1 p3 w2 h2;have E1:Pure w0 w1:=Ext.new h1;have E2:Pure w1 w2:=Ext.new h2;have hnil:∀b,¬ Sl.nil.blk b:=fun b hb=>by obtain ⟨a,h,_⟩:=hb;cases h
 refine ⟨p3,_,rfl,⟨Sl.nil,p2.block,Sl.nil,⟨Box.of_new h2,Rws.nil _ _ _,(IMap.of_new (f:=wayv) h1).pure E2,Rws.nil _ _ _,?_,hnil _,hnil _,hnil _,hnil _,fun b hb=>(hnil b hb).elim⟩,fun b=>Iff.rfl⟩,E1.trans E2,?_⟩
 ·have:=h1.at_size;have:=h2.at_size;have:=E1.size;have:=(IMap.of_new (f:=wayv) h1).lt;omega
 ·rintro b (rfl | hb | rfl | hb)
  ·have:=h2.at_size;have:=E1.size;omega
  ·exact (hnil b hb).elim
  ·have:=h1.at_size;omega
  ·exact (hnil b hb).elim
theorem jGR (k p:Addr) (t:Int) (w0:World) {G:List Int} {S:List Sp.Way} {F:NP} (h:qB w0 k p G S F) :
  Calls prog 113 #[.pointer (some k),.int .i64 t] w0 (fun e w'=>∃r:Bool,e=.returned (.bool r)∧(r=decide (t∈Sp.zM S)∧Pure w0 w')):=by
 refine w_Z3 _ _ w0 (fun r w'=>r=decide (t∈Sp.zM S)∧Pure w0 w') ?_
 unfold m_Z3
 obtain ⟨sg,m,sl,h,hF⟩:=h
 obtain ⟨r,f,h1,_⟩:=h.look t
 exact Br.f rfl ⟨k,rfl,_,h.box.cell rfl,r,f,_,h1,fun H1 w2 hs=>⟨rfl,hs.first⟩⟩
section
variable {w w':World} {k p:Addr} {G:List Int} {S:List Sp.Way} {F:NP}
theorem qB.hst {w0:World} {H H':NP} (h:qB w k p G S F) (hs:Hst w0 H w H' w') (hd:∀b,F b→¬ H b):qB w' k p G S F∧∀b,F b→¬ H' b:=by
 have hd':=hs.disj (G:=F) (fun b hb=>⟨h.lt hb,hd b hb⟩);exact ⟨h.ext hs.ext hd',hd'⟩
end
theorem jBG (k p:Addr) (t rule u:Int) (c1 c2:Addr) (w0:World) {G:List Int} {S:List Sp.Way} {F:NP} (h:qB w0 k p G S F) (h1:w0.cell? c1=some (.pointer (some k))) (h2:w0.cell? c2=some (.int .i64 u)) (d1:¬ F c1.block) (d2:¬ F c2.block) (hn:S.length≤1000000) :
  Calls prog 164 #[.int .i64 t,.int .i64 rule,.pointer (some c1),.pointer (some c2)] w0 (fun e w'=>e=.returned (.tuple #[])∧∃F',qB w' k p G (Sp.tM S ⟨t,rule,u⟩) F'∧Ext F w0 w'∧∀b,F' b→F b∨w0.heap.size≤b):=by
 refine w_A4 _ _ _ _ w0 (fun w'=>∃F',qB w' k p G (Sp.tM S ⟨t,rule,u⟩) F'∧Ext F w0 w'∧∀b,F' b→F b∨w0.heap.size≤b) ?_
 unfold m_A4
 have hA:=h
 obtain ⟨sg,m,sl,h,hF⟩:=h
 obtain ⟨r,f,hl,_⟩:=h.look t
 refine ⟨_,h1,k,rfl,_,h.box.cell rfl,r,f,_,hl,fun hc=>?_,fun hc=>?_⟩
 ·have hnt:t ∉ Sp.zM S:=by simpa using hc
  have hadd:Sp.tM S ⟨t,rule,u⟩=S++[⟨t,rule,u⟩]:=if_neg hnt
  rw [hadd]
  intro H1 w2 hs2
  have E2:=hs2.first
  have hh:∀{b},b<w0.heap.size→¬ H1 b:=fun hb hx=>by have:=hs2.old _ hx;omega
  have E3:Pure w0 w2.drew:=E2.trans (Ext.drew w2)
  have D4:∀w4:World,Pure w4 w4.drew:=fun w4=>Ext.drew w4
  have c1lt:=World.block_lt_of_cell? w0 c1 h1
  refine ⟨fun w'=>KnowS w' k p G S (Sp.zM S) sg m sl∧w'.cell? c1=some (.pointer (some k))∧w'.cell? c2=some (.int .i64 u),⟨h.pure E3,E3.cell h1 (fun h=>h),E3.cell h2 (fun h=>h)⟩,?_⟩
  rintro _ rfl
  have h3:=h.pure E3
  refine ⟨_,fun w' h=>h.2.1,k,rfl,_,fun w' h=>h.1.box.cell rfl,_,fun w' h=>h.2.2,?_⟩
  obtain ⟨w4,hr4,h4,E4⟩:=h3.put (v:=⟨t,rule,u⟩) hnt
  refine ⟨w4,hr4,E4.kept (fun b hb e=>by subst e;exact hh (h.lt (.inr (.inr (.inl rfl)))) hb),?_⟩
  have c14:w4.cell? c1=some (.pointer (some k)):=E4.cell (E3.cell h1 (fun h=>h)) (fun e=>d1 ((hF _).2 (.inr (.inr (.inl e)))))
  have h5:=h4.pure (Ext.drew w4)
  refine ⟨fun w'=>w'.cell? c1=some (.pointer (some k))∧Box w' k [.pointer (some p),sg.v,.map (some m),sl.v] 165,⟨(D4 w4).cell c14 (fun h=>h),h5.box⟩,?_⟩
  rintro _ rfl
  refine ⟨_,fun w' h=>h.1,_,fun w' h=>h.1,k,rfl,sl,fun w' h=>h.2.cell rfl,?_⟩
  intro q w6 h6
  have E6:Pure w4.drew w6:=Ext.new h6
  refine ⟨⟨E6.cell ((D4 w4).cell c14 (fun h=>h)) (fun h=>h),h5.box.pure E6⟩,?_⟩
  obtain ⟨s1,w7,hr7,X7,b7,k7,E7,f7⟩:=h5.app h6 (by rw [Sp.qV];exact hn)
  have c17:w7.cell? c1=some (.pointer (some k)):=X7.cell (E6.cell ((D4 w4).cell c14 (fun h=>h)) (fun h=>h)) (fun hb=>d1 ((hF _).2 (.inr (.inr (.inr hb)))))
  refine ⟨s1,w7,hr7,⟨c17,b7⟩,X7.kept (fun b hb hx=>hh (h.lt (.inr (.inr (.inr hx)))) hb),k,rfl,b7.canW (by simp),by rw [zX];exact hh h.box.lt,?_⟩
  rintro _ rfl
  rw [← show Sp.zM (S++[⟨t,rule,u⟩])=Sp.zM S++[t] from Sp.xD S ⟨t,rule,u⟩] at k7
  have e4:w0.heap.size≤w4.drew.heap.size:=Nat.le_trans E3.size (Nat.le_trans E4.size (D4 w4).size)
  refine ⟨_,⟨sg,m,s1,k7,fun b=>Iff.rfl⟩,?_,fun b hb=>(f7 b hb).imp (hF b).2 (fun h=>by omega)⟩
  refine ((E3.pure (F:=F)).trans (E4.mono (fun b _ e=>(hF b).2 (.inr (.inr (.inl e)))))).trans (((Ext.drew w4:Pure w4 w4.drew).pure (F:=F)).trans (E7.mono (fun b _ hb=>(hF b).2 hb)))
 ·have hnt:t∈Sp.zM S:=by simpa using hc
  have hadd:Sp.tM S ⟨t,rule,u⟩=S:=if_pos hnt
  rw [hadd]
  intro H1 w2 hs2
  exact ⟨F,hA.pure hs2.first,hs2.first.pure,fun b hb=>.inl hb⟩
structure SeesAt (w0:World) (H:NP) (w:World) (k p p1:Addr) (L:Sp.Pool) (G:List Int) (S:List Sp.Way) (F F0 FP:NP):Prop where
 know:qB w k p G S F
 pool:zV w p L FP
 cap:w.cell? p1=some (.pointer (some k))
 ext:Ext F0 w0 w
 own:∀b,F b→F0 b∨w0.heap.size≤b
 h1:∀b,F b→¬ H b
 h2:∀b,FP b→¬ H b
 h3:¬ H p1.block
 d1:¬ F p1.block
 d2:∀b,F b→¬ FP b
section
variable {w0 w w':World} {H H':NP} {k p p1:Addr} {L:Sp.Pool} {G:List Int} {S S':List Sp.Way} {F F' F0 FP:NP}
theorem SeesAt.pure (h:SeesAt w0 H w k p p1 L G S F F0 FP) (E:Pure w w'):SeesAt w0 H w' k p p1 L G S F F0 FP :=
 ⟨h.know.pure E,h.pool.pure E,E.cell h.cap (fun h=>h),h.ext.thenPure E,h.own,h.h1,h.h2,h.h3,h.d1,h.d2⟩
theorem SeesAt.hst (h:SeesAt w0 H w k p p1 L G S F F0 FP) (hs:Hst w0 H w H' w'):SeesAt w0 H' w' k p p1 L G S F F0 FP:=by
 have x1:=hs.disj (G:=F) (fun b hb=>⟨h.know.lt hb,h.h1 b hb⟩);have x2:=hs.disj (G:=FP) (fun b hb=>⟨h.pool.lt hb,h.h2 b hb⟩);have x3:=hs.disj (G:=(·=p1.block)) (fun b hb=>by subst hb;exact ⟨World.block_lt_of_cell? w p1 h.cap,h.h3⟩) _ rfl;exact ⟨h.know.ext hs.ext x1,h.pool.ext hs.ext x2,hs.ext.cell h.cap x3,h.ext.trans' hs.ext (fun i hi hb=>by have:=hs.old i hb;omega),h.own,x1,x2,x3,h.d1,h.d2⟩
theorem SeesAt.fresh (h:SeesAt w0 H w k p p1 L G S F F0 FP) {q:Nat} (E:Ext (·=q) w w') (q1:¬ F q) (q2:¬ FP q) (q3:q≠p1.block) (q4:w0.heap.size≤q):SeesAt w0 H w' k p p1 L G S F F0 FP :=
 ⟨h.know.ext E (fun b hb e=>q1 (e▸hb)),h.pool.ext E (fun b hb e=>q2 (e▸hb)),E.cell h.cap (fun e=>q3 e.symm),h.ext.trans' E (fun i hi e=>by subst e;omega),h.own,h.h1,h.h2,h.h3,h.d1,h.d2⟩
theorem SeesAt.step (h:SeesAt w0 H w k p p1 L G S F F0 FP) (hH:∀b,H b→b<w.heap.size) (hK:qB w' k p G S' F') (E:Ext F w w') (hF:∀b,F' b→F b∨w.heap.size≤b):SeesAt w0 H w' k p p1 L G S' F' F0 FP:=by
 have hb:=h.ext.size;refine ⟨hK,h.pool.ext E (fun b hb hf=>h.d2 b hf hb),E.cell h.cap h.d1,h.ext.trans' E (fun i hi hf=>(h.own i hf).elim id (fun hh=>by omega)),fun b hb=>?_,fun b hb hh=>?_,h.h2,h.h3,fun hh=>?_,fun b hb hh=>?_⟩
 ·rcases hF b hb with h1 | h1
  ·exact h.own b h1
  ·right;omega
 ·rcases hF b hb with h1 | h1
  ·exact h.h1 b h1 hh
  ·have:=hH b hh;omega
 ·rcases hF _ hh with h1 | h1
  ·exact h.d1 h1
  ·have:=World.block_lt_of_cell? w p1 h.cap;omega
 ·rcases hF b hb with h1 | h1
  ·exact h.d2 b h1 hh
  ·have:=h.pool.lt hh;omega
end
theorem jPH (k p:Addr) (t rule frm:Int) (w0:World) {L:Sp.Pool} {G:List Int} {S:List Sp.Way} {F FP:NP} (h:qB w0 k p G S F) (hP:zV w0 p L FP) (hW:Sp.Wf L) (hd:∀b,F b→¬ FP b)
  (hwo:Sp.WaysOk L G S) (hcl:∀u∈Sp.zM S,Sp.jFO L S u) (ht:Sp.inP L t=true) (hv:Sp.jFX L G S ⟨t,rule,frm⟩) :
  Calls prog 106 #[.pointer (some k),.int .i64 t,.agg #[.int .i64 rule,.int .i64 frm]] w0 (fun e w'=>e=.returned (.tuple #[])∧∃S' F',qB w' k p G S' F'∧(Sp.WaysOk L G S'∧(∀u∈Sp.zM S',Sp.jFO L S' u)∧t∈Sp.zM S'∧∀u∈Sp.zM S,u∈Sp.zM S')∧Ext F w0 w'∧∀b,F' b→F b∨w0.heap.size≤b):=by
 suffices key:∀K:WP,(∀S' F' w',qB w' k p G S' F'→(Sp.WaysOk L G S'∧(∀u∈Sp.zM S',Sp.jFO L S' u)∧t∈Sp.zM S'∧∀u∈Sp.zM S,u∈Sp.zM S')→Ext F w0 w'→(∀b,F' b→F b∨w0.heap.size≤b)→K w')→m_T (some k) t rule frm w0 K from
  w_T _ _ _ _ w0 _ (key _ (fun S' F' w' a b c d=>⟨S',F',a,b,c,d⟩))
 intro K hK
 unfold m_T
 intro p1 w1 h1 H1 w2 hs2
 have hp1:=h1.at_size
 have E1:Pure w0 w1:=Ext.new h1
 have nF:∀{b},F b→b<w0.heap.size:=fun hb=>h.lt hb
 have nP:∀{b},FP b→b<w0.heap.size:=fun hb=>hP.lt hb
 have A1:SeesAt w0 None w1 k p p1 L G S F F FP:=⟨h.pure E1,hP.pure E1,(Box.of_new h1).cell0,E1.pure,fun b hb=>.inl hb,fun b _ h=>h,fun b _ h=>h,fun h=>h,fun hb=>by have:=nF hb;omega,hd⟩
 have A2:=A1.hst hs2
 obtain ⟨sg,m,sl,k2,hF2⟩:=A2.know
 obtain ⟨r,f,hl,_⟩:=k2.look t
 refine ⟨_,A2.cap,k,rfl,_,k2.box.cell rfl,r,f,_,hl,fun hc=>?_,fun hc=>?_⟩
 ·intro H2 w4 hs4
  have A4:=A2.hst hs4
  exact hK S F w4 A4.know ⟨hwo,hcl,by simpa using hc,fun _ h=>h⟩ A4.ext (fun b hb=>.inl hb)
 have hnt:t ∉ Sp.zM S:=by simpa using hc
 intro H2 w4 hs4
 have A4:=A2.hst hs4
 have k4:KnowS w4 k p G S (Sp.zM S) sg m sl:=k2.ext hs4.ext (fun b hb=>A4.h1 b ((hF2 b).2 hb))
 have D:∀w:World,Pure w w.drew:=fun w=>Ext.drew w
 refine ⟨fun w'=>w'.cell? p1=some (.pointer (some k))∧Box w' k [.pointer (some p),sg.v,.map (some m),sl.v] 165,⟨(A4.pure (D w4)).cap,(k4.pure (D w4)).box⟩,?_⟩
 rintro _ rfl
 have A5:=A4.pure (D w4)
 have k5:=k4.pure (D w4)
 have hs5:Hst w0 H2 w4.drew H2 w4.drew:=hs4.here.again (D w4).keptP
 refine ⟨_,fun w' h=>h.1,k,rfl,_,fun w' h=>h.2.cell rfl,?_⟩
 obtain ⟨w6,hr6,k6,E6⟩:=k5.put (v:=⟨t,rule,frm⟩) hnt
 have hm:¬ H2 m:=A5.h1 m ((hF2 m).2 (.inr (.inr (.inl rfl))))
 refine ⟨w6,hr6,E6.kept (fun b hb e=>hm (e▸hb)),?_⟩
 have c16:w6.cell? p1=some (.pointer (some k)):=E6.cell A5.cap (fun e=>A5.d1 ((hF2 _).2 (.inr (.inr (.inl e)))))
 refine ⟨_,c16,k,rfl,sl,k6.box.cell rfl,?_⟩
 have k7:=k6.pure (D w6)
 have c17:w6.drew.cell? p1=some (.pointer (some k)):=(D w6).cell c16 (fun h=>h)
 refine ⟨fun w'=>w'.cell? p1=some (.pointer (some k))∧Box w' k [.pointer (some p),sg.v,.map (some m),sl.v] 165,⟨c17,k7.box⟩,?_⟩
 rintro _ rfl
 refine ⟨_,fun w' h=>h.1,_,fun w' h=>h.1,k,rfl,sl,fun w' h=>h.2.cell rfl,?_⟩
 intro q w8 h8
 have E8:Pure w6.drew w8:=Ext.new h8
 refine ⟨⟨E8.cell c17 (fun h=>h),k7.box.pure E8⟩,?_⟩
 have hSn:S.length≤65536:=by have:=hwo.few;have:=hW.ok.few;omega
 obtain ⟨s1,w9,hr9,X9,b9,k9,E9,f9⟩:=k7.app h8 (by rw [Sp.qV];omega)
 have c19:w9.cell? p1=some (.pointer (some k)):=X9.cell (E8.cell c17 (fun h=>h)) (fun hb=>A5.d1 ((hF2 _).2 (.inr (.inr (.inr hb)))))
 have hH8:∀b,H2 b→b<w4.drew.heap.size:=hs5.lt
 refine ⟨s1,w9,hr9,⟨c19,b9⟩,X9.kept (fun b hb hx=>A5.h1 b ((hF2 b).2 (.inr (.inr (.inr hx)))) hb),k,rfl,b9.canW (by simp),by rw [zX];exact A5.h1 _ ((hF2 _).2 (.inl rfl)),?_⟩
 rintro _ rfl
 rw [← show Sp.zM (S++[⟨t,rule,frm⟩])=Sp.zM S++[t] from Sp.xD S ⟨t,rule,frm⟩] at k9
 have E59:Ext F w4.drew (w9.setCell (k.add 3) s1.v):=(E6.mono (fun b _ e=>(hF2 b).2 (.inr (.inr (.inl e))))).trans (((D w6).pure (F:=F)).trans (E9.mono (fun b _ hb=>(hF2 b).2 hb)))
 have z6:w4.drew.heap.size≤w6.drew.heap.size:=Nat.le_trans E6.size (D w6).size
 have A10:SeesAt w0 H2 (w9.setCell (k.add 3) s1.v) k p p1 L G (S++[⟨t,rule,frm⟩]) (KF k sg m s1) F FP:=A5.step hH8 ⟨sg,m,s1,k9,fun b=>Iff.rfl⟩ E59 (fun b hb=>(f9 b hb).imp (hF2 b).2 (fun h=>by omega))
 have hw1:Sp.WaysOk L G (S++[⟨t,rule,frm⟩]):=hwo.snoc hnt ht hv
 have hl2:sl.len=S.length:=by rw [k2.list.len,qP,Sp.qV]
 refine ⟨fun i H w'=>∃(j:Nat) (Sj:List Sp.Way) (Fj:NP),i=j∧j≤Sj.length∧SeesAt w0 H w' k p p1 L G Sj Fj F FP∧Sp.WaysOk L G Sj∧(∀u∈Sp.zM (Sj.take j),Sp.jFO L Sj u)∧t∈Sp.zM Sj∧∀u∈Sp.zM S,u∈Sp.zM Sj,fun i _=>((L.length:Int) - i).toNat,
  ⟨S.length,_,_,by rw [hl2],by simp,A10,hw1,fun u hu=>by rw [List.take_left] at hu;exact (hcl u hu).snoc,by rw [Sp.xD];simp,fun u hu=>by rw [Sp.xD];exact List.mem_append_left _ hu⟩,?_⟩
 rintro _ Hl wl hl ⟨j,Sj,Fj,rfl,hj,A,hwj,hcj,htj,hSj⟩
 unfold m_T_l1
 obtain ⟨tg,mj,tl,kj,hFj⟩:=A.know
 have hlj:tl.len=Sj.length:=by rw [kj.list.len,qP,Sp.qV]
 refine ⟨_,A.cap,k,rfl,tl,kj.box.cell rfl,fun hc=>?_,fun hc=>?_⟩
 ·have hlt:=uC hlj hc
  obtain ⟨a8,at8,_,c8⟩:=tU kj.list.lst (j:=j) (by rw [Sp.qV];exact hlt)
  have hu:(Sp.zM Sj)[j]'(by rw [Sp.qV];exact hlt)=Sj[j].t:=by simp [Sp.zM]
  rw [hu] at c8
  have hum:Sj[j].t∈Sp.zM Sj:=List.mem_map.2 ⟨_,List.getElem_mem hlt,rfl⟩
  have hui:=hwj.inp _ hum
  have hLn:Sj.length≤L.length:=hwj.few
  have hL6:=hW.ok.few
  have htk:Sp.zM (Sj.take (j+1))=Sp.zM (Sj.take j)++[Sj[j].t]:=by rw [List.take_succ_eq_append_getElem hlt,Sp.xD]
  generalize Sj[j].t=u at *
  refine ⟨_,A.cap,k,rfl,tl,kj.box.cell rfl,a8,at8,u,c8,?_⟩
  intro p5 w11 h11
  have hp5:=h11.at_size
  have E11:Pure wl w11:=Ext.new h11
  have b5:=Box.of_new h11
  have hnh5:¬ Hl p5.block:=fun hh=>by have:=hl.lt _ hh;omega
  refine ⟨b5.canW0 (by simp),hnh5,?_⟩
  rintro _ rfl
  have b12:=b5.set0 (v:=.int .i64 u)
  have E12:=Ext.setCell (w:=w11) p5 (.int .i64 u)
  have wl0:=A.ext.size
  have n5:¬ Fj p5.block:=fun hh=>by have:=A.know.lt hh;omega
  have n5p:¬ FP p5.block:=fun hh=>by have:=A.pool.lt hh;omega
  have n51:p5.block≠p1.block:=fun hh=>by have:=World.block_lt_of_cell? wl p1 A.cap;omega
  have A12:SeesAt w0 Hl (w11.setCell p5 (.int .i64 u)) k p p1 L G Sj Fj F FP:=(A.pure E11).fresh E12 n5 n5p n51 (by omega)
  have k12:KnowS (w11.setCell p5 (.int .i64 u)) k p G Sj (Sp.zM Sj) tg mj tl:=(kj.pure E11).ext E12 (fun b hb e=>n5 (e▸(hFj b).2 hb))
  have hl12:Hst w0 Hl (w11.setCell p5 (.int .i64 u)) Hl (w11.setCell p5 (.int .i64 u)):=(hl.again E11.keptP).again (E12.kept (fun b hb e=>hnh5 (e▸hb)))
  generalize w11.setCell p5 (.int .i64 u)=w12 at *
  clear E11 E12 h11
  refine ⟨fun w'=>w'.cell? p1=some (.pointer (some k))∧Box w' k [.pointer (some p),tg.v,.map (some mj),tl.v] 165∧Box w' p5 [.int .i64 u] 78,⟨(A12.pure (D w12)).cap,(k12.pure (D w12)).box,b12.pure (D w12)⟩,?_⟩
  rintro _ rfl
  have A17:=A12.pure (D w12)
  have b17:=b12.pure (D w12)
  have k17:=k12.pure (D w12)
  have hs17:Hst w0 Hl w12.drew Hl w12.drew:=hl12.again (D w12).keptP
  generalize hn:Sp.nodeOf L u=n at *
  have J2 : ∀ (a9 : Addr) (w : World), Hst w0 Hl w Hl w → SeesAt w0 Hl w k p p1 L G Sj Fj F FP → w.cell? p5 = some (.int .i64 u) → Row w a9 (uU n) → ¬ Fj a9.block → ¬ Hl a9.block →
    m_T_j2 p1 j p5 a9 w0 Hl w (fun y'0 H' w'=>(∃(j:Nat) (Sj:List Sp.Way) (Fj:NP),y'0=j∧j≤Sj.length∧SeesAt w0 H' w' k p p1 L G Sj Fj F FP∧Sp.WaysOk L G Sj∧(∀u∈Sp.zM (Sj.take j),Sp.jFO L Sj u)∧t∈Sp.zM Sj∧∀u∈Sp.zM S,u∈Sp.zM Sj)∧((L.length:Int) - y'0).toNat<((L.length:Int) - (j:Int)).toNat) K:=by
   intro a9 w hs Aw c5 r9 n9 nh9
   have fin : ∀ (H' : NP) (w' : World) (S' : List Sp.Way) (F' : NP), SeesAt w0 H' w' k p p1 L G S' F' F FP → Sp.WaysOk L G S' → (∃ M, S' = Sj ++ M) → Sp.jFO L S' u →
     ((∃(j':Nat) (Sj:List Sp.Way) (Fj:NP),IntKind.i64.wrap ((j:Int)+1)=j'∧j'≤Sj.length∧SeesAt w0 H' w' k p p1 L G Sj Fj F FP∧Sp.WaysOk L G Sj∧(∀u∈Sp.zM (Sj.take j'),Sp.jFO L Sj u)∧t∈Sp.zM Sj∧∀u∈Sp.zM S,u∈Sp.zM Sj)∧((L.length:Int) - IntKind.i64.wrap ((j:Int)+1)).toNat<((L.length:Int) - (j:Int)).toNat):=by
    rintro H' w' S' F' A' hw' ⟨M,rfl⟩ hsh
    have hsub:∀x∈Sp.zM Sj,x∈Sp.zM (Sj++M):=fun x hx=>by unfold Sp.zM at hx ⊢;rw [List.map_append];exact List.mem_append_left _ hx
    rw [vV (n:=L.length) (by omega) (by omega)]
    refine ⟨⟨j+1,_,F',rfl,by rw [List.length_append];omega,A',hw',fun x hx=>?_,hsub t htj,fun x hx=>hsub x (hSj x hx)⟩,jCE (by omega)⟩
    rw [List.take_append_of_le_length (by omega),htk,List.mem_append,List.mem_singleton] at hx
    rcases hx with hx | rfl
    ·exact fun r y ha=>hsub y (hcj x hx r y ha)
    ·exact hsh
   unfold m_T_j2
   have ck:w.cell? a9=some (.int .i64 n.kind):=by simpa [Addr.add,uU] using r9 0 (by simp [uU])
   have ca:w.cell? (a9.add 5)=some (.int .i64 n.a):=r9 5 (by simp [uU])
   have cb:w.cell? (a9.add 6)=some (.int .i64 n.b):=r9 6 (by simp [uU])
   refine ⟨_,ck,fun hk=>?_,fun hk=>?_⟩
   ·have hk4:n.kind=4:=by simpa using hk
    have hkids:=Sp.jVO hW hui (by rw [hn];exact hk4)
    rw [hn] at hkids
    refine ⟨_,ca,?_⟩
    refine (jBG k p n.a 1 u p1 p5 w Aw.know Aw.cap c5 Aw.d1 (fun hh=>n5 hh) (by omega)).mono ?_
    rintro _ w13 ⟨rfl,F1,K1,X1,f1⟩
    have A1:=Aw.step hs.lt K1 X1 f1
    have hs13:=hs.again (X1.kept (fun b hb hf=>Aw.h1 b hf hb))
    refine ⟨rfl,X1.kept (fun b hb hf=>Aw.h1 b hf hb),n.b,X1.cell cb (by rw [zX];exact n9),?_⟩
    have a1:Sp.uG L 1 u n.a:=.inl ⟨rfl,by rw [hn];exact hk4,by rw [hn]⟩
    have a2:Sp.uG L 2 u n.b:=.inr (.inl ⟨rfl,by rw [hn];exact hk4,by rw [hn]⟩)
    have hw1:=hwj.add (v:=⟨n.a,1,u⟩) hkids.1.1 (.inr ⟨by simp,a1,hum⟩)
    have u1:=(Sp.xV Sj ⟨n.a,1,u⟩).2 u hum
    have hw2:=hw1.add (v:=⟨n.b,2,u⟩) hkids.2.1 (.inr ⟨by simp,a2,u1⟩)
    have p5lt:=World.block_lt_of_cell? w p5 c5
    have m5:¬ F1 p5.block:=fun hh=>(f1 _ hh).elim n5 (fun hx=>by omega)
    refine (jBG k p n.b 2 u p1 p5 w13 A1.know A1.cap (X1.cell c5 n5) A1.d1 m5 (by have:=hw1.few;omega)).mono ?_
    rintro _ w14 ⟨rfl,F2,K2,X2,f2⟩
    have A2:=A1.step hs13.lt K2 X2 f2
    refine ⟨rfl,X2.kept (fun b hb hf=>A1.h1 b hf hb),?_⟩
    refine fin Hl w14 _ F2 A2 hw2 ?_ ?_
    ·obtain ⟨M1,e1⟩:=Sp.jBH Sj ⟨n.a,1,u⟩
     obtain ⟨M2,e2⟩:=Sp.jBH (Sp.tM Sj ⟨n.a,1,u⟩) ⟨n.b,2,u⟩
     exact ⟨M1++M2,by rw [e2,e1,List.append_assoc]⟩
    ·rintro r y (⟨_,_,h3⟩ | ⟨_,_,h3⟩ | ⟨_,h2,_⟩)
     ·rw [hn] at h3;subst h3
      exact (Sp.xV _ ⟨n.b,2,u⟩).2 _ (Sp.xV Sj ⟨n.a,1,u⟩).1
     ·rw [hn] at h3;subst h3
      exact (Sp.xV _ ⟨n.b,2,u⟩).1
     ·rw [hn,hk4] at h2;cases h2
   ·have hk4:n.kind≠4:=by simpa using hk
    rintro y1 rfl
    have hy:(cond ((n.kind:Int) == 7) ((n.kind:Int) == 7) (cond ((n.kind:Int) == 8) ((n.kind:Int) == 8) ((n.kind:Int) == 9)))=Sp.uI n.kind:=by
     unfold Sp.uI;cases h7:(n.kind == 7) <;> cases h8:(n.kind == 8) <;> simp
    rw [hy]
    refine ⟨fun hs7=>?_,fun hs7=>?_⟩
    ·intro H3 w15 hs15
     have A15:=Aw.hst hs15
     have hkids:=Sp.kids7 hW hui (by rw [hn];exact hs7)
     rw [hn] at hkids
     have r15:=jQI r9 nh9 hs15
     have ca15:w15.cell? (a9.add 5)=some (.int .i64 n.a):=r15 5 (by simp)
     have c515:=jHX c5 hnh5 hs15
     refine ⟨n.a,ca15,?_⟩
     refine (jBG k p n.a 3 u p1 p5 w15 A15.know A15.cap c515 A15.d1 n5 (by omega)).mono ?_
     rintro _ w16 ⟨rfl,F1,K1,X1,f1⟩
     have A1:=A15.step hs15.lt K1 X1 f1
     refine ⟨rfl,X1.kept (fun b hb hf=>A15.h1 b hf hb),?_⟩
     have a3:Sp.uG L 3 u n.a:=.inr (.inr ⟨rfl,by rw [hn];exact hs7,by rw [hn]⟩)
     refine fin H3 w16 _ F1 A1 (hwj.add (v:=⟨n.a,3,u⟩) hkids.1 (.inr ⟨by simp,a3,hum⟩)) (Sp.jBH Sj ⟨n.a,3,u⟩) ?_
     rintro r y (⟨_,h2,_⟩ | ⟨_,h2,_⟩ | ⟨_,_,h3⟩)
     ·rw [hn] at h2;exact absurd h2 hk4
     ·rw [hn] at h2;exact absurd h2 hk4
     ·rw [hn] at h3;subst h3
      exact (Sp.xV Sj ⟨n.a,3,u⟩).1
    ·intro H3 w15 hs15
     refine fin H3 w15 Sj Fj (Aw.hst hs15) hwj ⟨[],by simp⟩ ?_
     rintro r y (⟨_,h2,_⟩ | ⟨_,h2,_⟩ | ⟨_,h2,_⟩)
     ·rw [hn] at h2;exact absurd h2 hk4
     ·rw [hn] at h2;exact absurd h2 hk4
     ·rw [hn,hs7] at h2;cases h2
  refine ⟨_,fun w' h=>h.1,k,rfl,_,fun w' h=>h.2.1.cell0,_,fun w' h=>h.2.2.cell0,?_,?_⟩
  ·refine (jGS p u w12.drew A17.pool hW.ok).mono ?_
   rintro _ w18 ⟨nk,nf,nt,nu,nx,na,nb,ok,rfl,⟨hnn,_⟩,E18⟩
   rw [hn] at hnn
   refine ⟨_,_,_,_,_,_,_,_,rfl,⟨(A17.pure E18).cap,k17.box.pure E18,b17.pure E18⟩,E18.keptP,?_⟩
   intro p6 w19 h19
   have hp6:=h19.at_size
   have E19:=E18.trans (Ext.new h19)
   have b6:=Box.of_new h19
   have z18:=E18.size
   have z12:wl.heap.size≤w12.drew.heap.size:=by have:=(b17.lt);omega
   have nh6:¬ Hl p6.block:=fun hh=>by have:=hl.lt _ hh;omega
   refine ⟨⟨(A17.pure E19).cap,k17.box.pure E19,b17.pure E19⟩,b6.canWs (n:=7) (by simp),nh6,?_⟩
   rintro _ rfl
   have E20:=Ext.storeRow w19 p6 [(.int .i64 nk),(.int .i64 nf),(.int .i64 nt),(.int .u64 nu),(.string nx),(.int .i64 na),(.int .i64 nb)]
   have b20:=b6.store (vs:=[(.int .i64 nk),(.int .i64 nf),(.int .i64 nt),(.int .u64 nu),(.string nx),(.int .i64 na),(.int .i64 nb)]) rfl
   have A19:=A17.pure E19
   have n6:¬ Fj p6.block:=fun hh=>by have:=A17.know.lt hh;omega
   have A20:=A19.fresh E20 n6 (fun hh=>by have:=A17.pool.lt hh;omega) (fun hh=>by have:=World.block_lt_of_cell? _ p1 A17.cap;omega) (by have:=A17.ext.size;omega)
   have k20:=(k17.box.pure E19).ext E20 (fun e=>by have:=k17.box.lt;omega)
   have b520:=(b17.pure E19).ext E20 (fun e=>by have:=b17.lt;omega)
   have hs20:Hst w0 Hl _ Hl _:=(hs17.again E19.keptP).again (E20.kept (fun b hb e=>nh6 (e▸hb)))
   exact ⟨⟨A20.cap,k20,b520⟩,J2 p6 _ hs20 A20 b520.cell0 (by rw [← hnn];exact b20.row) n6 nh6⟩
  ·intro p7 w21 h21
   have hp6:=h21.at_size
   have E21:Pure w12.drew w21:=Ext.new h21
   have b7:=Box.of_new h21
   refine ⟨⟨(A17.pure E21).cap,k17.box.pure E21,b17.pure E21⟩,?_⟩
   refine (jGS p u w21 (A17.pure E21).pool hW.ok).mono ?_
   rintro _ w22 ⟨nk,nf,nt,nu,nx,na,nb,ok,rfl,⟨hnn,_⟩,E22⟩
   rw [hn] at hnn
   have E19:=E21.trans E22
   have z12:wl.heap.size≤w12.drew.heap.size:=by have:=(b17.lt);omega
   have nh6:¬ Hl p7.block:=fun hh=>by have:=hl.lt _ hh;omega
   have b6:=b7.pure E22
   refine ⟨_,_,_,_,_,_,_,_,rfl,⟨(A17.pure E19).cap,k17.box.pure E19,b17.pure E19⟩,E22.keptP,b6.canWs (n:=7) (by simp),nh6,?_⟩
   rintro _ rfl
   have E20:=Ext.storeRow w22 p7 [(.int .i64 nk),(.int .i64 nf),(.int .i64 nt),(.int .u64 nu),(.string nx),(.int .i64 na),(.int .i64 nb)]
   have b20:=b6.store (vs:=[(.int .i64 nk),(.int .i64 nf),(.int .i64 nt),(.int .u64 nu),(.string nx),(.int .i64 na),(.int .i64 nb)]) rfl
   have A19:=A17.pure E19
   have n6:¬ Fj p7.block:=fun hh=>by have:=A17.know.lt hh;omega
   have A20:=A19.fresh E20 n6 (fun hh=>by have:=A17.pool.lt hh;omega) (fun hh=>by have:=World.block_lt_of_cell? _ p1 A17.cap;omega) (by have:=A17.ext.size;omega)
   have k20:=(k17.box.pure E19).ext E20 (fun e=>by have:=k17.box.lt;omega)
   have b520:=(b17.pure E19).ext E20 (fun e=>by have:=b17.lt;omega)
   have hs20:Hst w0 Hl _ Hl _:=(hs17.again E19.keptP).again (E20.kept (fun b hb e=>nh6 (e▸hb)))
   exact ⟨⟨A20.cap,k20,b520⟩,J2 p7 _ hs20 A20 b520.cell0 (by rw [← hnn];exact b20.row) n6 nh6⟩
 ·have hge:=xU hlj hj hc
  subst hge
  rw [List.take_length] at hcj
  exact hK Sj Fj wl A.know ⟨hwj,hcj,htj,hSj⟩ A.ext A.own
theorem jMR (p:Addr) (k:Int) (w:World) (hk:k=0∨k=1∨k=2):(Instr.sliceAt 54 (Sl.mk (some p) 2 2).v .none (some (.int .i64 k)) .none).run prog w=.ok (Sl.mk (some p) k.toNat 2).v w:=by
 rcases hk with rfl | rfl | rfl <;> kernel_rfl
theorem jVZ (p:Addr) (k f t u:Int) (x:ByteArray) (a b:Int) (w:World) {L:Sp.Pool} {F:NP} (hP:zV w p L F) (hok:Sp.Ok L) :
  Calls prog 167 #[.pointer (some p),.agg #[.int .i64 k,.int .i64 f,.int .i64 t,.int .u64 u,.string x,.int .i64 a,.int .i64 b]] w
   (fun e w'=>∃r1:Int,∃r2:Int,∃r3:Int,e=.returned (.tuple #[.int .i64 r1,.int .i64 r2,.int .i64 r3])∧((r1,r2,r3)=Sp.check L ⟨k,f,t,u,x,a,b⟩∧Pure w w')):=by
 suffices key:∀K:Int→Int→Int→WP,(∀r1 r2 r3 w',(r1,r2,r3)=Sp.check L ⟨k,f,t,u,x,a,b⟩∧Pure w w'→K r1 r2 r3 w')→m_E (some p) k f t u x a b w K from
  w_E _ _ _ _ _ _ _ _ w _ (key _ (fun _ _ _ _ h=>h))
 intro K hK
 unfold m_E
 intro p2 w1 h1
 have b1:=Box.of_new h1
 have E1:Pure w w1:=Ext.new h1
 refine ⟨_,_,_,_,_,_,_,b1.row,?_⟩
 refine (jSB _ _ _ _ _ _ _ _).mono ?_
 rintro _ w2 ⟨s1,s2,s3,s4,s5,pe,rfl,⟨hs,hpe⟩,E2⟩
 refine ⟨_,_,_,_,_,_,rfl,?_⟩
 intro p3 w3 h3
 have b2:=(b1.pure E2).pure (Ext.new h3)
 have n23:p2.block≠p3.block:=New.ne h3 (b1.pure E2).blk
 have E3:Pure w w3:=(E1.trans E2).trans (Ext.new h3)
 have o3:=New.own (E1.trans E2) h3
 refine bx 5 (Box.of_new h3) rfl rfl (fun w4 b3 E=>?_)
 have b2:=b2.ext E n23
 have E4:Pure w w4:=E3.own o3 E
 clear E E3 E2 E1 b1 h1 h3
 have hsh:Sp.shapeOf k=⟨s1,s2,s3,s4,s5⟩:=hs.symm
 have hk5:s5=0∨s5=1∨s5=2:=by have:=Sp.yO k;rw [hsh] at this;exact this
 generalize hn:(⟨k,f,t,u,x,a,b⟩:Sp.Node)=n at *
 have hnk:n.kind=k:=by rw [← hn]
 have hna:n.a=a:=by rw [← hn]
 have hnb:n.b=b:=by rw [← hn]
 have J2:∀e2 w',Pure w4 w'→(e2≠0→Sp.check L n=(0,0,e2))→(e2=0→pe=0∧((decide (s5<1) && a != 0) || (decide (s5<2) && b != 0))=false∧Sp.zZ ⟨s1,s2,s3,s4,s5⟩ n=0)→m_E_j2 (some p) p2 p3 e2 w' K:=by
  intro e2 w' E' hne heq;have b2:=b2.pure E';have b3:=b3.pure E';have E5:=E4.trans E';have hP':=hP.pure E5;unfold m_E_j2;refine ⟨fun h=>hK _ _ _ _ ⟨(hne (by simpa using h)).symm,E5⟩,fun h=>⟨_,b2.cell rfl,_,b2.cell rfl,?_⟩⟩;intro p4 w5 h5;obtain ⟨hp0,hc0,hf0⟩:=heq (by simpa using h);have b4:=Box.of_new h5;have E6:=E5.trans (Ext.new h5);have hP6:=hP.pure E6;refine ⟨_,(b3.pure (Ext.new h5)).cell rfl,_,jMR p4 s5 w5 hk5,?_⟩;have hks:Sp.zI n=[a,b].take s5.toNat:=by simp [Sp.zI,hnk,hsh,hna,hnb]
  have hlen:(Sp.zI n).length=s5.toNat:=by rw [hks];rcases hk5 with rfl | rfl | rfl <;> rfl
  have hget:∀j (hj:j<(Sp.zI n).length),w5.cell? (p4.add (j*1))=some (.int .i64 (Sp.zI n)[j]):=by
   intro j hj;have hj2:j<s5.toNat:=by omega
   have:(Sp.zI n)[j]=[a,b][j]'(by simp;omega):=by simp only [hks,List.getElem_take]
   rw [this,Nat.mul_one];refine b4.cell ?_;have h2:j=0∨j=1:=by omega
   rcases h2 with rfl | rfl <;> rfl
  have hrest:Sp.check L n=if (Sp.zI n).any (fun t=>!Sp.inP L t) then (0,0,51) else if 1+((Sp.zI n).map (Sp.sizeOf L)).sum>4096∨(Sp.zI n).foldl (fun d t=>max d (Sp.depthOf L t)) 0+1>64 then (0,0,52) else (1+((Sp.zI n).map (Sp.sizeOf L)).sum,(Sp.zI n).foldl (fun d t=>max d (Sp.depthOf L t)) 0+1,0):=by
   unfold Sp.check;simp only [hnk,hsh,hna,hnb,← hpe,hp0,hc0,hf0];simp
  generalize hkk:Sp.zI n=ks at *;have hl2:ks.length≤2:=by omega
  have hsum:∀j,0≤((ks.take j).map (Sp.sizeOf L)).sum∧((ks.take j).map (Sp.sizeOf L)).sum≤4096*(ks.take j).length:=by
   intro j;generalize ks.take j=l;induction l with
   | nil=>simp
   | cons y l ih=>have:=hok.sizeOf y;simp only [List.map_cons,List.sum_cons,List.length_cons];omega
  have hdep:∀(l:List Int) (d:Int),0≤d→d≤64→0≤l.foldl (fun d t=>max d (Sp.depthOf L t)) d∧l.foldl (fun d t=>max d (Sp.depthOf L t)) d≤64:=by
   intro l;induction l with
   | nil=>intro d h1 h2;exact ⟨h1,h2⟩
   | cons y l ih=>intro d h1 h2;have:=hok.depthOf y;exact ih (max d (Sp.depthOf L y)) (by omega) (by omega)
  refine ⟨fun sz d x w'=>∃j:Nat,x=j∧j≤ks.length∧sz=1+((ks.take j).map (Sp.sizeOf L)).sum∧d=(ks.take j).foldl (fun d t=>max d (Sp.depthOf L t)) 0∧(ks.take j).any (fun t=>!Sp.inP L t)=false∧w5=w',fun _ _ x _=>(2 - x).toNat,⟨0,rfl,Nat.zero_le _,by simp,by simp,by simp,rfl⟩,?_⟩;rintro sz d _ _ ⟨j,rfl,hj,rfl,rfl,hin,rfl⟩;unfold m_E_l3;have hs1:=hsum j;have hd1:=hdep (ks.take j) 0 (by omega) (by omega);have htl:(ks.take j).length≤2:=by rw [List.length_take];omega
  refine ⟨fun h=>?_,fun h=>?_⟩
  ·have hlt:j<ks.length:=by have h:=of_decide_eq_true h;simp only at h;omega
   refine ⟨p4.add (j*1),⟨by omega,of_decide_eq_true h,p4,rfl,by simp⟩,ks[j],hget j hlt,?_⟩;have htk:ks.take (j+1)=ks.take j++[ks[j]]:=List.take_succ_eq_append_getElem hlt;refine (c_in p _ w5 hP6).mono ?_;rintro _ _ ⟨_,rfl,rfl,rfl⟩;refine ⟨_,rfl,fun h=>?_,fun h=>?_⟩
   ·refine hK _ _ _ _ ⟨?_,E6⟩;rw [hrest,if_pos];exact List.any_eq_true.2 ⟨ks[j],List.getElem_mem hlt,h⟩
   ·refine (c_Size p _ w5 hP6 hok).mono ?_;rintro _ _ ⟨_,rfl,rfl,rfl⟩;refine ⟨_,rfl,?_⟩;refine (jWB p _ w5 hP6 hok).mono ?_;rintro _ _ ⟨_,rfl,rfl,rfl⟩;refine ⟨_,rfl,_,run_max_int2 _ _ _ _ _ _ _,⟨j+1,?_,hlt,?_,?_,?_,rfl⟩,?_⟩
    ·rw [i64 (by omega) (by omega)];omega
    ·have:=hok.sizeOf ks[j];rw [i64 (by omega) (by omega),htk,List.map_append,List.sum_append];simp only [List.map_cons,List.map_nil,List.sum_cons,List.sum_nil];omega
    ·rw [htk,List.foldl_append];simp only [List.foldl_cons,List.foldl_nil];split <;> omega
    ·rw [htk,List.any_append,hin];simpa using h
    ·show (2 - IntKind.i64.wrap ((j:Int)+1)).toNat<(2 - (j:Int)).toNat;rw [i64 (by omega) (by omega)];omega
  ·have hge:j=ks.length:=by have h:=of_decide_eq_false h;simp only at h;omega
   subst hge;rw [List.take_length] at hs1 hd1 hin ⊢;have hlt:(ks.length:Int)≤2:=by omega
   refine ⟨fun h=>hK _ _ _ _ ⟨?_,E6⟩,fun h=>?_⟩
   ·rw [hrest,hin,if_neg (by simp),if_pos (.inl (by simpa using h))]
   ·rw [i64 (by omega) (by omega)];refine ⟨fun h'=>hK _ _ _ _ ⟨?_,E6⟩,fun h'=>hK _ _ _ _ ⟨?_,E6⟩⟩
    ·rw [hrest,hin,if_neg (by simp),if_pos (.inr (by simpa using h'))]
    ·rw [hrest,hin,if_neg (by simp),if_neg (by simp at h h';omega)]
 have J1:∀e1,(e1≠0→Sp.check L n=(0,0,e1))→(e1=0→pe=0∧((decide (s5<1) && a != 0) || (decide (s5<2) && b != 0))=false)→m_E_j1 (some p) p2 p3 e1 w4 K:=by
  intro e1 hne heq;unfold m_E_j1;refine ⟨fun h=>⟨_,_,_,_,_,b3.row,_,_,_,_,_,_,_,b2.row,?_⟩,fun h=>J2 _ _ (Ext.refl _) hne (fun e=>by rw [e] at h;cases h)⟩;obtain ⟨hp0,hc0⟩:=heq (by simpa using h);refine (jNM _ _ _ _ _ _ _ _ _ _ _ _ _).mono ?_;rintro _ w9 ⟨_,rfl,rfl,E9⟩;rw [hn];refine ⟨_,rfl,J2 _ _ E9 (fun hf=>?_) (fun hf=>⟨hp0,hc0,hf⟩)⟩;unfold Sp.check;simp only [hnk,hsh,hna,hnb,← hpe,hp0,hc0];simp [hf]
 have J53:pe=0→((decide (s5<1) && a != 0) || (decide (s5<2) && b != 0))=true→m_E_j1 (some p) p2 p3 53 w4 K:=fun hp0 hc=>J1 53 (fun _=>by
  unfold Sp.check;simp only [hnk,hsh,hna,hnb,← hpe,hp0,hc];simp) (fun e=>by cases e)
 have Jpe:pe≠0→m_E_j1 (some p) p2 p3 pe w4 K:=fun hp=>J1 pe (fun _=>by
  unfold Sp.check;simp only [← hpe];rw [if_pos hp]) (fun e=>absurd e hp)
 have J5:∀x2 x3,x2=(decide (s5<1) && a != 0)→x3=(decide (s5<2) && b != 0)→m_E_j5 (some p) p2 pe p3 x2 x3 w4 K:=by
  intro x2 x3 h2 h3;unfold m_E_j5;refine ⟨fun h=>⟨fun hx=>J53 (by simpa using h) (by rw [← h2,hx];rfl),fun hx=>⟨fun hy=>J53 (by simpa using h) (by rw [← h2,← h3,hy];simp),fun hy=>J1 pe (fun e=>absurd (by simpa using h) e) (fun e=>⟨e,by rw [← h2,← h3,hx,hy];rfl⟩)⟩⟩,fun h=>Jpe (by simpa using h)⟩
 have J4:∀x2,x2=(decide (s5<1) && a != 0)→m_E_j4 (some p) p2 pe p3 x2 w4 K:=by
  intro x2 h2;unfold m_E_j4;refine ⟨fun h=>⟨fun hx=>J53 (by simpa using h) (by rw [← h2,hx];rfl),fun hx=>⟨_,b3.cell rfl,fun h5=>⟨_,b2.cell rfl,J5 _ _ h2 (by rw [h5];rfl)⟩,fun h5=>J5 _ _ h2 (by rw [h5];rfl)⟩⟩,fun h=>Jpe (by simpa using h)⟩
 exact ⟨fun h=>⟨_,b3.cell rfl,fun h5=>⟨_,b2.cell rfl,J4 _ (by rw [h5];rfl)⟩,fun h5=>J4 _ (by rw [h5];rfl)⟩,fun h=>Jpe (by simpa using h)⟩
def jKQ (v:Value):Prop:=∃n,v=jDT n
theorem jHN {n n':Sp.Node}:jDT n=jDT n'↔n=n':=by
 constructor
 ·intro h;cases n;cases n';simp [jDT,uU] at h;simp [h]
 ·rintro rfl;rfl
theorem jHF (n:Sp.Node):Instr.sameBits 10000 (jDT n) (jDT n)=true:=by
 have h:∀d,Instr.sameBits (d+1) (jDT n) (jDT n)=true:=fun d=>by
  have e:(n.text == n.text)=true:=by rw [beq_toListBytes];simp
  cases d <;> simp [Instr.sameBits,jDT,uU,e]
 exact h 9999
theorem jAL:KeyOK prog 127 jKQ:=by
 refine KeyOK.of_struct underlying127 ?_ ?_ ?_
 ·rintro _ ⟨n,rfl⟩ em w;kernel_rfl
 ·rintro _ _ w ⟨n,rfl⟩ ⟨n',rfl⟩;refine ⟨decide (n=n'),?_,by simp only [jHN,decide_eq_true_eq];exact eq_comm⟩;obtain ⟨k,f,t,u,x,a,b⟩:=n;obtain ⟨k',f',t',u',x',a',b'⟩:=n';simp [Op.equal,Op.maxDepth,go_sem,jOB,jDT,uU]
  repeat' split
  all_goals simp_all
 ·rintro _ ⟨n,rfl⟩;exact jHF n
theorem jEO:SlType prog 160 234 9 (16*5):=by
 refine ⟨underlying160,⟨t234,_,by kernel_rfl,(by kernel_rfl:t234.zero=some (.agg #[.int .i64 0,.int .i64 0,.int .i64 0,.int .u64 0,.string ⟨#[]⟩,.int .i64 0,.int .i64 0,.int .i64 0,.int .i64 0])),by kernel_rfl,by kernel_rfl,rfl⟩,by omega⟩
theorem jMX {L:Sp.Pool} {i:Nat} {n:Sp.Node} {v:Value} (h:(tH L)[i]?=some (jDT n,v)):∃e,L[i]?=some e∧e.node=n∧v=.int .i64 (i+1:Nat):=by
 simp only [tH,List.getElem?_map,List.getElem?_zipIdx,Option.map_map,Option.map_eq_some_iff] at h;obtain ⟨e,he,h⟩:=h;simp only [Function.comp,Prod.mk.injEq] at h;exact ⟨e,he,jHN.1 h.1,by rw [← h.2];simp⟩
theorem jMW {L:Sp.Pool} {n:Sp.Node} (h:∀q∈tH L,q.1≠jDT n):∀e∈L,e.node≠n:=by
 intro e he hn;obtain ⟨i,hi,rfl⟩:=List.mem_iff_getElem.1 he;refine h (jDT L[i].node,.int .i64 (i+1:Nat)) ?_ (by rw [hn]);exact List.mem_map.2 ⟨(L[i],i),by rw [List.mem_zipIdx_iff_getElem?];simp [hi],rfl⟩
theorem jCA {L:Sp.Pool}:∀q∈tH L,jKQ q.1:=by
 intro q hq;obtain ⟨x,_,rfl⟩:=List.mem_map.1 hq;exact ⟨_,rfl⟩
theorem jQS (L:Sp.Pool) (e:Sp.Ent):tH (L++[e])=tH L++[(jDT e.node,.int .i64 (L.length+1:Nat))]:=by
 simp [tH,List.zipIdx_append]
theorem jFI {L:Sp.Pool} (hok:Sp.Ok L) {i:Nat} {e:Sp.Ent} (h:L[i]?=some e):Sp.find L e.node=some i:=by
 obtain ⟨hi,rfl⟩:=List.getElem?_eq_some_iff.1 h;unfold Sp.find;rw [List.findIdx?_eq_some_iff_getElem];refine ⟨hi,by simp,fun j hj=>?_⟩;have hnd:=hok.nodup;simp only [decide_eq_true_eq];intro e;exact List.pairwise_iff_getElem.1 hnd j i (by simp;omega) (by simpa using hi) hj (by simpa using e)
theorem find_none {L:Sp.Pool} {n:Sp.Node} (h:∀e∈L,e.node≠n):Sp.find L n=none:=by
 unfold Sp.find;rw [List.findIdx?_eq_none_iff];intro e he;simpa using h e he
theorem jNN (p:Addr) (k f t u:Int) (x:ByteArray) (a b:Int) (w:World) {L:Sp.Pool} {F:NP} (hP:zV w p L F) (hok:Sp.Ok L) :
  Calls prog 109 #[.pointer (some p),.agg #[.int .i64 k,.int .i64 f,.int .i64 t,.int .u64 u,.string x,.int .i64 a,.int .i64 b]] w
   (fun e w'=>∃r1:Int,∃r2:Int,e=.returned (.tuple #[.int .i64 r1,.int .i64 r2])∧((r1,r2)=((Sp.make L ⟨k,f,t,u,x,a,b⟩).1,(Sp.make L ⟨k,f,t,u,x,a,b⟩).2.1)∧∃F',zV w' p (Sp.make L ⟨k,f,t,u,x,a,b⟩).2.2 F'∧Ext F w w'∧∀b,F' b→F b∨w.heap.size≤b)):=by
 suffices key:∀K:Int→Int→WP,(∀r1 r2 w',((r1,r2)=((Sp.make L ⟨k,f,t,u,x,a,b⟩).1,(Sp.make L ⟨k,f,t,u,x,a,b⟩).2.1)∧∃F',zV w' p (Sp.make L ⟨k,f,t,u,x,a,b⟩).2.2 F'∧Ext F w w'∧∀b,F' b→F b∨w.heap.size≤b)→K r1 r2 w')→m_V1 (some p) k f t u x a b w K from
  w_V1 _ _ _ _ _ _ _ _ w _ (key _ (fun _ _ _ h=>h))
 intro K hK
 unfold m_V1
 intro p2 w1 h1
 have b1:=Box.of_new h1
 have E1:Pure w w1:=Ext.new h1
 have o2:¬ F p2.block:=fun h=>by have:=hP.lt h;have:=h1.at_size;omega
 refine Br.f rfl ⟨_,_,_,_,_,_,_,b1.row,?_⟩
 refine (jVZ p k f t u x a b w1 (hP.pure E1) hok).mono ?_
 rintro _ w2 ⟨sz,dp,er,rfl,hck,E2⟩
 refine ⟨_,_,_,rfl,?_⟩
 generalize hn:(⟨k,f,t,u,x,a,b⟩:Sp.Node)=n at *
 have E3:Pure w w2:=E1.trans E2
 have same:∀w',Pure w w'→∃F',zV w' p L F'∧Ext F w w'∧∀b,F' b→F b∨w.heap.size≤b:=fun w' E=>⟨F,hP.pure E,E.pure,fun _ h=>.inl h⟩
 refine ⟨fun h=>hK _ _ _ ?_,fun h=>?_⟩
 ·have he:er≠0:=by simpa using h
  have:Sp.make L n=(0,er,L):=by unfold Sp.make;simp [← hck,he]
  rw [this];exact ⟨rfl,same _ E3⟩
 ·have he:er=0:=by simpa using h
  subst he
  intro w3 hw3
  have E4:Pure w w3:=by rw [hw3];exact E3.trans (Ext.drew w2)
  have b3:=(b1.pure E2).pure (show Pure w2 w3 by rw [hw3];exact Ext.drew w2)
  clear hw3
  obtain ⟨s,m,hS,hF⟩:=hP.pure E4
  refine ⟨p,rfl,_,hS.box.cell (i:=1) rfl,_,_,_,_,_,_,_,b3.row,?_⟩
  have hkey:(Value.agg #[.int .i64 k,.int .i64 f,.int .i64 t,.int .u64 u,.string x,.int .i64 a,.int .i64 b])=jDT n:=by rw [← hn];rfl
  rw [hkey]
  rcases hS.map.lookup (P:=prog) (T:=159) (E:=78) underlying159 jAL jCA ⟨n,rfl⟩ (zeroValue78 _) true with ⟨hnot,hrun⟩ | ⟨i,v,hi,hrun⟩
  ·refine ⟨_,_,hrun,Br.f rfl ⟨p,rfl,s,hS.box.cell0,?_⟩⟩
   have hno:=jMW hnot
   have hfn:=find_none hno
   have hlen:(s.len:Int)=L.length:=by rw [hS.rows.len];simp
   refine ⟨fun h=>hK _ _ _ ?_,fun h=>?_⟩
   ·have h2:65536≤L.length:=by have h:=of_decide_eq_true h;omega
    have:Sp.make L n=(0,6,L):=by unfold Sp.make;simp [← hck,hfn,h2]
    rw [this];exact ⟨rfl,same _ E4⟩
   ·have h2:¬ 65536≤L.length:=by have h:=of_decide_eq_false h;omega
    have hmk:Sp.make L n=((L.length:Int)+1,0,L++[⟨n,sz,dp⟩]):=by unfold Sp.make;simp [← hck,hfn,h2]
    refine ⟨fun w'=>w'.cell? p=some s.v∧Row w' p2 (uU n),⟨?_,?_⟩,?_⟩
    ·exact Ext.cell (F:=None) (Ext.drew w3) hS.box.cell0 id
    ·rw [← hn];exact Ext.row (F:=None) (Ext.drew w3) b3.row id
    intro w4 hw4
    have E5:Pure w3 w4:=by rw [hw4];exact Ext.drew w3
    clear hw4
    have hS4:PoolS w4 p L s m:=by
     exact ⟨hS.box.pure E5,hS.rows.pure E5,hS.map.ext E5 id,hS.n1,hS.n2,hS.n3⟩
    have b4:=b3.pure E5
    refine ⟨p,rfl,s,fun w' h=>h.1,k,f,t,u,x,a,b,fun w' h=>by have:=h.2;rw [← hn] at this;exact this,?_⟩
    intro p3 w5 h5
    have E6:Pure w4 w5:=Ext.new h5
    have o3:w.heap.size≤p3.block:=New.own (E4.trans E5) h5
    have b5:=Box.of_new h5
    have hrows5:=hS4.rows.pure E6
    have hbox5:=hS4.box.pure E6
    have hmap5:CMap w5 m (tH L):=hS4.map.ext E6 id
    have b45:=b4.pure E6
    have hrow:Row w5 p3 (jPK ⟨n,sz,dp⟩):=by rw [← hn];exact b5.row
    refine ⟨⟨hbox5.cell0,by rw [← hn];exact b45.row⟩,?_⟩
    obtain ⟨s1,w6,hr6,hrows6,E7,hb6⟩:=hrows5.append (P:=prog) (ty:=160) jEO (c:=1) hrow (by simp [jPK,uU]) (by simp [jPK,uU,qY]) (by simp;omega) (by simp [maxLen];omega)
    have nb:∀b,s.blk b→b≠p2.block:=fun b hb e=>o2 (by rw [← e];exact (hF b).2 (.inr (.inl hb)))
    have hbox6:=hbox5.ext E7 hS.n2
    have hmap6:=hmap5.ext E7 hS.n3
    have b6:=b45.ext E7 (fun h=>nb _ h rfl)
    refine ⟨s1,w6,hr6,⟨hbox6.cell0,by rw [← hn];exact b6.row⟩,p,rfl,hbox6.canW0 (by simp),?_⟩
    intro w7 hw7
    have hbox7:Box w7 p [s1.v,.map (some m)] 162:=by rw [hw7];exact hbox6.set0
    have E8:Ext (·=p.block) w6 w7:=by rw [hw7];exact Ext.setCell p _
    clear hw7
    have hs1p:¬ s1.blk p.block:=fun h=>(hb6 _ h).elim hS.n2 (fun h=>by have:=hbox5.lt;omega)
    have hs1m:¬ s1.blk m:=fun h=>(hb6 _ h).elim hS.n3 (fun h=>by have:=hmap5.lt;omega)
    have hrows7:=hrows6.ext E8 (fun b hb e=>hs1p (by rw [← e];exact hb))
    have hmap7:=hmap6.ext E8 hS.n1
    have b7:=b6.ext E8 (fun e=>o2 (by rw [e];exact (hF _).2 (.inl rfl)))
    have hl1:(s1.len:Int)=L.length+1:=by rw [hrows6.len];simp
    refine ⟨p,rfl,s1,hbox7.cell0,?_⟩
    refine ⟨fun w'=>w'.cell? (p.add 1)=some (.map (some m))∧Row w' p2 (uU n),⟨?_,?_⟩,?_⟩
    ·exact Ext.cell (F:=None) (Ext.drew w7) (hbox7.cell (i:=1) rfl) id
    ·rw [← hn];exact Ext.row (F:=None) (Ext.drew w7) b7.row id
    intro w8 hw8
    have E9:Pure w7 w8:=by rw [hw8];exact Ext.drew w7
    clear hw8
    refine ⟨p,rfl,some m,fun w' h=>h.1,k,f,t,u,x,a,b,fun w' h=>by have:=h.2;rw [← hn] at this;exact this,?_⟩
    rw [hkey,hl1]
    have hmap8:CMap w8 m (tH L):=hmap7.ext E9 id
    obtain ⟨w9,hr9,hmap9,E10⟩:=hmap8.insert (P:=prog) (v:=.int .i64 ((L.length:Int)+1)) underlying159 jAL jCA ⟨n,rfl⟩ hnot
    refine ⟨w9,hr9,hK _ _ _ ?_⟩
    rw [hmk]
    have hbox9:=(hbox7.pure E9).ext E10 (fun e=>hS.n1 e.symm)
    have hrows9:=(hrows7.pure E9).ext E10 (fun b hb e=>hs1m (by rw [← e];exact hb))
    refine ⟨rfl,fun b=>b=p.block∨s1.blk b∨b=m,⟨s1,m,⟨hbox9,?_,?_,hS.n1,hs1p,hs1m⟩,fun _=>Iff.rfl⟩,?_,?_⟩
    ·simpa using hrows9
    ·rw [jQS];simpa using hmap9
    ·have hF':∀b,F b↔(b=p.block∨s.blk b∨b=m):=hF
     have Ea:Ext F w w5:=((E4.trans E5).trans E6).pure
     have Eb:Ext F w w6:=Ea.trans' E7 (fun i _ h=>(hF' i).2 (.inr (.inl h)))
     have Ec:Ext F w w7:=Eb.trans' E8 (fun i _ h=>(hF' i).2 (.inl h))
     have Ed:Ext F w w8:=Ec.thenPure E9
     exact Ed.trans' E10 (fun i _ h=>(hF' i).2 (.inr (.inr h)))
    ·intro b hb
     rcases hb with rfl | hb | rfl
     ·exact .inl ((hF _).2 (.inl rfl))
     ·rcases hb6 b hb with h | h
      ·exact .inl ((hF _).2 (.inr (.inl h)))
      ·right;have:=((E4.trans E5).trans E6).size;omega
     ·exact .inl ((hF _).2 (.inr (.inr rfl)))
  ·obtain ⟨e,he,hen,rfl⟩:=jMX hi
   refine ⟨_,_,hrun,Br.t rfl (hK _ _ _ ?_)⟩
   have hfd:=jFI hok he
   rw [hen] at hfd
   have:Sp.make L n=((i:Int)+1,0,L):=by unfold Sp.make;simp [← hck,hfd]
   rw [this];exact ⟨by simp,same _ E4⟩
end Go.Proofs
end
section
open Go Go.SE
namespace Go.Sp
def jGU (G:List Int) (t:Int):List Int:=if t∈G then G else G++[t]
def jCW (L:Pool) (G:List Int) (t:Int):List Int:=if inP L t=true then jGU G t else G
theorem yS {G:List Int} {t x:Int}:x∈jGU G t↔x∈G∨x=t:=by
 unfold jGU;split
 ·rename_i h;exact ⟨.inl,fun h'=>h'.elim id (fun e=>e▸h)⟩
 ·simp
theorem jWG {G:List Int} {t:Int} (h:G.Nodup):(jGU G t).Nodup:=by
 unfold jGU;split
 ·exact h
 ·rename_i hn;rw [List.nodup_append];exact ⟨h,by simp,fun x hx y hy e=>by simp at hy;subst hy;exact hn (e▸hx)⟩
def jAY (L:Pool) (S:List Way) (t:Int):Int×Int×Bool×Bool :=
 if inP L t=false then (0,0,false,false)
 else if jHS (nodeOf L t).kind=true then (0,0,true,true)
 else if (nodeOf L t).kind=4 then ((nodeOf L t).a,(nodeOf L t).b,false,true)
 else if (nodeOf L t).kind=5 then ((nodeOf L t).a,0,false,true)
 else if (nodeOf L t).kind=6 then (0,0,false,false)
 else ((nodeOf L t).a,(tA L (xL (nodeOf L t))).1,false,(tA L (xL (nodeOf L t))).2 && decide ((tA L (xL (nodeOf L t))).1∈zM S))
end Go.Sp
namespace Go.Proofs
open Tryz
attribute [local irreducible] Calls
theorem jWA (p:Addr) (n:Sp.Node) (w0:World) {L:Sp.Pool} {F:NP} (hP:zV w0 p L F) (hok:Sp.Ok L) :
  Calls prog 112 #[.pointer (some p),jDT n] w0 (fun e w'=>∃r:Int,∃ok:Bool,e=.returned (.tuple #[.int .i64 r,.bool ok])∧((match Sp.find L n with | some i=>r=(i:Int)+1∧ok=true | none=>r=0∧ok=false)∧Pure w0 w')):=by
 obtain ⟨k,f,t,u,x,a,b⟩:=n
 generalize hn:(⟨k,f,t,u,x,a,b⟩:Sp.Node)=n
 have hkey:(Value.agg #[.int .i64 k,.int .i64 f,.int .i64 t,.int .u64 u,.string x,.int .i64 a,.int .i64 b])=jDT n:=by rw [← hn];rfl
 rw [← hkey]
 refine w_N3 _ _ _ _ _ _ _ _ w0 (fun r ok w'=>(match Sp.find L n with | some i=>r=(i:Int)+1∧ok=true | none=>r=0∧ok=false)∧Pure w0 w') ?_
 unfold m_N3
 intro p2 w1 h1
 have b1:=Box.of_new h1
 have E1:Pure w0 w1:=Ext.new h1
 refine Br.f rfl ?_
 rintro _ rfl
 have Ed:Pure w1 w1.drew:=Ext.drew w1
 have E2:=E1.trans Ed
 obtain ⟨s,m,hS,hF⟩:=hP.pure E2
 refine ⟨p,rfl,_,hS.box.cell (i:=1) rfl,_,_,_,_,_,_,_,(b1.pure Ed).row,?_⟩
 rw [hkey]
 rcases hS.map.lookup (P:=prog) (T:=159) (E:=78) underlying159 jAL jCA ⟨n,rfl⟩ (zeroValue78 _) true with ⟨hnot,hrun⟩ | ⟨i,v,hi,hrun⟩
 ·refine ⟨_,_,hrun,?_,E2⟩
  rw [find_none (jMW hnot)];exact ⟨rfl,rfl⟩
 ·obtain ⟨e,he,hen,rfl⟩:=jMX hi
  refine ⟨_,_,hrun,?_,E2⟩
  rw [← hen,jFI hok he];exact ⟨by simp,rfl⟩
abbrev MakePost (p:Addr) (L:Sp.Pool) (F:NP) (w:World) (n:Sp.Node) (e:Ending) (w':World):Prop :=
 ∃r1:Int,∃r2:Int,e=.returned (.tuple #[.int .i64 r1,.int .i64 r2])∧((r1,r2)=((Sp.make L n).1,(Sp.make L n).2.1)∧∃F',zV w' p (Sp.make L n).2.2 F'∧Ext F w w'∧∀b,F' b→F b∨w.heap.size≤b)
section
variable (p:Addr) (w0:World) {L:Sp.Pool} {F:NP} (hP:zV w0 p L F) (hok:Sp.Ok L)
include hP hok
theorem c_Key (n:Int):Calls prog 50 #[.pointer (some p),.int .i64 n] w0 (MakePost p L F w0 ⟨6,n,0,0,⟨#[]⟩,0,0⟩):=by
 refine w_K3 _ _ w0 (fun r1 r2 w'=>(r1,r2)=((Sp.make L ⟨6,n,0,0,⟨#[]⟩,0,0⟩).1,(Sp.make L ⟨6,n,0,0,⟨#[]⟩,0,0⟩).2.1)∧∃F',zV w' p (Sp.make L ⟨6,n,0,0,⟨#[]⟩,0,0⟩).2.2 F'∧Ext F w0 w'∧∀b,F' b→F b∨w0.heap.size≤b) ?_;unfold m_K3;refine (jNN p _ _ _ _ _ _ _ w0 hP hok).mono ?_;rintro _ w1 ⟨r1,r2,rfl,h⟩;exact ⟨r1,r2,rfl,h⟩
end
theorem KnowS.appG {w:World} {k p:Addr} {G:List Int} {S:List Sp.Way} {ks:List Int} {sg sl:Sl} {m:Nat} (h:KnowS w k p G S ks sg m sl) {t:Int} {q:Addr} {w1:World} (hq:New w (.cells #[.int .i64 t] 78) q w1) (hn:G.length≤1000000):∃s1 w2,(Builtin.append_ #[54,54] 54 #[sg.v,(Sl.mk (some q) 1 1).v]).run prog w1=.ok s1.v w2∧Ext sg.blk w1 w2∧CanW w2 (k.add 1) ∧
  KnowS (w2.setCell (k.add 1) s1.v) k p (G++[t]) S ks s1 m sl∧Ext (KF k sg m sl) w (w2.setCell (k.add 1) s1.v)∧∀b,KF k s1 m sl b→KF k sg m sl b∨w.heap.size≤b:=by
 have E1:Pure w w1:=Ext.new hq
 have h1:=h.pure E1
 obtain ⟨s1,w2,hr,hR,hE,hb⟩:=h1.giv.append (P:=prog) (ty:=54) (c:=1) jMP (r:=[.int .i64 t]) (Box.of_new hq).row rfl rfl (by rw [qP];omega) (by rw [qP];simp [maxLen];omega)
 have hbx:=h1.box.ext hE h1.n2
 have hs1:∀b,s1.blk b→sg.blk b∨w.heap.size≤b:=fun b h=>(hb b h).imp_right (fun h=>by have:=E1.size;omega)
 have nk:¬ s1.blk k.block:=fun hh=>(hs1 _ hh).elim h.n2 (fun hh=>by have:=h.box.lt;omega)
 have nm:¬ s1.blk m:=fun hh=>(hs1 _ hh).elim h.n4 (fun hh=>by have:=h.seen.lt;omega)
 have E3:=Ext.setCell (w:=w2) (k.add 1) s1.v
 rw [zX] at E3
 refine ⟨s1,w2,hr,hE,hbx.canW (by simp),⟨hbx.set 1 s1.v,by rw [show tmr (G++[t])=tmr G++[[.int .i64 t]] by simp [tmr]];exact hR.ext E3 (fun b hb e=>nk (e▸hb)),((h1.seen.ext hE h.n4).ext E3 h.n1),((h1.list.ext hE (fun b h2 h1=>h.n6 b h1 h2)).ext E3 (fun b hb e=>h.n3 (e▸hb))),h.n1,nk,h.n3,nm,h.n5,fun b h1 h2=>(hs1 b h1).elim (fun h1=>h.n6 b h1 h2) (fun hh=>by have:=h.list.lt h2;omega)⟩,?_,?_⟩
 ·exact ((E1.pure (F:=KF k sg m sl)).trans (hE.mono (fun b _ hb=>.inr (.inl hb)))).trans (E3.mono (fun b _ hb=>.inl hb))
 ·rintro b (hb | hb | hb | hb)
  ·exact .inl (.inl hb)
  ·exact (hs1 b hb).imp_left (fun h=>.inr (.inl h))
  ·exact .inl (.inr (.inr (.inl hb)))
  ·exact .inl (.inr (.inr (.inr hb)))
theorem jKH (k p:Addr) (t:Int) (w0:World) {L:Sp.Pool} {G:List Int} {S:List Sp.Way} {F FP:NP} (h:qB w0 k p G S F) (hP:zV w0 p L FP) (hW:Sp.Wf L) (hd:∀b,F b→¬ FP b) (hk:Sp.KnowOk L G S) :
  Calls prog 47 #[.pointer (some k),.int .i64 t] w0 (fun e w'=>∃r:Int,e=.returned (.int .i64 r)∧(r=(if Sp.inP L t=true then 0 else 51)∧∃S' F',qB w' k p (Sp.jCW L G t) S' F'∧Sp.KnowOk L (Sp.jCW L G t) S'∧Ext F w0 w'∧∀b,F' b→F b∨w0.heap.size≤b)):=by
 suffices key:∀K:Int→WP,(∀S' F' w',qB w' k p (Sp.jCW L G t) S' F'→Sp.KnowOk L (Sp.jCW L G t) S'→Ext F w0 w'→(∀b,F' b→F b∨w0.heap.size≤b)→K (if Sp.inP L t=true then 0 else 51) w')→m_W1 (some k) t w0 K from
  w_W1 _ _ w0 _ (key _ (fun S' F' w' a b c d=>⟨rfl,S',F',a,b,c,d⟩))
 intro K hK
 unfold m_W1
 obtain ⟨sg,m,sl,k0,hF⟩:=h
 refine Br.f rfl ⟨k,rfl,_,k0.box.cell0,?_⟩
 refine (jGS p t w0 hP hW.ok).mono ?_
 rintro _ w1 ⟨nk,nf,nt,nu,nx,na,nb,ok,rfl,⟨_,rfl⟩,E1⟩
 refine ⟨_,_,_,_,_,_,_,_,rfl,E1.keptP,fun hc=>?_,fun hc=>?_⟩
 ·have hin:Sp.inP L t=false:=by simpa using hc
  intro H1 w3 hs3
  have E3:Pure w0 w3:=E1.hst hs3
  have hg:Sp.jCW L G t=G:=by unfold Sp.jCW;rw [if_neg (by simp [hin])]
  have:=hK S F w3 (by rw [hg];exact ⟨sg,m,sl,k0.pure E3,hF⟩) (by rw [hg];exact hk) E3.pure (fun b hb=>.inl hb)
  simpa [hin] using this
 have hin:Sp.inP L t=true:=by simpa using hc
 have hg:Sp.jCW L G t=Sp.jGU G t:=by unfold Sp.jCW;rw [if_pos hin]
 rw [hg] at hK
 simp only [hin,if_true] at hK
 refine ⟨k,rfl,?_⟩
 intro H1 w3 hs3
 have E3:Pure w0 w3:=E1.hst hs3
 have k3:=k0.pure E3
 have nh:∀b,b<w0.heap.size→¬ H1 b:=fun b hb hh=>by have:=hs3.old b hh;omega
 have hGn:G.length≤65536:=by have:=Sp.jAK hk.gnd (fun t ht=>hk.inp t (hk.giv t ht));have:=hW.ok.few;omega
 have fin:∀(w:World) (F':NP),qB w k p (Sp.jGU G t) S F'→Ext F w0 w→(∀b,F' b→F b∨w0.heap.size≤b)→Hst w0 H1 w H1 w→(∀b,F' b→¬ H1 b)→Calls prog 106 #[.pointer (some k),.int .i64 t,.agg #[.int .i64 0,.int .i64 0]] w (fun e w8=>e=.returned (.tuple #[])∧Kept H1 w w8∧K 0 w8):=by
  intro w F' hw hE hf hs hh;have hGs:∀x∈G,x∈Sp.jGU G t:=fun x hx=>Sp.yS.2 (.inl hx);have hPw:zV w p L FP:=hP.ext hE (fun b hb hfb=>hd b hfb hb);refine (jPH k p t 0 0 w hw hPw hW (fun b hb hp=>?_) (hk.toWaysOk.mono hGs) hk.closed hin (.inl ⟨rfl,rfl,Sp.yS.2 (.inr rfl)⟩)).mono ?_
  ·rcases hf b hb with h1 | h1
   ·exact hd b h1 hp
   ·have:=hP.lt hp;omega
  ·rintro _ w8 ⟨rfl,S',F2,K2,⟨q1,q2,q3,q4⟩,X2,f2⟩;have z:=hE.size;refine ⟨rfl,X2.kept (fun b hb hx=>hh b hx hb),hK S' F2 w8 K2 ⟨q1,q2,fun x hx=>?_,Sp.jWG hk.gnd⟩ (hE.trans' X2 (fun i hi hx=>(hf i hx).elim id (fun h=>by omega))) (fun b hb=>?_)⟩
   ·rcases Sp.yS.1 hx with hx | rfl
    ·exact q4 x (hk.giv x hx)
    ·exact q3
   ·rcases f2 b hb with h1 | h1
    ·exact hf b h1
    ·right;omega
 refine ⟨_,k3.box.cell rfl,?_⟩
 refine (jJV sg G t w3 k3.giv.lst (by omega)).mono ?_
 rintro _ w3 ⟨r,rfl,rfl,rfl⟩
 refine ⟨_,rfl,Kept.refl _,fun hc2=>?_,fun hc2=>?_⟩
 ·have hnG:t ∉ G:=by simpa using hc2
  have hadd:Sp.jGU G t=G++[t]:=if_neg hnG
  refine ⟨k,rfl,_,k3.box.cell rfl,?_⟩
  intro q w5 h5
  obtain ⟨s1,w6,hr6,X6,cw6,k6,E6,f6⟩:=k3.appG h5 (by omega)
  have hs5:Hst w0 H1 w5 H1 w5:=hs3.here.again (Ext.new h5:Pure w3 w5).keptP
  have sgn:∀b,sg.blk b→¬ H1 b:=fun b hb=>nh b (k0.lt (.inr (.inl hb)))
  have kk:Kept H1 w5 w6:=X6.kept (fun b hb hx=>sgn b hx hb)
  refine ⟨s1,w6,hr6,kk,k,rfl,cw6,by rw [zX];exact nh _ k0.box.lt,?_⟩
  rintro _ rfl
  have z3:=E3.size
  have z5:w3.heap.size≤w5.heap.size:=(Ext.new h5:Pure w3 w5).size
  refine fin _ (KF k s1 m sl) (by rw [hadd];exact ⟨s1,m,sl,k6,fun b=>Iff.rfl⟩) ((E3.pure (F:=F)).trans (E6.mono (fun b _ hb=>(hF b).2 hb))) (fun b hb=>(f6 b hb).imp (hF b).2 (fun h=>by omega)) ((hs5.again kk).again (Kept.setCell (by rw [zX];exact nh _ k0.box.lt))) (fun b hb hh=>?_)
  rcases f6 b hb with h1 | h1
  ·exact nh b (k0.lt h1) hh
  ·have:=hs3.lt b hh;omega
 ·have hG:t∈G:=by simpa using hc2
  have hadd:Sp.jGU G t=G:=if_pos hG
  exact fin w3 F (by rw [hadd];exact ⟨sg,m,sl,k3,hF⟩) E3.pure (fun b hb=>.inl hb) hs3.here (fun b hb=>nh b (k0.lt ((hF b).1 hb)))
theorem jPI (k p:Addr) (t:Int) (w0:World) {L:Sp.Pool} {G:List Int} {S:List Sp.Way} {F FP:NP} (h:qB w0 k p G S F) (hP:zV w0 p L FP) (hW:Sp.Wf L) :
  Calls prog 172 #[.pointer (some k),.int .i64 t] w0 (fun e w'=>∃r1:Int,∃r2:Int,∃r3:Bool,∃r4:Bool,e=.returned (.tuple #[.int .i64 r1,.int .i64 r2,.bool r3,.bool r4])∧((r1,r2,r3,r4)=Sp.jAY L S t∧Pure w0 w')):=by
 refine w_K1 _ _ w0 (fun r1 r2 r3 r4 w'=>(r1,r2,r3,r4)=Sp.jAY L S t∧Pure w0 w') ?_
 unfold m_K1
 obtain ⟨sg,m,sl,k0,hF⟩:=h
 refine ⟨k,rfl,_,k0.box.cell0,?_⟩
 refine (jGS p t w0 hP hW.ok).mono ?_
 rintro _ w1 ⟨nk,nf,nt,nu,nx,na,nb,ok,rfl,⟨hn,rfl⟩,E1⟩
 refine ⟨_,_,_,_,_,_,_,_,rfl,E1.keptP,fun hc=>?_,fun hc=>?_⟩
 ·intro H1 w3 hs3
  have hin:Sp.inP L t=false:=by simpa using hc
  exact ⟨by unfold Sp.jAY;rw [if_pos hin],E1.hst hs3⟩
 have hin:Sp.inP L t=true:=by simpa using hc
 have hi:¬ Sp.inP L t=false:=by simp [hin]
 rintro y1 rfl
 have hy:(cond ((nk:Int) == 1) ((nk:Int) == 1) (cond ((nk:Int) == 2) ((nk:Int) == 2) ((nk:Int) == 3)))=Sp.jHS nk:=by
  unfold Sp.jHS;cases (nk == 1) <;> cases (nk == 2) <;> simp
 rw [hy]
 have hk1:(Sp.nodeOf L t).kind=nk:=by rw [← hn]
 have hfr:(Sp.nodeOf L t).frm=nf:=by rw [← hn]
 have hto:(Sp.nodeOf L t).to=nt:=by rw [← hn]
 have ha:(Sp.nodeOf L t).a=na:=by rw [← hn]
 have hb:(Sp.nodeOf L t).b=nb:=by rw [← hn]
 refine ⟨fun h1=>?_,fun h1=>⟨fun h4=>?_,fun h4=>⟨fun h5=>?_,fun h5=>⟨fun h6=>?_,fun h6=>?_⟩⟩⟩⟩
 ·intro H2 w7 hs7
  exact ⟨by unfold Sp.jAY;rw [if_neg hi,hk1,if_pos h1],E1.hst hs7⟩
 ·intro H2 w7 hs7
  have h4':nk=4:=by simpa using h4
  exact ⟨by unfold Sp.jAY;rw [if_neg hi,hk1,if_neg (by simp [h1]),if_pos h4',ha,hb],E1.hst hs7⟩
 ·intro H2 w7 hs7
  have h4':¬ nk=4:=by simpa using h4
  have h5':nk=5:=by simpa using h5
  exact ⟨by unfold Sp.jAY;rw [if_neg hi,hk1,if_neg (by simp [h1]),if_neg h4',if_pos h5',ha],E1.hst hs7⟩
 ·intro H2 w7 hs7
  have h4':¬ nk=4:=by simpa using h4
  have h5':¬ nk=5:=by simpa using h5
  have h6':nk=6:=by simpa using h6
  exact ⟨by unfold Sp.jAY;rw [if_neg hi,hk1,if_neg (by simp [h1]),if_neg h4',if_neg h5',if_pos h6'],E1.hst hs7⟩
 ·have h4':¬ nk=4:=by simpa using h4
  have h5':¬ nk=5:=by simpa using h5
  have h6':¬ nk=6:=by simpa using h6
  intro H3 w9 hs9
  have E9:Pure w0 w9:=E1.hst hs9
  unfold m_K1_j1
  have k9:=k0.pure E9
  have hwho:(cond ((nk:Int) == 9) nt nf)=Sp.xL (Sp.nodeOf L t):=by
   unfold Sp.xL;rw [hk1,hfr,hto];by_cases h9:nk=9
   ·subst h9;simp
   ·rw [if_neg h9,show (nk == 9)=false from by simpa using h9];rfl
  rw [hwho]
  have hm:Sp.jAY L S t=(na,(Sp.tA L (Sp.xL (Sp.nodeOf L t))).1,false,(Sp.tA L (Sp.xL (Sp.nodeOf L t))).2 && decide ((Sp.tA L (Sp.xL (Sp.nodeOf L t))).1∈Sp.zM S)):=by
   unfold Sp.jAY;rw [if_neg hi,hk1,if_neg (by simp [h1]),if_neg h4',if_neg h5',if_neg h6',ha]
  refine ⟨k,rfl,_,k9.box.cell0,?_⟩
  refine (jWA p (Sp.vJ (Sp.xL (Sp.nodeOf L t))) w9 (hP.pure E9) hW.ok).mono ?_
  rintro _ w10 ⟨r2,r3,rfl,hr,E10⟩
  refine ⟨r2,r3,rfl,E10.keptP,?_⟩
  have Ed:Pure w10 w10.drew:=Ext.drew w10
  refine ⟨fun _=>True,trivial,?_⟩
  rintro _ rfl
  have E11:=(E9.trans E10).trans Ed
  have hke:Sp.tA L (Sp.xL (Sp.nodeOf L t))=(r2,r3):=by
   unfold Sp.tA;cases hf:Sp.find L (Sp.vJ (Sp.xL (Sp.nodeOf L t))) with
   | none=>rw [hf] at hr;simp only at hr;rw [hr.1,hr.2]
   | some i=>rw [hf] at hr;simp only at hr;rw [hr.1,hr.2]
  rw [hm,hke]
  refine ⟨fun h=>?_,fun h=>?_⟩
  ·subst h
   refine (jGR k p r2 w10.drew ⟨sg,m,sl,k0.pure E11,hF⟩).mono ?_
   rintro _ w12 ⟨r4,rfl,rfl,E12⟩
   exact ⟨_,rfl,trivial,E12.keptP,by simp,E11.trans E12⟩
  ·subst h
   exact ⟨by simp,E11⟩
end Go.Proofs
end
section
open Go Go.SE
namespace Go.Proofs
attribute [local irreducible] Calls
theorem uL (k:Int):(k=1∨k=2∨k=3∨k=4∨k=5∨k=6∨k=7∨k=8∨k=9)∨(Sp.shapeOf k=Sp.noShape∧Sp.isKind k=false∧∀m:Int,1≤m→m≤9→(k == m)=false):=by
 by_cases h:k=1∨k=2∨k=3∨k=4∨k=5∨k=6∨k=7∨k=8∨k=9
 ·exact .inl h
 ·right;refine ⟨?_,?_,fun m h1 h2=>?_⟩
  ·unfold Sp.shapeOf;repeat rw [if_neg (by omega)]
  ·unfold Sp.isKind;apply Bool.eq_false_iff.2;intro h3;simp at h3;omega
  ·rw [beq_eq_false_iff_ne];omega
theorem xG (k:Int):s_A k=(Sp.shapeOf k).kids:=by
 rcases uL k with h | ⟨h,_,hm⟩
 ·rcases h with rfl | rfl | rfl | rfl | rfl | rfl | rfl | rfl | rfl <;> decide
 ·rw [h];unfold s_A;simp [hm,Sp.noShape]
theorem jES (k:Int):s_C k=(Sp.shapeOf k).frm:=by
 rcases uL k with h | ⟨h,_,hm⟩
 ·rcases h with rfl | rfl | rfl | rfl | rfl | rfl | rfl | rfl | rfl <;> decide
 ·rw [h];unfold s_C;simp [hm,Sp.noShape]
theorem jIQ (k:Int):((k == 8) || (k == 9))=(Sp.shapeOf k).to:=by
 rcases uL k with h | ⟨h,_,hm⟩
 ·rcases h with rfl | rfl | rfl | rfl | rfl | rfl | rfl | rfl | rfl <;> decide
 ·rw [h];simp [hm,Sp.noShape]
theorem jQB (k:Int):(k == 2)=(Sp.shapeOf k).num:=by
 rcases uL k with h | ⟨h,_,hm⟩
 ·rcases h with rfl | rfl | rfl | rfl | rfl | rfl | rfl | rfl | rfl <;> decide
 ·rw [h];simp [hm,Sp.noShape]
theorem jOC (k:Int):(k == 3)=(Sp.shapeOf k).text:=by
 rcases uL k with h | ⟨h,_,hm⟩
 ·rcases h with rfl | rfl | rfl | rfl | rfl | rfl | rfl | rfl | rfl <;> decide
 ·rw [h];simp [hm,Sp.noShape]
theorem jOD (k:Int):(!(decide (k<1) || decide (k>9)))=Sp.isKind k:=by
 unfold Sp.isKind;by_cases h1:k<1 <;> by_cases h2:k>9 <;> simp [h1,h2] <;> omega
theorem ite53 (q:Bool):decide ((if q=true then (53:Int) else 0)=0)=!q:=by cases q <;> rfl
def Sp.nodeErr (n:Sp.Node):Int :=
 if Sp.vA n≠0 then 53 else if (decide ((Sp.shapeOf n.kind).kids<1) && n.a != 0) || (decide ((Sp.shapeOf n.kind).kids<2) && n.b != 0) then 53 else Sp.zZ (Sp.shapeOf n.kind) n
theorem jLI (n:Sp.Node):s_Z n.kind n.frm n.to n.num n.text n.a n.b=(decide (Sp.vA n=0) && !((decide ((Sp.shapeOf n.kind).kids<1) && n.a != 0) || (decide ((Sp.shapeOf n.kind).kids<2) && n.b != 0))):=by
 obtain ⟨k,f,t,u,x,a,b⟩:=n;unfold s_Z Sp.vA;simp only [xG,jES,jIQ k,jQB k,jOC k,jOD];have hk:=Sp.yO k;generalize Sp.shapeOf k=s at *;obtain ⟨s1,s2,s3,s4,s5⟩:=s;generalize Sp.isKind k=i;have e1:decide (s5≥1)=!decide (s5<1):=by by_cases h:s5<1 <;> simp [h] <;> omega
 have e2:(s5 == 2)=!decide (s5<2):=by
  by_cases h:s5<2
  ·simp [h];omega
  ·simp [h];simp at hk;omega
 simp only [e1,e2,bne,ite53];generalize (f == 0)=c1;generalize (t == 0)=c2;generalize (u == 0)=c3;generalize decide (x=⟨#[]⟩)=c4;generalize (a == 0)=c5;generalize (b == 0)=c6;generalize decide (s5<1)=c7;generalize decide (s5<2)=c8;cases i <;> cases s1 <;> cases s2 <;> cases s3 <;> cases s4 <;> cases c1 <;> cases c2 <;> cases c3 <;> cases c4 <;> simp
theorem jER (n:Sp.Node):s_J n.kind n.frm n.to n.num n.text n.a n.b=Sp.nodeErr n:=by
 unfold s_J Sp.nodeErr;rw [jLI,jES,jIQ];by_cases h1:Sp.vA n=0
 ·by_cases h2:((decide ((Sp.shapeOf n.kind).kids<1) && n.a != 0) || (decide ((Sp.shapeOf n.kind).kids<2) && n.b != 0))=true
  ·rw [h2];simp [h1]
  ·have h2:((decide ((Sp.shapeOf n.kind).kids<1) && n.a != 0) || (decide ((Sp.shapeOf n.kind).kids<2) && n.b != 0))=false:=by simpa using h2
   rw [h2];simp only [h1,ne_eq,not_true_eq_false,if_false,Bool.false_eq_true,decide_true,Bool.not_false,Bool.and_true,Bool.not_true,cond_false];unfold Sp.zZ Sp.lG;have e1:(decide (n.frm≥0) && decide (n.frm<16))=(decide (0≤n.frm) && decide (n.frm<16)):=rfl;have e2:(decide (n.to≥0) && decide (n.to<16))=(decide (0≤n.to) && decide (n.to<16)):=rfl;have e3:(n.frm == n.to)=(n.to == n.frm):=by rw [Bool.eq_iff_iff];simp only [beq_iff_eq];exact eq_comm
   rw [e1,e2,e3];have e4:decide (((n.text.size:Int))>64)=decide (n.text.size>64):=decide_eq_decide.2 (by omega);rw [e4];generalize ((Sp.shapeOf n.kind).frm && !(decide (0≤n.frm) && decide (n.frm<16)) || (Sp.shapeOf n.kind).to && (!(decide (0≤n.to) && decide (n.to<16)) || n.to == n.frm))=c;cases c
   ·by_cases h:n.text.size>64 <;> simp [h]
   ·rfl
 ·simp [h1]
end Go.Proofs
end
section
open Go Go.SE
namespace Go.Proofs
open Tryz
attribute [local irreducible] Calls
theorem jMQ:SlType prog 49 127 7 64:=by
 refine ⟨underlying49,⟨t127,_,by kernel_rfl,(by kernel_rfl:t127.zero=some (.agg #[.int .i64 0,.int .i64 0,.int .i64 0,.int .u64 0,.string ⟨#[]⟩,.int .i64 0,.int .i64 0])),by kernel_rfl,by kernel_rfl,rfl⟩,by omega⟩
theorem jCP:SlType prog 50 3 1 8:=by
 refine ⟨underlying50,⟨t3,_,by kernel_rfl,(by kernel_rfl:t3.zero=some (.int .i64 0)),by kernel_rfl,by kernel_rfl,rfl⟩,by omega⟩
def jSZ (e:Sp.Ent):List Value:=uU e.node
def jVH (e:Sp.Ent):List Value:=[.int .i64 e.size]
def jQJ (e:Sp.Ent):List Value:=[.int .i64 e.depth]
structure PoolRS (w:World) (p:Addr) (L:Sp.Pool) (s1 s2 s3:Sl):Prop where
 box:Box w p [s1.v,s2.v,s3.v] 52
 r1:Rws w 127 7 s1 (L.map jSZ)
 r2:Rws w 3 1 s2 (L.map jVH)
 r3:Rws w 3 1 s3 (L.map jQJ)
 n1:¬ s1.blk p.block
 n2:¬ s2.blk p.block
 n3:¬ s3.blk p.block
 d12:∀b,s1.blk b→¬ s2.blk b
 d13:∀b,s1.blk b→¬ s3.blk b
 d23:∀b,s2.blk b→¬ s3.blk b
def yB (w:World) (p:Addr) (L:Sp.Pool) (F:NP):Prop:=∃s1 s2 s3,PoolRS w p L s1 s2 s3∧∀b,F b↔(b=p.block∨s1.blk b∨s2.blk b∨s3.blk b)
theorem yB.ext {G:NP} {w w':World} {p:Addr} {L:Sp.Pool} {F:NP} (h:yB w p L F) (hE:Ext G w w') (hd:∀b,F b→¬ G b):yB w' p L F:=by
 obtain ⟨s1,s2,s3,h,hF⟩:=h;exact ⟨s1,s2,s3,⟨h.box.ext hE (hd _ ((hF _).2 (.inl rfl))),h.r1.ext hE (fun b hb=>hd _ ((hF _).2 (.inr (.inl hb)))),h.r2.ext hE (fun b hb=>hd _ ((hF _).2 (.inr (.inr (.inl hb))))),h.r3.ext hE (fun b hb=>hd _ ((hF _).2 (.inr (.inr (.inr hb))))),h.n1,h.n2,h.n3,h.d12,h.d13,h.d23⟩,hF⟩
theorem yB.pure {w w':World} {p:Addr} {L:Sp.Pool} {F:NP} (h:yB w p L F) (hE:Pure w w'):yB w' p L F:=h.ext hE (fun _ _ h=>h)
theorem yB.lt {w:World} {p:Addr} {L:Sp.Pool} {F:NP} (h:yB w p L F) {b:Nat} (hb:F b):b<w.heap.size:=by
 obtain ⟨s1,s2,s3,h,hF⟩:=h;rcases (hF b).1 hb with rfl | hb | hb | hb
 ·exact h.box.lt
 ·exact h.r1.lt hb
 ·exact h.r2.lt hb
 ·exact h.r3.lt hb
theorem jLW (w0:World):Calls prog 54 #[] w0 (fun e w'=>∃r:Option Addr,e=.returned (.pointer r)∧∃p F,r=some p∧yB w' p [] F∧Pure w0 w'∧∀b,F b→w0.heap.size≤b):=by
 refine w_K2 w0 (fun r w'=>∃p F,r=some p∧yB w' p [] F∧Pure w0 w'∧∀b,F b→w0.heap.size≤b) ?_;unfold m_K2;have hnil:∀b,¬ Sl.nil.blk b:=fun b hb=>by obtain ⟨a,h,_⟩:=hb;cases h
 intro p w1 h1;have b1:=Box.of_new h1;have E1:Pure w0 w1:=Ext.new h1
 first
  | exact ⟨p,(·=p.block),rfl,⟨Sl.nil,Sl.nil,Sl.nil,⟨b1,Rws.nil _ _ _,Rws.nil _ _ _,Rws.nil _ _ _,hnil _,hnil _,hnil _,fun b h=>(hnil b h).elim,fun b h=>(hnil b h).elim,fun b h=>(hnil b h).elim⟩,fun b=>by simp [hnil]⟩,E1,fun b hb=>by subst hb;exact New.own (Ext.refl w0) h1⟩
  | skip
theorem xK (p:Addr) (t:Int) (w0:World) {L:Sp.Pool} {F:NP} (hP:yB w0 p L F):Calls prog 122 #[.pointer (some p),.int .i64 t] w0 (fun e w'=>∃r:Bool,e=.returned (.bool r)∧(r=Sp.inP L t∧w'=w0)):=by
 refine w_J2 _ _ w0 (fun r w'=>r=Sp.inP L t∧w'=w0) ?_;unfold m_J2;obtain ⟨s1,s2,s3,h,hF⟩:=hP;have hl:s1.len=L.length:=by rw [h.r1.len];simp
 refine ⟨fun hc=>⟨p,rfl,s1,h.box.cell0,?_,rfl⟩,fun hc=>⟨?_,rfl⟩⟩
 ·have:=of_decide_eq_true hc;rw [hl];simp [Sp.inP,this]
 ·have:=of_decide_eq_false hc;simp [Sp.inP];omega
theorem PoolRS.at1 {w:World} {p:Addr} {L:Sp.Pool} {s1 s2 s3:Sl} (h:PoolRS w p L s1 s2 s3) {t:Int} (ht:Sp.inP L t=true) (hok:Sp.Ok L):∃e,Sp.get L t=some e ∧
  (∃a,At s1 (IntKind.i64.wrap (t - 1)) 7 a∧Row w a (jSZ e))∧(∃a,At s2 (IntKind.i64.wrap (t - 1)) 1 a∧Row w a (jVH e))∧(∃a,At s3 (IntKind.i64.wrap (t - 1)) 1 a∧Row w a (jQJ e)):=by
 obtain ⟨e,he,_,hi,hLe⟩:=Sp.jCG ht
 have hin:=Sp.zY.1 ht
 have hf:=hok.few
 have hw:IntKind.i64.wrap (t - 1)=((t - 1).toNat:Int):=by rw [i64 (by omega) (by omega)];omega
 obtain ⟨a1,h1,g1⟩:=h.r1.nth (j:=(t - 1).toNat) hi
 obtain ⟨a2,h2,g2⟩:=h.r2.nth (j:=(t - 1).toNat) hi
 obtain ⟨a3,h3,g3⟩:=h.r3.nth (j:=(t - 1).toNat) hi
 rw [hLe] at g1 g2 g3
 rw [hw]
 exact ⟨e,he,⟨a1,h1,g1⟩,⟨a2,h2,g2⟩,⟨a3,h3,g3⟩⟩
theorem jDO (p:Addr) (t:Int) (w0:World) {L:Sp.Pool} {F:NP} (hP:yB w0 p L F) (hok:Sp.Ok L):Calls prog 123 #[.pointer (some p),.int .i64 t] w0 (fun e w'=>∃r:Int,e=.returned (.int .i64 r)∧(r=Sp.sizeOf L t∧w'=w0)):=by
 refine w_L2 _ _ w0 (fun r w'=>r=Sp.sizeOf L t∧w'=w0) ?_;unfold m_L2;refine (xK p t w0 hP).mono ?_;rintro _ _ ⟨_,rfl,rfl,rfl⟩;refine ⟨_,rfl,fun h=>⟨?_,rfl⟩,fun h=>?_⟩
 ·have h:Sp.inP L t=false:=by simpa using h
  simp [Sp.sizeOf,Sp.xB h]
 ·have h:Sp.inP L t=true:=by simpa using h
  obtain ⟨s1,s2,s3,hS,hF⟩:=hP;obtain ⟨e,he,_,⟨a,hat,hr⟩,_⟩:=hS.at1 h hok;exact ⟨p,rfl,s2,hS.box.cell rfl,a,hat,_,jBU hr,by simp [Sp.sizeOf,he],rfl⟩
theorem jCI (p:Addr) (t:Int) (w0:World) {L:Sp.Pool} {F:NP} (hP:yB w0 p L F) (hok:Sp.Ok L):Calls prog 131 #[.pointer (some p),.int .i64 t] w0 (fun e w'=>∃r:Int,e=.returned (.int .i64 r)∧(r=Sp.depthOf L t∧w'=w0)):=by
 refine w_M2 _ _ w0 (fun r w'=>r=Sp.depthOf L t∧w'=w0) ?_;unfold m_M2;refine (xK p t w0 hP).mono ?_;rintro _ _ ⟨_,rfl,rfl,rfl⟩;refine ⟨_,rfl,fun h=>⟨?_,rfl⟩,fun h=>?_⟩
 ·have h:Sp.inP L t=false:=by simpa using h
  simp [Sp.depthOf,Sp.xB h]
 ·have h:Sp.inP L t=true:=by simpa using h
  obtain ⟨s1,s2,s3,hS,hF⟩:=hP;obtain ⟨e,he,_,_,⟨a,hat,hr⟩⟩:=hS.at1 h hok;exact ⟨p,rfl,s3,hS.box.cell rfl,a,hat,_,jBU hr,by simp [Sp.depthOf,he],rfl⟩
theorem jTM (m n:Sp.Node):((m.kind == n.kind) && ((m.frm == n.frm) && ((m.to == n.to) && ((m.num == n.num) && ((decide (m.text=n.text)) && ((m.a == n.a) && (m.b == n.b)))))))=decide (m=n):=by
 obtain ⟨k,f,t,u,x,a,b⟩:=m;obtain ⟨k',f',t',u',x',a',b'⟩:=n;rw [Bool.eq_iff_iff];simp
theorem jLX (p:Addr) (n:Sp.Node) (w0:World) {L:Sp.Pool} {F:NP} (hP:yB w0 p L F) (hok:Sp.Ok L):Calls prog 132 #[.pointer (some p),jDT n] w0
  (fun e w'=>∃r:Int,∃ok:Bool,e=.returned (.tuple #[.int .i64 r,.bool ok])∧((match Sp.find L n with | some i=>r=(i:Int)+1∧ok=true | none=>r=0∧ok=false)∧Pure w0 w')):=by
 obtain ⟨k,f,t,u,x,a,b⟩:=n
 generalize hn:(⟨k,f,t,u,x,a,b⟩:Sp.Node)=n
 have hnk:jDT n=.agg #[.int .i64 k,.int .i64 f,.int .i64 t,.int .u64 u,.string x,.int .i64 a,.int .i64 b]:=by rw [← hn];rfl
 rw [hnk]
 suffices key:∀K:Int→Bool→WP,(∀r ok w',((match Sp.find L n with | some i=>r=(i:Int)+1∧ok=true | none=>r=0∧ok=false)∧Pure w0 w')→K r ok w')→m_D1 (some p) k f t u x a b w0 K from
  w_D1 _ _ _ _ _ _ _ _ w0 _ (key _ (fun _ _ _ h=>h))
 intro K hK
 unfold m_D1
 intro H1 w1 hs1
 refine ⟨fun i H w'=>∃j:Nat,i=j∧j≤L.length∧Pure w0 w'∧∀q,q<j→∀e,L[q]?=some e→e.node≠n,fun i _=>((L.length:Int) - i).toNat,⟨0,rfl,Nat.zero_le _,hs1.first,fun q hq=>absurd hq (by omega)⟩,?_⟩
 rintro _ Hl wl hl ⟨j,rfl,hj,El,hno⟩
 unfold m_D1_l1
 obtain ⟨s1,s2,s3,hS,hF⟩:=hP.pure El
 have hf:=hok.few
 have hlen:s1.len=L.length:=by rw [hS.r1.len];simp
 refine ⟨p,rfl,s1,hS.box.cell0,fun h=>?_,fun h=>?_⟩
 ·have hlt:=uC hlen h
  refine ⟨p,rfl,?_⟩
  intro w2 hs2
  have E2:=El.hst hs2
  obtain ⟨s1',s2',s3',hS',_⟩:=hP.pure E2
  obtain ⟨a',hat,hr⟩:=hS'.r1.nth hlt
  refine ⟨s1',hS'.box.cell0,a',hat,_,_,_,_,_,_,_,hr,?_⟩
  have hB:=jTM L[j].node n
  rw [← hn] at hB
  simp only at hB
  rw [hB,hn]
  refine ⟨fun h=>?_,fun h=>?_⟩
  ·have h:=of_decide_eq_true h
   rw [vV hlt (by omega)]
   refine hK _ _ _ ⟨?_,E2⟩
   have hfd:Sp.find L n=some j:=by
    unfold Sp.find;rw [List.findIdx?_eq_some_iff_getElem];exact ⟨hlt,by simp [h],fun q hq=>by simpa using hno q hq _ (List.getElem?_eq_getElem (by omega))⟩
   rw [hfd];exact ⟨by omega,rfl⟩
  ·have h:=of_decide_eq_false h
   rw [vV hlt (by omega)]
   refine ⟨⟨j+1,rfl,hlt,E2,fun q hq e he=>?_⟩,jCE hlt⟩
   by_cases hqj:q=j
   ·subst hqj;rw [List.getElem?_eq_getElem hlt] at he;cases he;exact h
   ·exact hno q (by omega) e he
 ·have hge:=xU hlen hj h
  subst hge
  refine hK _ _ _ ⟨?_,El⟩
  have hfd:Sp.find L n=none:=find_none (fun e he=>by
   obtain ⟨q,hq,rfl⟩:=List.mem_iff_getElem.1 he;exact hno q hq _ (List.getElem?_eq_getElem hq))
  rw [hfd];exact ⟨rfl,rfl⟩
theorem jFN {P:Program} {t ty e:TypeId} {sz bytes:Nat} (T:SlType P t e sz bytes) {w:World} {p:Addr} {c:List Value} {Tp:TypeId} (hB:Box w p c Tp) {s:Sl} {rs:List (List Value)} (hR:Rws w e sz s rs) (hp:¬ s.blk p.block) {a:Addr} {r:List Value} (hr:Row w a r) (hl:r.length=sz) (h1:r.all qY=true) (hb:(rs.length+1)*bytes≤140737488355328) (hm:rs.length+1≤maxLen) :
  ∃s' w',(Builtin.append_ #[t,t] ty #[s.v,(Sl.mk (some a) 1 1).v]).run P w=.ok s'.v w'∧Rws w' e sz s' (rs++[r])∧Box w' p c Tp∧¬ s'.blk p.block∧Ext s.blk w w'∧(∀b,s'.blk b→s.blk b∨w.heap.size≤b):=by
 obtain ⟨s',w',hr',hR',hE,hb'⟩:=hR.append T (ty:=ty) (c:=1) hr hl h1 hb hm
 exact ⟨s',w',hr',hR',hB.ext hE hp,fun h=>(hb' _ h).elim hp (fun h=>by have:=hB.lt;omega),hE,hb'⟩
theorem jDG (n:Sp.Node):Sp.vA n=53∨Sp.vA n=0:=by
 unfold Sp.vA;simp only;split
 ·exact .inl rfl
 ·exact .inr rfl
theorem jKD (p:Addr) (n:Sp.Node) (w0:World) {L:Sp.Pool} {F:NP} (hP:yB w0 p L F) (hok:Sp.Ok L):Calls prog 68 #[.pointer (some p),jDT n] w0
  (fun e w'=>∃r1 r2:Int,e=.returned (.tuple #[.int .i64 r1,.int .i64 r2])∧((r1,r2)=((Sp.make L n).1,(Sp.make L n).2.1)∧∃F',yB w' p (Sp.make L n).2.2 F'∧Ext F w0 w'∧∀b,F' b→F b∨w0.heap.size≤b)):=by
 obtain ⟨k,f,t,u,x,a,b⟩:=n
 generalize hn:(⟨k,f,t,u,x,a,b⟩:Sp.Node)=n
 have hnk:jDT n=.agg #[.int .i64 k,.int .i64 f,.int .i64 t,.int .u64 u,.string x,.int .i64 a,.int .i64 b]:=by rw [← hn];rfl
 rw [hnk]
 suffices key:∀K:Int→Int→WP,(∀r1 r2 w',((r1,r2)=((Sp.make L n).1,(Sp.make L n).2.1)∧∃F',yB w' p (Sp.make L n).2.2 F'∧Ext F w0 w'∧∀b,F' b→F b∨w0.heap.size≤b)→K r1 r2 w')→m_O (some p) k f t u x a b w0 K from
  w_O _ _ _ _ _ _ _ _ w0 _ (key _ (fun _ _ _ h=>h))
 intro K hK
 have hsh:=jER n
 have hkd:=xG k
 rw [← hn] at hsh
 simp only at hsh
 rw [hn] at hsh
 have hna:n.a=a:=by rw [← hn]
 have hnb:n.b=b:=by rw [← hn]
 have hnkk:n.kind=k:=by rw [← hn]
 have hk:=Sp.yO k
 have same:∀(r1 r2:Int) (w':World),Pure w0 w'→Sp.make L n=(r1,r2,L)→K r1 r2 w':=fun r1 r2 w' E h=>hK _ _ _ ⟨by rw [h],F,by rw [h];exact hP.pure E,E.pure,fun b h=>.inl h⟩
 have bad:∀(er:Int) (w':World),er≠0→Pure w0 w'→Sp.check L n=(0,0,er)→K 0 er w':=fun er w' h0 E h=>same 0 er w' E (by unfold Sp.make;simp [h,h0])
 unfold m_O
 rw [hsh,hkd]
 have good:Sp.nodeErr n=0→Sp.check L n=(if (Sp.zI n).any (fun t=>!Sp.inP L t) then (0,0,51) else if 1+((Sp.zI n).map (Sp.sizeOf L)).sum>4096∨(Sp.zI n).foldl (fun d t=>max d (Sp.depthOf L t)) 0+1>64 then (0,0,52) else (1+((Sp.zI n).map (Sp.sizeOf L)).sum,(Sp.zI n).foldl (fun d t=>max d (Sp.depthOf L t)) 0+1,0)):=by
  intro h;unfold Sp.nodeErr at h;unfold Sp.check;split at h
  ·cases h
  ·rename_i h1;simp only;rw [if_neg h1];split at h
   ·cases h
   ·rename_i h2;rw [if_neg h2,if_neg (by simpa using h)]
 refine ⟨fun h=>?_,fun h=>?_⟩
 ·intro H1 w2 hs2
  have h:Sp.nodeErr n≠0:=by simpa using h
  refine bad _ _ h hs2.first ?_
  unfold Sp.nodeErr at h ⊢
  unfold Sp.check
  by_cases h1:Sp.vA n≠0
  ·rw [if_pos h1,if_pos h1]
   have:Sp.vA n=53:=(jDG n).resolve_right h1
   rw [this]
  ·rw [if_neg h1] at h ⊢
   simp only
   rw [if_neg h1]
   by_cases h2:((decide ((Sp.shapeOf n.kind).kids<1) && n.a != 0) || (decide ((Sp.shapeOf n.kind).kids<2) && n.b != 0))=true
   ·rw [if_pos h2,if_pos h2]
   ·rw [if_neg h2] at h ⊢;rw [if_neg h2,if_pos h]
 have h0:Sp.nodeErr n=0:=by simpa using h
 have hchk:=good h0
 have hzero:((Sp.shapeOf k).kids<1→a=0)∧((Sp.shapeOf k).kids<2→b=0):=by
  unfold Sp.nodeErr at h0;split at h0
  ·cases h0
  ·split at h0
   ·cases h0
   ·rename_i _ h2;rw [hnkk,hna,hnb] at h2;simp at h2;exact h2
 have hz0:Sp.inP L 0=false:=by simp [Sp.inP]
 have hs0:Sp.sizeOf L 0=0:=by simp [Sp.sizeOf,Sp.get,hz0]
 have hd0:Sp.depthOf L 0=0:=by simp [Sp.depthOf,Sp.get,hz0]
 have hsa:=hok.sizeOf a
 have hsb:=hok.sizeOf b
 have hda:=hok.depthOf a
 have hdb:=hok.depthOf b
 have hany:(Sp.zI n).any (fun t=>!Sp.inP L t)=((decide (1≤(Sp.shapeOf k).kids) && !Sp.inP L a) || (decide ((Sp.shapeOf k).kids=2) && !Sp.inP L b)):=by
  unfold Sp.zI;rw [hnkk,hna,hnb];rcases hk with h | h | h <;> rw [h] <;> simp
 have hsum:((Sp.zI n).map (Sp.sizeOf L)).sum=Sp.sizeOf L a+Sp.sizeOf L b:=by
  unfold Sp.zI;rw [hnkk,hna,hnb];rcases hk with h | h | h <;> rw [h] <;> simp
  ·rw [hzero.1 (by omega),hzero.2 (by omega),hs0];rfl
  ·rw [hzero.2 (by omega),hs0];omega
 have hmax:(Sp.zI n).foldl (fun d t=>max d (Sp.depthOf L t)) 0=max (Sp.depthOf L a) (Sp.depthOf L b):=by
  unfold Sp.zI;rw [hnkk,hna,hnb];rcases hk with h | h | h <;> rw [h] <;> simp
  ·rw [hzero.1 (by omega),hzero.2 (by omega),hd0];omega
  ·rw [hzero.2 (by omega),hd0];omega
  ·omega
 rw [hany,hsum,hmax] at hchk
 have J1:∀(x1:Bool) (H:NP) (w:World),Hst w0 H w H w→Pure w0 w→x1=((decide (1≤(Sp.shapeOf k).kids) && !Sp.inP L a) || (decide ((Sp.shapeOf k).kids=2) && !Sp.inP L b))→m_O_j1 (some p) k f t u x a b x1 w0 H w K:=by
  intro x1 H w hs E hx;rw [← hx] at hchk;unfold m_O_j1;refine ⟨fun h=>bad 51 w (by omega) E (by rw [hchk,h];rfl),fun h=>?_⟩;rw [h,if_neg (by simp)] at hchk;refine ⟨fun _=>True,trivial,?_⟩;rintro _ rfl;have Ed:Pure w0 w.drew:=E.trans (Ext.drew w);refine (jDO p a w.drew (hP.pure Ed) hok).mono ?_;rintro _ _ ⟨_,rfl,rfl,rfl⟩;refine ⟨_,rfl,trivial,Kept.refl _,?_⟩;refine (jDO p b w.drew (hP.pure Ed) hok).mono ?_;rintro _ _ ⟨_,rfl,rfl,rfl⟩;refine ⟨_,rfl,trivial,Kept.refl _,fun _=>True,trivial,?_⟩;rintro _ rfl;have Ed2:Pure w0 w.drew.drew:=Ed.trans (Ext.drew w.drew);refine (jCI p a w.drew.drew (hP.pure Ed2) hok).mono ?_;rintro _ _ ⟨_,rfl,rfl,rfl⟩;refine ⟨_,rfl,trivial,Kept.refl _,?_⟩;refine (jCI p b w.drew.drew (hP.pure Ed2) hok).mono ?_;rintro _ _ ⟨_,rfl,rfl,rfl⟩;refine ⟨_,rfl,trivial,Kept.refl _,_,fun w' _=>run_max_int2 _ _ _ _ _ _ _,?_⟩;have hmx:(if Sp.depthOf L b>Sp.depthOf L a then Sp.depthOf L b else Sp.depthOf L a)=max (Sp.depthOf L a) (Sp.depthOf L b):=by
   split <;> omega
  generalize hz:(if Sp.depthOf L b>Sp.depthOf L a then Sp.depthOf L b else Sp.depthOf L a)=z at *;have hz64:0≤z∧z≤64:=by rw [hmx];omega
  have e1:IntKind.i64.wrap (IntKind.i64.wrap (1+Sp.sizeOf L a)+Sp.sizeOf L b)=1+(Sp.sizeOf L a+Sp.sizeOf L b):=by
   rw [i64 (n:=1+Sp.sizeOf L a) (by omega) (by omega),i64 (by omega) (by omega)];omega
  have e2:IntKind.i64.wrap (1+z)=z+1:=by rw [i64 (by omega) (by omega)];omega
  rw [e1,e2];rw [← hmx] at hchk;rintro y1 rfl;have hsx:Hst w0 H w.drew.drew H w.drew.drew:=(hs.drew.here.drew).here;refine ⟨fun h=>?_,fun h=>?_⟩
  ·intro H2 w10 hs10;refine bad 52 w10 (by omega) (Ed2.hst hs10) ?_;rw [hchk,if_pos (by simpa using h)]
  ·intro H2 w10 hs10;have hck:Sp.check L n=(1+(Sp.sizeOf L a+Sp.sizeOf L b),z+1,0):=by rw [hchk,if_neg (by simp at h;omega)]
   have E10:=Ed2.hst hs10;rw [← hnk];refine (jLX p n w10 (hP.pure E10) hok).mono ?_;rintro _ w11 ⟨r,ok,rfl,hfd,E11⟩;refine ⟨_,_,rfl,E11.keptP,?_⟩;have E11':=E10.trans E11;have hs11:Hst w0 H2 w11 H2 w11:=hs10.again E11.keptP;cases hf:Sp.find L n with
   | some i =>
    rw [hf] at hfd
    obtain ⟨rfl,rfl⟩:=hfd
    exact Br.t rfl (same _ _ _ E11' (by unfold Sp.make;simp [hck,hf]))
   | none =>
    rw [hf] at hfd
    obtain ⟨rfl,rfl⟩:=hfd
    refine Br.f rfl ?_
    obtain ⟨s1,s2,s3,hS,hF⟩:=hP.pure E11'
    have hlen:s1.len=L.length:=by rw [hS.r1.len];simp
    refine ⟨p,rfl,s1,hS.box.cell0,fun h=>?_,fun h=>?_⟩
    ·have h2:65536≤L.length:=by have h:=of_decide_eq_true h;omega
     exact same _ _ _ E11' (by unfold Sp.make;simp [hck,hf,h2])
    ·have h2:¬ 65536≤L.length:=by have h:=of_decide_eq_false h;omega
     have hmk:Sp.make L n=((L.length:Int)+1,0,L++[⟨n,1+(Sp.sizeOf L a+Sp.sizeOf L b),z+1⟩]):=by unfold Sp.make;simp [hck,hf,h2]
     have hvis:∀b,F b→¬ H2 b:=fun b hb h2=>by have:=hP.lt hb;have:=hs11.old b h2;omega
     have hpF:F p.block:=(hF _).2 (.inl rfl)
     refine ⟨fun w'=>w'.cell? p=some s1.v,hS.box.cell0,?_⟩
     rintro _ rfl
     have E12:Pure w11 w11.drew:=Ext.drew w11
     refine ⟨p,rfl,s1,fun w' h'=>h',?_⟩
     intro p3 w13 h13
     have E13:Pure w11 w13:=E12.trans (Ext.new h13)
     have B13:=hS.box.pure E13
     refine ⟨B13.cell0,?_⟩
     obtain ⟨t1,w14,hr14,R14,B14,np1,X14,nb1⟩:=jFN (P:=prog) (ty:=49) jMQ B13 (hS.r1.pure E13) hS.n1 (a:=p3) (r:=uU n) (by rw [← hn];exact (Box.of_new h13).row) rfl rfl (by simp;omega) (by simp [maxLen];omega)
     refine ⟨t1,w14,hr14,B14.cell0,X14.kept (fun b hb h=>hvis b ((hF b).2 (.inr (.inl h))) hb),p,rfl,B14.canW0 (by simp),hvis _ hpF,?_⟩
     rintro w15 hw15
     have B15:Box w15 p [t1.v,s2.v,s3.v] 52:=by rw [hw15];exact B14.set0
     have X15:Ext (·=p.block) w14 w15:=by rw [hw15];exact Ext.setCell p _
     clear hw15
     have R15:=R14.ext X15 (fun b hb e=>np1 (e▸hb))
     have R2:=((hS.r2.pure E13).ext X14 (fun b h2 h1=>hS.d12 b h1 h2)).ext X15 (fun b hb e=>hS.n2 (e▸hb))
     have R3:=((hS.r3.pure E13).ext X14 (fun b h2 h1=>hS.d13 b h1 h2)).ext X15 (fun b hb e=>hS.n3 (e▸hb))
     have d12':∀b,t1.blk b→¬ s2.blk b:=fun b hb h2=>(nb1 b hb).elim (fun h=>hS.d12 b h h2) (fun h=>by have:=hS.r2.lt h2;have:=E13.size;omega)
     have d13':∀b,t1.blk b→¬ s3.blk b:=fun b hb h2=>(nb1 b hb).elim (fun h=>hS.d13 b h h2) (fun h=>by have:=hS.r3.lt h2;have:=E13.size;omega)
     refine ⟨p,rfl,s2,B15.cell rfl,?_⟩
     intro p4 w16 h16
     have E16:Pure w15 w16:=Ext.new h16
     have B16:=B15.pure E16
     obtain ⟨t2,w17,hr17,R17,B17,np2,X17,nb2⟩:=jFN (P:=prog) (ty:=50) jCP B16 (R2.pure E16) hS.n2 (a:=p4) (r:=[.int .i64 (1+(Sp.sizeOf L a+Sp.sizeOf L b))]) (Box.of_new h16).row rfl rfl (by simp;omega) (by simp [maxLen];omega)
     refine ⟨t2,w17,hr17,X17.kept (fun b hb h=>hvis b ((hF b).2 (.inr (.inr (.inl h)))) hb),p,rfl,B17.canW (by simp),by rw [zX];exact hvis _ hpF,?_⟩
     rintro w18 hw18
     have B18:Box w18 p [t1.v,t2.v,s3.v] 52:=by rw [hw18];exact B17.set 1 _
     have X18:Ext (·=p.block) w17 w18:=by rw [hw18];have:=Ext.setCell (w:=w17) (p.add 1) t2.v;rw [zX] at this;exact this
     clear hw18
     have Q1:=((R15.pure E16).ext X17 (fun b h1 h2=>d12' b h1 h2)).ext X18 (fun b hb e=>np1 (e▸hb))
     have Q2:=R17.ext X18 (fun b hb e=>np2 (e▸hb))
     have Q3:=((R3.pure E16).ext X17 (fun b h3 h2=>hS.d23 b h2 h3)).ext X18 (fun b hb e=>hS.n3 (e▸hb))
     have d12'':∀b,t1.blk b→¬ t2.blk b:=fun b hb h2=>(nb2 b h2).elim (fun h=>d12' b hb h) (fun h=>by have:=(R15.pure E16).lt hb;omega)
     have d23':∀b,t2.blk b→¬ s3.blk b:=fun b hb h2=>(nb2 b hb).elim (fun h=>hS.d23 b h h2) (fun h=>by have:=(R3.pure E16).lt h2;omega)
     refine ⟨p,rfl,s3,B18.cell rfl,?_⟩
     intro p5 w19 h19
     have E19:Pure w18 w19:=Ext.new h19
     have B19:=B18.pure E19
     obtain ⟨t3,w20,hr20,R20,B20,np3,X20,nb3⟩:=jFN (P:=prog) (ty:=50) jCP B19 (Q3.pure E19) hS.n3 (a:=p5) (r:=[.int .i64 (z+1)]) (Box.of_new h19).row rfl rfl (by simp;omega) (by simp [maxLen];omega)
     refine ⟨t3,w20,hr20,X20.kept (fun b hb h=>hvis b ((hF b).2 (.inr (.inr (.inr h)))) hb),p,rfl,B20.canW (by simp),by rw [zX];exact hvis _ hpF,?_⟩
     rintro w21 hw21
     have B21:Box w21 p [t1.v,t2.v,t3.v] 52:=by rw [hw21];exact B20.set 2 _
     have X21:Ext (·=p.block) w20 w21:=by rw [hw21];have:=Ext.setCell (w:=w20) (p.add 2) t3.v;rw [zX] at this;exact this
     clear hw21
     have d13'':∀b,t1.blk b→¬ t3.blk b:=fun b hb h2=>(nb3 b h2).elim (fun h=>d13' b hb h) (fun h=>by have:=(Q1.pure E19).lt hb;omega)
     have d23'':∀b,t2.blk b→¬ t3.blk b:=fun b hb h2=>(nb3 b h2).elim (fun h=>d23' b hb h) (fun h=>by have:=(Q2.pure E19).lt hb;omega)
     have Z1:=((Q1.pure E19).ext X20 (fun b h1 h2=>d13' b h1 h2)).ext X21 (fun b hb e=>np1 (e▸hb))
     have Z2:=((Q2.pure E19).ext X20 (fun b h1 h2=>d23' b h1 h2)).ext X21 (fun b hb e=>np2 (e▸hb))
     have Z3:=R20.ext X21 (fun b hb e=>np3 (e▸hb))
     have hl1:(t1.len:Int)=L.length+1:=by rw [R14.len];simp
     refine ⟨p,rfl,t1,B21.cell0,?_⟩
     rw [hl1]
     refine hK _ _ _ ⟨by rw [hmk],fun b=>b=p.block∨t1.blk b∨t2.blk b∨t3.blk b,?_,?_,?_⟩
     ·rw [hmk]
      exact ⟨t1,t2,t3,⟨B21,by simpa [jSZ] using Z1,by simpa [jVH] using Z2,by simpa [jQJ] using Z3,np1,np2,np3,d12'',d13'',d23''⟩,fun _=>Iff.rfl⟩
     ·have a1:Ext F w0 w14:=(E11'.trans E13).pure.trans' X14 (fun i _ h=>(hF i).2 (.inr (.inl h)))
      have a2:Ext F w0 w15:=a1.trans' X15 (fun i _ h=>(hF i).2 (.inl h))
      have a3:Ext F w0 w17:=(a2.thenPure E16).trans' X17 (fun i _ h=>(hF i).2 (.inr (.inr (.inl h))))
      have a4:Ext F w0 w18:=a3.trans' X18 (fun i _ h=>(hF i).2 (.inl h))
      have a5:Ext F w0 w20:=(a4.thenPure E19).trans' X20 (fun i _ h=>(hF i).2 (.inr (.inr (.inr h))))
      exact a5.trans' X21 (fun i _ h=>(hF i).2 (.inl h))
     ·have z13:w0.heap.size≤w13.heap.size:=(E11'.trans E13).size
      have z16:w0.heap.size≤w16.heap.size:=by have:=X14.size;have:=X15.size;have:=E16.size;omega
      have z19:w0.heap.size≤w19.heap.size:=by have:=X17.size;have:=X18.size;have:=E19.size;omega
      rintro b (rfl | hb | hb | hb)
      ·exact .inl hpF
      ·exact (nb1 b hb).imp (fun h=>(hF b).2 (.inr (.inl h))) (fun h=>by omega)
      ·exact (nb2 b hb).imp (fun h=>(hF b).2 (.inr (.inr (.inl h)))) (fun h=>by omega)
      ·exact (nb3 b hb).imp (fun h=>(hF b).2 (.inr (.inr (.inr h)))) (fun h=>by omega)
 have J2:∀(x2:Bool) (H:NP) (w:World),Hst w0 H w H w→Pure w0 w→x2=(decide (1≤(Sp.shapeOf k).kids) && !Sp.inP L a)→m_O_j2 (some p) k f t u x a b x2 w0 H w K:=by
  intro x2 H w hs E hx;unfold m_O_j2;rw [hkd];refine ⟨fun h=>J1 true H w hs E (by rw [← hx,h];rfl),fun h=>⟨fun h2=>?_,fun h2=>J1 false H w hs E ?_⟩⟩
  ·refine (xK p b w (hP.pure E)).mono ?_;rintro _ _ ⟨_,rfl,rfl,rfl⟩;refine ⟨_,rfl,Kept.refl _,J1 _ H _ hs E ?_⟩;have h2:(Sp.shapeOf k).kids=2:=by simpa using h2
   rw [← hx,h];simp [h2]
  ·have h2:(Sp.shapeOf k).kids≠2:=by simpa using h2
   rw [← hx,h];simp [h2]
 refine ⟨fun h=>?_,fun h=>?_⟩
 ·intro H1 w3 hs3
  refine (xK p a w3 (hP.pure hs3.first)).mono ?_
  rintro _ _ ⟨_,rfl,rfl,rfl⟩
  refine ⟨_,rfl,Kept.refl _,J2 _ H1 _ hs3.here hs3.first ?_⟩
  have:1≤(Sp.shapeOf k).kids:=by have:=of_decide_eq_true h;omega
  simp [this]
 ·intro H1 w3 hs3
  refine J2 _ H1 _ hs3.here hs3.first ?_
  have:¬ 1≤(Sp.shapeOf k).kids:=by have:=of_decide_eq_false h;omega
  simp [this]
def xN (t:Sp.Tree) (s:Sl):List Value:=[.int .i64 t.node.kind,.int .i64 t.node.frm,.int .i64 t.node.to,.int .u64 t.node.num,.string t.node.text,s.v]
inductive TreeAt (S:NP) (w:World):Sl→Sp.Tree→Prop
 | mk (k f t u : Int) (x : ByteArray) (ks : List Sp.Tree) (s : Sl) (rs : Nat → Sl) (len : s.len = ks.length) (fit : ks.length ≤ 9223372036854775807)
   (row:∀i (h:i<ks.length),∃a,At s i 6 a∧S a.block∧Row w a (xN ks[i] (rs i))) (kid:∀i (h:i<ks.length),TreeAt S w (rs i) ks[i]):TreeAt S w s (.mk k f t u x ks)
theorem TreeAt.ext {S F:NP} {w w':World} {s:Sl} {t:Sp.Tree} (h:TreeAt S w s t) (hE:Ext F w w') (hd:∀b,S b→¬ F b):TreeAt S w' s t:=by
 induction h with
 | mk k f t u x ks s rs len fit row kid ih =>
  exact .mk k f t u x ks s rs len fit (fun i h=>let ⟨a,h1,h2,h3⟩:=row i h;⟨a,h1,h2,hE.row h3 (hd _ h2)⟩) ih
theorem TreeAt.pure {S:NP} {w w':World} {s:Sl} {t:Sp.Tree} (h:TreeAt S w s t) (hE:Pure w w'):TreeAt S w' s t:=h.ext hE (fun _ _ h=>h)
theorem TreeAt.mono {S S':NP} {w:World} {s:Sl} {t:Sp.Tree} (h:TreeAt S w s t) (hd:∀b,S b→S' b):TreeAt S' w s t:=by
 induction h with
 | mk k f t u x ks s rs len fit row kid ih =>
  exact .mk k f t u x ks s rs len fit (fun i h=>let ⟨a,h1,h2,h3⟩:=row i h;⟨a,h1,hd _ h2,h3⟩) ih
theorem TreeAt.lt {S:NP} {w:World} {s:Sl} {t:Sp.Tree} (h:TreeAt S w s t):TreeAt (fun b=>S b∧b<w.heap.size) w s t:=by
 induction h with
 | mk k f t u x ks s rs len fit row kid ih =>
  refine .mk k f t u x ks s rs len fit (fun i h=>let ⟨a,h1,h2,h3⟩:=row i h;⟨a,h1,⟨h2,?_⟩,h3⟩) ih
  have:=h3 0 (by simp [xN])
  unfold World.cell? at this
  refine Classical.byContradiction fun hge=>?_
  have:w.heap[(a.add 0).block]?=none:=by rw [zX];exact Array.getElem?_eq_none (by omega)
  simp_all [xN]
theorem jNK (k f t u:Int) (x:ByteArray) (s:Sl) (w:World) :
  Calls prog 183 #[.agg #[.int .i64 k,.int .i64 f,.int .i64 t,.int .u64 u,.string x,s.v]] w
   (fun e w'=>∃k':Int,∃f':Int,∃t':Int,∃u':Int,∃x':ByteArray,∃a:Int,∃b:Int,e=.returned (.agg #[.int .i64 k',.int .i64 f',.int .i64 t',.int .u64 u',.string x',.int .i64 a,.int .i64 b])∧((⟨k',f',t',u',x',a,b⟩:Sp.Node)=⟨k,f,t,u,x,0,0⟩∧Pure w w')):=by
 refine w_P3 _ _ _ _ _ _ w (fun k' f' t' u' x' a b w'=>(⟨k',f',t',u',x',a,b⟩:Sp.Node)=⟨k,f,t,u,x,0,0⟩∧Pure w w') ?_
 unfold m_P3
 intro p1 w1 h1 p2 w2 h2
 have E1:Pure w w1:=Ext.new h1
 have b1:=(Box.of_new h1).pure (Ext.new h2)
 refine ⟨_,b1.cell0,_,b1.cell rfl,_,b1.cell rfl,_,b1.cell rfl,_,b1.cell rfl,?_⟩
 exact bx 7 (Box.of_new h2) rfl rfl (fun w' b E=>⟨_,_,_,_,_,_,_,b.row,rfl,(E1.trans (Ext.new h2)).own (New.own E1 h2) E⟩)
theorem jGJ (t:Sp.Tree):∀i n:Int,0≤n→0≤(Sp.qD i n t).2:=by
 induction t using Sp.Tree.ind with
 | h k f t u x ks ih =>
  have:∀(ks:List Sp.Tree),(∀i (hi:i<ks.length),∀j n:Int,0≤n→0≤(Sp.qD j n ks[i]).2)→∀i e n:Int,0≤n→0≤(Sp.vK i e n ks).2:=by
   intro ks;induction ks with
   | nil=>intro _ i e n h;simpa [Sp.vK] using h
   | cons t ts iht =>
    intro hh i e n h
    unfold Sp.vK
    split
    ·exact iht (fun i hi=>hh (i+1) (by simpa using hi)) _ _ _ (hh 0 (by simp) i n h)
    ·exact h
  intro i n h
  unfold Sp.qD
  split
  ·exact h
  ·split
   ·exact h
   ·exact this ks ih _ _ _ (by omega)
theorem jCF {ks:List Sp.Tree} {j:Nat} (hj:j<ks.length) (i n:Int):Sp.vK i 0 n (ks.drop j)=Sp.vK i (Sp.qD i n ks[j]).1 (Sp.qD i n ks[j]).2 (ks.drop (j+1)):=by
 rw [List.drop_eq_getElem_cons hj,Sp.vK,if_pos rfl]
theorem jDI {ks:List Sp.Tree} {e:Int} (h:e≠0) (i n:Int):Sp.vK i e n ks=(e,n):=by
 cases ks <;> simp [Sp.vK,h]
theorem jVW {S:NP} (q:Addr) (hq:¬ S q.block) (T:TypeId) (t:Sp.Tree):∀(s:Sl) (inside seen:Int) (w:World),0≤inside→0≤seen→TreeAt S w s t→Box w q [.int .i64 seen] T →
  Calls prog 134 #[.agg (xN t s).toArray,.int .i64 inside,.pointer (some q)] w
   (fun e w'=>∃r:Int,e=.returned (.int .i64 r)∧(r=(Sp.qD inside seen t).1∧Box w' q [.int .i64 (Sp.qD inside seen t).2] T∧Ext (·=q.block) w w')):=by
 induction t using Sp.Tree.ind with
 | h k f t u x ks ih =>
 intro s inside seen w hi0 hn0 hT hB
 suffices key:∀K:Int→WP,(∀r w',(r=(Sp.qD inside seen (.mk k f t u x ks)).1∧Box w' q [.int .i64 (Sp.qD inside seen (.mk k f t u x ks)).2] T∧Ext (·=q.block) w w')→K r w')→m_K k f t u x s inside (some q) w K from
  w_K _ _ _ _ _ _ _ _ w _ (key _ (fun _ _ h=>h))
 intro K hK
 unfold m_K
 intro p1 w1 h1
 have b1:=Box.of_new h1
 have E1:Pure w w1:=Ext.new h1
 have n1:q.block≠p1.block:=New.ne h1 hB.blk
 have hB1:=hB.pure E1
 have hT1:=hT.pure E1
 refine ⟨q,rfl,seen,hB1.cell0,fun h=>?_,fun h=>⟨fun h'=>?_,fun h'=>?_⟩⟩
 ·have h:=of_decide_eq_true h
  have:Sp.qD inside seen (.mk k f t u x ks)=(52,seen):=by rw [Sp.qD,if_pos (by omega)]
  rw [this] at hK;exact hK _ _ ⟨rfl,hB1,E1.pure⟩
 ·have h:=of_decide_eq_false h;have h':=of_decide_eq_true h'
  have:Sp.qD inside seen (.mk k f t u x ks)=(52,seen):=by rw [Sp.qD,if_neg (by omega),if_pos (by omega)]
  rw [this] at hK;exact hK _ _ ⟨rfl,hB1,E1.pure⟩
 have h:=of_decide_eq_false h;have h':=of_decide_eq_false h'
 have hsp:Sp.qD inside seen (.mk k f t u x ks)=Sp.vK (inside+1) (Sp.qW ⟨k,f,t,u,x,0,0⟩ ks.length) (seen+1) ks:=by rw [Sp.qD,if_neg (by omega),if_neg (by omega)]
 rw [hsp] at hK
 unfold m_K_j1
 refine ⟨q,rfl,seen,hB1.cell0,q,rfl,hB1.canW0 (by simp),?_⟩
 rw [i64 (n:=seen+1) (by omega) (by omega)]
 intro w2 hw2
 have hB2:Box w2 q [.int .i64 (seen+1)] T:=by rw [hw2];exact hB1.set0
 have E12:Ext (·=q.block) w1 w2:=by rw [hw2];exact Ext.setCell q _
 clear hw2
 have b2:=b1.ext E12 (fun e=>n1 e.symm)
 have hT2:=hT1.ext E12 (fun b hb e=>hq (e▸hb))
 have E2:Ext (·=q.block) w w2:=E1.pure.trans E12
 refine ⟨_,_,_,_,_,_,b2.row,?_⟩
 refine (jNK _ _ _ _ _ _ w2).mono ?_
 rintro _ w3 ⟨k',f',t',u',x',a',b',rfl,hn,E23⟩
 cases hn
 refine ⟨_,_,_,_,_,_,_,rfl,?_⟩
 intro p2 w4 h4
 have n2:p1.block≠p2.block:=New.ne h4 (b2.pure E23).blk
 have E24:Pure w2 w4:=E23.trans (Ext.new h4)
 have o2:=New.own E23 h4
 refine bx 7 (Box.of_new h4) rfl rfl (fun w5 c2 E45=>?_)
 have E25:Pure w2 w5:=E24.own o2 E45
 refine ⟨_,_,_,_,_,_,_,c2.row,?_⟩
 refine (jSB _ _ _ _ _ _ _ w5).mono ?_
 rintro _ w6 ⟨s1,s2,s3,s4,s5,pe,rfl,⟨hs,hpe⟩,E56⟩
 refine ⟨_,_,_,_,_,_,rfl,?_⟩
 intro p3 w7 h7
 have n3:p2.block≠p3.block:=New.ne h7 (c2.pure E56).blk
 have E27:Pure w2 w7:=(E25.trans E56).trans (Ext.new h7)
 have o3:=New.own (E25.trans E56) h7
 refine bx 5 (Box.of_new h7) rfl rfl (fun w8 c3 E78=>?_)
 have E28:Pure w2 w8:=E27.own o3 E78
 have d2:=((c2.pure E56).pure (Ext.new h7)).ext E78 n3
 have d1:=b2.pure E28
 have hB8:=hB2.pure E28
 have hT8:=hT2.pure E28
 have E8:Ext (·=q.block) w w8:=E2.thenPure E28
 clear E78 E27 E56 E25 E45 E24 E23 E12 c2 b2 b1 hT2 hT1 hB1 h1 h4 h7
 have hlen:s.len=ks.length:=by cases hT;assumption
 have hfit:ks.length≤9223372036854775807:=by cases hT;assumption
 have hsh:Sp.shapeOf k=⟨s1,s2,s3,s4,s5⟩:=hs.symm
 have J3:∀e w',Pure w8 w'→e=Sp.qW ⟨k,f,t,u,x,0,0⟩ ks.length→m_K_j3 inside (some q) p1 e w' K:=by
  intro e w' E hown;rw [← hown] at hK;unfold m_K_j3;refine ⟨fun e i w'=>∃j:Nat,i=j∧j≤ks.length∧∃n:Int,0≤n∧Ext (·=q.block) w8 w'∧Box w' q [.int .i64 n] T∧Sp.vK (inside+1) e n (ks.drop j)=Sp.vK (inside+1) (Sp.qW ⟨k,f,t,u,x,0,0⟩ ks.length) (seen+1) ks,fun _ i _=>((ks.length:Int) - i).toNat,⟨0,rfl,Nat.zero_le _,seen+1,by omega,E.pure,hB8.pure E,by rw [hown];rfl⟩,?_⟩;rintro e1 _ wl ⟨j,rfl,hj,n,hn,El,hBl,heq⟩;unfold m_K_l4;have dl:=d1.ext El (fun e=>n1 e.symm);have hTl:=hT8.ext El (fun b hb e=>hq (e▸hb));rw [← hown] at heq;have fin:∀n',Sp.vK (inside+1) e ((seen:Int)+1) ks=(e1,n')→n'=n→K e1 wl:=by
   rintro n' h rfl;refine hK _ _ ⟨by rw [h],by rw [h];exact hBl,E8.trans El⟩
  refine ⟨s,dl.cell rfl,fun hlt=>⟨fun he=>?_,fun he=>?_⟩,fun hlt=>?_⟩
  ·have hlt:j<ks.length:=by have h:=of_decide_eq_true hlt;omega
   have he:e1=0:=by simpa using he
   subst he;cases hTl with
   | mk _ _ _ _ _ _ _ rs len fit row kid =>
   obtain ⟨a,hat,ha,hr⟩:=row j hlt;refine ⟨s,dl.cell rfl,a,hat,_,_,_,_,_,rs j,hr,?_⟩;rw [i64 (n:=inside+1) (by omega) (by omega)];refine (ih j hlt (rs j) (inside+1) n wl (by omega) hn (kid j hlt) hBl).mono ?_;rintro _ w9 ⟨r,rfl,rfl,hB9,E9⟩;rw [jCF hlt] at heq;refine ⟨_,rfl,⟨j+1,?_,hlt,_,jGJ _ _ _ hn,El.trans E9,hB9,by rw [← hown];exact heq⟩,?_⟩
   ·rw [i64 (by omega) (by omega)];omega
   ·show ((ks.length:Int) - IntKind.i64.wrap ((j:Int)+1)).toNat<((ks.length:Int) - (j:Int)).toNat;rw [i64 (by omega) (by omega)];omega
  ·have he:e1≠0:=by simpa using he
   rw [jDI he] at heq;exact fin _ heq.symm rfl
  ·have hge:j=ks.length:=by have h:=of_decide_eq_false hlt;omega
   rw [hge,List.drop_length,Sp.vK] at heq;exact fin _ heq.symm rfl
 have J2:∀e1,e1=(if pe=0 then if (ks.length:Int)≠s5 then 53 else 0 else pe)→m_K_j2 inside (some q) p1 p2 p3 e1 w8 K:=by
  intro e1 he1;have hown:Sp.qW ⟨k,f,t,u,x,0,0⟩ ks.length=if e1=0 then Sp.zZ ⟨s1,s2,s3,s4,s5⟩ ⟨k,f,t,u,x,0,0⟩ else e1:=by
   unfold Sp.qW;simp only [hsh,← hpe,he1]
  unfold m_K_j2;refine ⟨fun h=>⟨_,_,_,_,_,c3.row,_,_,_,_,_,_,_,d2.row,?_⟩,fun h=>J3 _ _ (Ext.refl _) ?_⟩
  ·have h:e1=0:=by simpa using h
   refine (jNM _ _ _ _ _ _ _ _ _ _ _ _ _).mono ?_;rintro _ w9 ⟨_,rfl,rfl,E9⟩;exact ⟨_,rfl,J3 _ _ E9 (by rw [hown,if_pos h])⟩
  ·have h:e1≠0:=by simpa using h
   rw [hown,if_neg h]
 refine ⟨fun h=>⟨s,d1.cell rfl,s5,c3.cell rfl,fun h5=>J2 _ ?_,fun h5=>J2 _ ?_⟩,fun h=>J2 _ ?_⟩
 ·have h:pe=0:=by simpa using h
  have h5:(s.len:Int)≠s5:=by simpa using h5
  rw [if_pos h,if_pos (by omega)]
 ·have h:pe=0:=by simpa using h
  have h5:(s.len:Int)=s5:=by simpa using h5
  rw [if_pos h,if_neg (by omega),h]
 ·have h:pe≠0:=by simpa using h
  rw [if_neg h]
theorem c_New (w:World):Calls prog 44 #[] w (fun e w'=>∃r:Option Addr,e=.returned (.pointer r)∧∃p,r=some p∧Pure w w'∧∃F,zV w' p [] F∧∀b,F b→w.heap.size≤b):=by
 refine w_J3 w (fun r w'=>∃p,r=some p∧Pure w w'∧∃F,zV w' p [] F∧∀b,F b→w.heap.size≤b) ?_;unfold m_J3;intro p1 w1 h1 p2 w2 h2;have E1:Pure w w1:=Ext.new h1;have m2:CMap w2 p1.block []:=(CMap.of_new h1).ext (Ext.new h2:Pure w1 w2) id;have n12:p1.block≠p2.block:=New.ne h2 h1.block_new;refine ⟨p2,rfl,E1.trans (Ext.new h2),fun b=>b=p2.block∨Sl.nil.blk b∨b=p1.block,⟨Sl.nil,p1.block,⟨Box.of_new h2,by simpa using Rws.nil _ _ _,by simpa [tH] using m2,n12,?_,?_⟩,fun _=>Iff.rfl⟩,?_⟩
 ·rintro ⟨a,h,_⟩;cases h
 ·rintro ⟨a,h,_⟩;cases h
 ·rintro b (rfl | ⟨a,h,_⟩ | rfl)
  ·exact New.own E1 h2
  ·cases h
  ·exact New.own (Ext.refl w) h1
theorem jQR (L:Sp.Pool) (n:Nat):tH (L.take n)=(tH L).take n:=by
 apply List.ext_getElem?;intro i;simp only [tH,List.getElem?_map,List.getElem?_zipIdx,List.getElem?_take];split <;> simp
theorem jTH (L:Sp.Pool):(tH L).map (·.1)=(L.map (·.node)).map jDT:=by
 apply List.ext_getElem?;intro i;simp only [tH,List.getElem?_map,List.getElem?_zipIdx];cases L[i]? <;> simp
theorem c_cut (p:Addr) (n:Nat) (w:World) {L:Sp.Pool} {F:NP} (hP:zV w p L F) (hok:Sp.Ok L) (hn:n≤L.length) :
  Calls prog 136 #[.pointer (some p),.int .i64 n] w (fun e w'=>e=.returned (.tuple #[])∧zV w' p (L.take n) F∧Ext F w w'):=by
 suffices key:∀K:WP,(∀w',zV w' p (L.take n) F∧Ext F w w'→K w')→m_H1 (some p) n w K from
  w_H1 _ _ w _ (key _ (fun _ h=>h))
 intro K hK
 unfold m_H1
 obtain ⟨s,m,hS,hF⟩:=hP
 have hfew:=hok.few
 have hcap:s.len≤s.cap:=by
  have:=hS.rows.len;rcases hS.rows.own with ⟨rfl,_⟩ | ⟨g,cur,_,_,hc,_⟩
  ·simp [Sl.nil]
  ·omega
 obtain ⟨s1,hr1,hl1⟩:=hS.rows.lst.lo (P:=prog) jEO hcap (k:=.i64) (n:=n) (by omega) (by simpa using hn)
 have hlen1:s1.len=L.length - n:=by rw [hl1.len];simp
 refine ⟨p,rfl,s,hS.box.cell0,s1,hr1,?_⟩
 refine ⟨fun x w'=>∃j:Nat,x=j∧j≤L.length - n∧Ext (·=m) w w'∧CMap w' m ((tH L).take n++(tH L).drop (n+j)),fun x _=>((L.length:Int) - x).toNat,⟨0,rfl,Nat.zero_le _,Ext.refl w,by simpa using hS.map⟩,?_⟩
 rintro _ wl ⟨j,rfl,hj,El,hml⟩
 have hboxl:=hS.box.ext El hS.n1.symm
 have hrowsl:=hS.rows.ext El (fun b hb e=>hS.n3 (e▸hb))
 unfold m_H1_l1
 refine ⟨fun h=>?_,fun h=>?_⟩
 ·have hlt:n+j<L.length:=by have h:=of_decide_eq_true h;omega
  have hll:=hl1.ext El (fun b hb e=>hS.n3 (e▸hb))
  obtain ⟨a,hat,_,hrow⟩:=hll.at_ j (by simp;omega)
  generalize he:L[n+j]=e at *
  have hrow':Row wl a (jPK e):=by
   have:((L.map jPK).drop ((n:Int).toNat))[j]'(by simp;omega)=jPK e:=by simp [he]
   rw [this] at hrow;exact hrow
  obtain ⟨nd,sz,dp⟩:=e
  obtain ⟨k,f,t,u,x,a1,b1⟩:=nd
  refine ⟨a,hat,_,_,_,_,_,_,_,_,_,hrow',?_⟩
  intro p2 w1 h1
  have E1:Pure wl w1:=Ext.new h1
  have o1:=New.own (Ext.refl wl) h1
  refine bx 9 (Box.of_new h1) rfl rfl (fun w2 b2 E=>?_)
  have E2:Pure wl w2:=E1.own o1 E
  refine ⟨fun w'=>w'.cell? (p.add 1)=some (.map (some m))∧Row w' p2 (uU ⟨k,f,t,u,x,a1,b1⟩),⟨(hboxl.pure (E2.thenPure (Ext.drew w2))).cell (i:=1) rfl,?_⟩,?_⟩
  ·have : Row w2 p2 (uU ⟨k, f, t, u, x, a1, b1⟩) := fun i hi => by
    have:=b2.row i (by simp [uU] at hi ⊢;omega);rw [this];have h7:i<7:=by simpa [uU] using hi
    have:i=0∨i=1∨i=2∨i=3∨i=4∨i=5∨i=6:=by omega
    rcases this with rfl | rfl | rfl | rfl | rfl | rfl | rfl <;> rfl
   exact Ext.row (F:=None) (Ext.drew w2) this id
  intro w3 hw3
  have E3:Pure wl w3:=by rw [hw3];exact E2.thenPure (Ext.drew w2)
  clear hw3
  refine ⟨p,rfl,some m,fun w' h=>h.1,k,f,t,u,x,a1,b1,fun w' h=>h.2,?_⟩
  have hm3:=hml.ext E3 id
  have hpl:(tH L).length=L.length:=by simp [tH]
  have hget:(tH L)[n+j]?=some (jDT ⟨k,f,t,u,x,a1,b1⟩,.int .i64 (n+j+1:Nat)):=by
   simp only [tH,List.getElem?_map,List.getElem?_zipIdx,List.getElem?_eq_getElem hlt,he];simp
  have hidx:((tH L).take n++(tH L).drop (n+j))[n]?=some (jDT ⟨k,f,t,u,x,a1,b1⟩,.int .i64 (n+j+1:Nat)):=by
   have e0:n+j+(n - ((tH L).take n).length)=n+j:=by rw [List.length_take];omega
   rw [List.getElem?_append_right (by rw [List.length_take];omega),List.getElem?_drop,e0,hget]
  have hnd:((tH L).map (·.1)).Nodup:=by
   rw [jTH,List.nodup_iff_pairwise_ne,List.pairwise_map];exact hok.nodup.imp (fun h e=>h (jHN.1 e))
  have hsub:List.Sublist ((tH L).take n++(tH L).drop (n+j)) (tH L):=by
   conv=>rhs;rw [← List.take_append_drop n (tH L)]
   refine (List.Sublist.refl _).append ?_;have e0:(tH L).drop (n+j)=((tH L).drop n).drop j:=by rw [List.drop_drop]
   rw [e0];exact List.drop_sublist _ _
  have hnd2:(((tH L).take n++(tH L).drop (n+j)).map (·.1)).Nodup:=hnd.sublist (hsub.map _)
  obtain ⟨w4,hr4,hm4,E4⟩:=hm3.delete (P:=prog) (Q:=127) (z:=0) underlying159 jAL (fun q hq=>jCA q (hsub.subset hq)) ⟨_,rfl⟩ hidx (fun i u hi=>by
   obtain ⟨hi1,hi2⟩:=List.getElem?_eq_some_iff.1 hi;obtain ⟨hn1,hn2⟩:=List.getElem?_eq_some_iff.1 hidx;refine Classical.byContradiction fun hne=>?_;have hne:=List.pairwise_iff_getElem.1 hnd2;rcases Nat.lt_or_gt_of_ne ‹_› with hlt | hlt
   ·exact hne i n (by simpa using hi1) (by simpa using hn1) hlt (by rw [List.getElem_map,List.getElem_map,hi2,hn2])
   ·exact hne n i (by simpa using hn1) (by simpa using hi1) hlt (by rw [List.getElem_map,List.getElem_map,hi2,hn2]))
  refine ⟨w4,hr4,⟨j+1,?_,by omega,(El.trans E3.pure).trans E4,?_⟩,?_⟩
  ·rw [i64 (by omega) (by omega)];omega
  ·rw [List.eraseIdx_append_of_length_le (by rw [List.length_take];omega)] at hm4
   have:n - ((tH L).take n).length=0:=by rw [List.length_take];omega
   rw [this] at hm4
   have hd:((tH L).drop (n+j)).eraseIdx 0=(tH L).drop (n+(j+1)):=by
    rw [List.drop_eq_getElem_cons (by omega)];simp;rfl
   rw [hd] at hm4;exact hm4
  ·show ((L.length:Int) - IntKind.i64.wrap ((j:Int)+1)).toNat<((L.length:Int) - (j:Int)).toNat
   rw [i64 (by omega) (by omega)];omega
 ·have hge:n+j=L.length:=by have h:=of_decide_eq_false h;omega
  have hpl:(tH L).length=L.length:=by simp [tH]
  rw [hge,← hpl,List.drop_length,List.append_nil] at hml
  obtain ⟨s2,hr2,hrows2,hb2⟩:=hrowsl.hi (P:=prog) jEO (k:=.i64) (n:=n) (by omega) (by simpa using hn)
  refine ⟨p,rfl,s,hboxl.cell0,s2,hr2,p,rfl,hboxl.canW0 (by simp),?_⟩
  rintro w5 hw5
  have hbox5:Box w5 p [s2.v,.map (some m)] 162:=by rw [hw5];exact hboxl.set0
  have E5:Ext (·=p.block) wl w5:=by rw [hw5];exact Ext.setCell p _
  clear hw5
  refine hK _ ⟨⟨s2,m,⟨hbox5,?_,?_,hS.n1,fun h=>hS.n2 ((hb2 _).1 h),fun h=>hS.n3 ((hb2 _).1 h)⟩,fun b=>by rw [hF b,hb2 b]⟩,?_⟩
  ·have:=hrows2.ext E5 (fun b hb e=>hS.n2 (by rw [← e];exact (hb2 _).1 hb))
   simpa using this
  ·rw [jQR];exact hml.ext E5 hS.n1
  ·exact (El.mono (fun i _ h=>(hF i).2 (.inr (.inr h)))).trans' E5 (fun i _ h=>(hF i).2 (.inl h))
theorem jFF {n:Sp.Node} {i:Nat} {L:Sp.Pool} {t:Sp.Tree} {ts:List Sp.Tree} (h:(Sp.grow L t).2.1≠0):Sp.vE n i L (t :: ts)=(0,(Sp.grow L t).2.1,(Sp.grow L t).2.2):=by rw [Sp.vE,if_pos h]
theorem jDK {n:Sp.Node} {i:Nat} {L:Sp.Pool} {t:Sp.Tree} {ts:List Sp.Tree} (h:(Sp.grow L t).2.1=0):Sp.vE n i L (t :: ts)=Sp.vE (if i=0 then { n with a:=(Sp.grow L t).1 } else { n with b:=(Sp.grow L t).1 }) (i+1) (Sp.grow L t).2.2 ts:=by rw [Sp.vE,if_neg (by simp [h])]
def Sp.Tree.two (t:Sp.Tree):Prop:=Sp.Tree.rec (motive_1:=fun _=>Prop) (motive_2:=fun _=>Prop) (fun _ _ _ _ _ ks h=>ks.length≤2∧h) True (fun _ _ h1 h2=>h1∧h2) t
def jIM:List Sp.Tree→Prop
 | []=>True
 | t :: ts=>Sp.Tree.two t∧jIM ts
theorem jPW {k f t u:Int} {x:ByteArray} {ks:List Sp.Tree}:Sp.Tree.two (.mk k f t u x ks)↔ks.length≤2∧jIM ks:=by
 have:∀ks:List Sp.Tree,(Sp.Tree.rec_1 (motive_1:=fun _=>Prop) (motive_2:=fun _=>Prop) (fun _ _ _ _ _ ks h=>ks.length≤2∧h) True (fun _ _ h1 h2=>h1∧h2) ks:Prop)=jIM ks:=by
  intro ks;induction ks with
  | nil=>rfl
  | cons t ts ih=>show (Sp.Tree.two t∧_)=(Sp.Tree.two t∧_);rw [ih]
 show (ks.length≤2∧_)↔_;rw [this]
theorem jGA {ks:List Sp.Tree} (h:jIM ks) {i:Nat} (hi:i<ks.length):Sp.Tree.two ks[i]:=by
 induction ks generalizing i with
 | nil=>simp at hi
 | cons t ts ih =>
  cases i with
  | zero=>exact h.1
  | succ i=>exact ih h.2 (by simpa using hi)
theorem c_grow {S:NP} (p:Addr) (t:Sp.Tree):∀(s:Sl) (w:World) (L:Sp.Pool) (F:NP),Sp.Tree.two t→TreeAt S w s t→zV w p L F→Sp.Ok L→(∀b,F b→¬ S b)→(∀b,S b→b<w.heap.size) →
  Calls prog 135 #[.pointer (some p),.agg (xN t s).toArray] w
   (fun e w'=>∃r1:Int,∃r2:Int,e=.returned (.tuple #[.int .i64 r1,.int .i64 r2])∧((r1,r2)=((Sp.grow L t).1,(Sp.grow L t).2.1)∧∃F',zV w' p (Sp.grow L t).2.2 F'∧Ext F w w'∧∀b,F' b→F b∨w.heap.size≤b)):=by
 induction t using Sp.Tree.ind with
 | h k f t u x ks ih =>
 intro s w L F h2 hT hP hok hFS hSw
 suffices key:∀K:Int→Int→WP,(∀r1 r2 w',((r1,r2)=((Sp.grow L (.mk k f t u x ks)).1,(Sp.grow L (.mk k f t u x ks)).2.1)∧∃F',zV w' p (Sp.grow L (.mk k f t u x ks)).2.2 F'∧Ext F w w'∧∀b,F' b→F b∨w.heap.size≤b)→K r1 r2 w')→m_G1 (some p) k f t u x s w K from
  w_G1 _ _ _ _ _ _ _ w _ (key _ (fun _ _ _ h=>h))
 intro K hK
 obtain ⟨hk2,hall⟩:=jPW.1 h2
 unfold m_G1
 intro p2 w1 h1
 have b1:=Box.of_new h1
 have E1:Pure w w1:=Ext.new h1
 refine ⟨_,_,_,_,_,_,b1.row,?_⟩
 refine (jNK _ _ _ _ _ _ w1).mono ?_
 rintro _ w2 ⟨k',f',t',u',x',a',b',rfl,hn,E12⟩
 cases hn
 refine ⟨_,_,_,_,_,_,_,rfl,?_⟩
 intro p3 w3 h3
 have E3:Pure w w3:=(E1.trans E12).trans (Ext.new h3)
 have o3:=New.own (E1.trans E12) h3
 have n23:p2.block≠p3.block:=New.ne h3 (b1.pure E12).blk
 refine bx 7 (Box.of_new h3) rfl rfl (fun w4 b3 E34=>?_)
 have E4:Pure w w4:=E3.own o3 E34
 have b2:=((b1.pure E12).pure (Ext.new h3)).ext E34 n23
 intro p4 w5 h5
 have E5:Pure w w5:=E4.trans (Ext.new h5)
 have o4:=New.own E4 h5
 have n34:p3.block≠p4.block:=New.ne h5 b3.blk
 have c3:=b3.pure (Ext.new h5:Pure w4 w5)
 have c4:=Box.of_new h5
 have c2:=b2.pure (Ext.new h5:Pure w4 w5)
 refine ⟨s,c2.cell rfl,?_⟩
 have hsp:Sp.grow L (.mk k f t u x ks)=Sp.vE ⟨k,f,t,u,x,0,0⟩ 0 L ks:=by rw [Sp.grow]
 rw [hsp] at hK
 have hlen:s.len=ks.length:=by cases hT;assumption
 refine ⟨fun i w'=>∃j:Nat,i=j∧j≤ks.length∧∃(nd:Sp.Node) (L':Sp.Pool) (F':NP),Sp.vE ⟨k,f,t,u,x,0,0⟩ 0 L ks=Sp.vE nd j L' (ks.drop j)∧Sp.Ok L'∧zV w' p L' F'∧(∀b,F' b→F b∨w.heap.size≤b)∧¬ F' p3.block∧¬ F' p4.block∧Ext F w w'∧Box w' p3 (uU nd) 127∧Box w' p4 [.pointer (some (p3.add 5)),.pointer (some (p3.add 6))] 275,fun i _=>((ks.length:Int) - i).toNat,
  ⟨0,rfl,Nat.zero_le _,⟨k,f,t,u,x,0,0⟩,L,F,by simp,hok,hP.pure E5,fun b h=>.inl h,fun h=>by have:=hP.lt h;omega,fun h=>by have:=hP.lt h;omega,E5.pure,c3,c4⟩,?_⟩
 rintro _ wl ⟨j,rfl,hj,nd,L',F',heq,hok',hPl,hF',hn3,hn4,El,d3,d4⟩
 unfold m_G1_l1
 refine ⟨fun h=>?_,fun h=>?_⟩
 ·have hlt:j<ks.length:=by have h:=of_decide_eq_true h;omega
  have hTl:TreeAt S wl s (.mk k f t u x ks):=hT.ext El (fun b hs hf=>hFS b hf hs)
  have hkid:∀i (h:i<ks.length),∃a r,At s i 6 a∧Row wl a (xN ks[i] r)∧TreeAt S wl r ks[i]:=by
   cases hTl with
   | mk _ _ _ _ _ _ _ rs len fit row kid=>exact fun i h=>let ⟨a,h1,_,h3⟩:=row i h;⟨a,rs i,h1,h3,kid i h⟩
  obtain ⟨a,r,hat,hrow,hTk⟩:=hkid j hlt
  refine ⟨a,hat,_,_,_,_,_,r,hrow,?_⟩
  intro p5 w6 h6
  have o5:=New.own (Ext.refl wl) h6
  refine bx 6 (Box.of_new h6) rfl rfl (fun w7 b5 E67=>?_)
  have E7:Pure wl w7:=Ext.own (Ext.new h6) o5 E67
  refine ⟨_,_,_,_,_,r,b5.row,?_⟩
  have hsz:w.heap.size≤wl.heap.size:=El.size
  refine (ih j hlt r w7 L' F' (jGA hall hlt) (hTk.pure E7) (hPl.pure E7) hok' (fun b hb hs=>(hF' b hb).elim (fun h=>hFS b h hs) (fun h=>by have:=hSw b hs;omega)) (fun b hs=>by have:=hSw b hs;have:=E7.size;omega)).mono ?_
  rintro _ w8 ⟨r1,r2,rfl,hr,F8,hP8,E8,hF8⟩
  have e1:r1=(Sp.grow L' ks[j]).1:=congrArg Prod.fst hr
  have e2:r2=(Sp.grow L' ks[j]).2.1:=congrArg Prod.snd hr
  rw [List.drop_eq_getElem_cons hlt] at heq
  have hF8':∀b,F8 b→F b∨w.heap.size≤b:=fun b hb=>(hF8 b hb).elim (hF' b) (fun h=>by right;have:=E7.size;omega)
  have Ew8:Ext F w w8:=(El.thenPure E7).trans' E8 (fun i hi h=>(hF' i h).elim id (fun h=>by omega))
  refine ⟨_,_,rfl,fun h=>?_,fun h=>?_⟩
  ·have h:(Sp.grow L' ks[j]).2.1≠0:=by rw [← e2];simpa using h
   rw [jFF h] at heq
   refine hK _ _ _ ?_
   rw [heq];exact ⟨by rw [e2],F8,hP8,Ew8,hF8'⟩
  ·have h:(Sp.grow L' ks[j]).2.1=0:=by rw [← e2];simpa using h
   rw [jDK h] at heq
   have q3:=(d3.pure E7).ext E8 hn3
   have q4:=(d4.pure E7).ext E8 hn4
   have hs7:wl.heap.size≤w7.heap.size:=E7.size
   have n38:¬ F8 p3.block:=fun h=>(hF8 _ h).elim hn3 (fun h=>by have:=(d3.pure E7).lt;omega)
   have n48:¬ F8 p4.block:=fun h=>(hF8 _ h).elim hn4 (fun h=>by have:=(d4.pure E7).lt;omega)
   have hok8:=(Sp.xJ ks[j] L' hok').1
   have fin : ∀ (w9 : World) (nd' : Sp.Node), nd' = (if j = 0 then { nd with a := (Sp.grow L' ks[j]).1 } else { nd with b := (Sp.grow L' ks[j]).1 }) → Box w9 p3 (uU nd') 127 → Ext (· = p3.block) w8 w9 →
     (∃j':Nat,IntKind.i64.wrap ((j:Int)+1)=j'∧j'≤ks.length∧∃(nd:Sp.Node) (L':Sp.Pool) (F':NP),Sp.vE ⟨k,f,t,u,x,0,0⟩ 0 L ks=Sp.vE nd j' L' (ks.drop j')∧Sp.Ok L'∧zV w9 p L' F'∧(∀b,F' b→F b∨w.heap.size≤b)∧¬ F' p3.block∧¬ F' p4.block∧Ext F w w9∧Box w9 p3 (uU nd) 127∧Box w9 p4 [.pointer (some (p3.add 5)),.pointer (some (p3.add 6))] 275)∧((ks.length:Int) - IntKind.i64.wrap ((j:Int)+1)).toNat<((ks.length:Int) - (j:Int)).toNat:=by
    intro w9 nd' hnd B9 E9
    rw [i64 (by omega) (by omega)]
    refine ⟨⟨j+1,by omega,hlt,nd',_,F8,by rw [heq,hnd],hok8,hP8.ext E9 (fun b hb e=>n38 (e▸hb)),hF8',n38,n48,Ew8.trans' E9 (fun i hi h=>by subst h;omega),B9,q4.ext E9 n34.symm⟩,by omega⟩
   have hj2:j=0∨j=1:=by omega
   rcases hj2 with rfl | rfl
   ·refine ⟨p4,⟨by omega,by simp,p4,rfl,rfl⟩,some (p3.add 5),q4.cell0,p3.add 5,rfl,q3.canW (by simp [uU]),?_⟩
    intro w9 hw9
    refine fin w9 _ rfl ?_ ?_
    ·rw [hw9,e1];exact q3.set 5 _
    ·rw [hw9];have:=Ext.setCell (w:=w8) (p3.add 5) (.int .i64 r1);rw [zX] at this;exact this
   ·refine ⟨p4.add 1,⟨by omega,by simp,p4,rfl,rfl⟩,some (p3.add 6),q4.cell rfl,p3.add 6,rfl,q3.canW (by simp [uU]),?_⟩
    intro w9 hw9
    refine fin w9 _ rfl ?_ ?_
    ·rw [hw9,e1];exact q3.set 6 _
    ·rw [hw9];have:=Ext.setCell (w:=w8) (p3.add 6) (.int .i64 r1);rw [zX] at this;exact this
 ·have hge:j=ks.length:=by have h:=of_decide_eq_false h;omega
  rw [hge,List.drop_length,Sp.vE] at heq
  obtain ⟨k0,f0,t0,u0,x0,a0,b0⟩:=nd
  refine ⟨_,_,_,_,_,_,_,d3.row,?_⟩
  refine (jNN p k0 f0 t0 u0 x0 a0 b0 wl hPl hok').mono ?_
  rintro _ w9 ⟨r1,r2,rfl,hr,F9,hP9,E9,hF9⟩
  have hsz:w.heap.size≤wl.heap.size:=El.size
  refine ⟨_,_,rfl,hK _ _ _ ?_⟩
  rw [heq]
  exact ⟨hr,F9,hP9,El.trans' E9 (fun i hi h=>(hF' i h).elim id (fun h=>by omega)),fun b hb=>(hF9 b hb).elim (hF' b) (fun h=>by right;omega)⟩
theorem jJG (t:Sp.Tree):∀i n:Int,(Sp.qD i n t).1=0→Sp.Tree.two t:=by
 induction t using Sp.Tree.ind with
 | h k f t u x ks ih =>
  have hA:∀(ks:List Sp.Tree),(∀i (hi:i<ks.length),∀j n:Int,(Sp.qD j n ks[i]).1=0→Sp.Tree.two ks[i])→∀i e n:Int,(Sp.vK i e n ks).1=0→e=0∧jIM ks:=by
   intro ks;induction ks with
   | nil=>intro _ i e n h;exact ⟨by simpa [Sp.vK] using h,trivial⟩
   | cons t ts iht =>
    intro hh i e n h
    unfold Sp.vK at h
    split at h
    ·rename_i he
     have:=iht (fun i hi=>hh (i+1) (by simpa using hi)) _ _ _ h
     exact ⟨he,hh 0 (by simp) i n this.1,this.2⟩
    ·rename_i he;exact absurd h he
  intro i n h
  unfold Sp.qD at h
  split at h
  ·cases h
  ·split at h
   ·cases h
   ·have:=hA ks ih _ _ _ h
    refine jPW.2 ⟨?_,this.2⟩
    have ho:=this.1
    unfold Sp.qW at ho
    simp only at ho
    have hk:=Sp.yO k
    by_cases hp:Sp.vA ⟨k,f,t,u,x,0,0⟩=0
    ·rw [if_pos hp] at ho
     by_cases hl:(ks.length:Int)≠(Sp.shapeOf k).kids
     ·rw [if_pos hl] at ho;simp at ho
     ·omega
    ·rw [if_neg hp,if_neg hp] at ho;exact absurd ho hp
theorem c_Of {S:NP} (p:Addr) (t:Sp.Tree) (s:Sl) (w:World) {L:Sp.Pool} {F:NP} (hT:TreeAt S w s t) (hP:zV w p L F) (hok:Sp.Ok L) (hFS:∀b,F b→¬ S b) (hSw:∀b,S b→b<w.heap.size) :
  Calls prog 70 #[.pointer (some p),.agg (xN t s).toArray] w
   (fun e w'=>∃r1:Int,∃r2:Int,e=.returned (.tuple #[.int .i64 r1,.int .i64 r2])∧((r1,r2)=((Sp.of L t).1,(Sp.of L t).2.1)∧∃F',zV w' p (Sp.of L t).2.2 F'∧Ext F w w'∧∀b,F' b→F b∨w.heap.size≤b)):=by
 obtain ⟨k,f,to,u,x,ks⟩:=t
 suffices key:∀K:Int→Int→WP,(∀r1 r2 w',((r1,r2)=((Sp.of L (.mk k f to u x ks)).1,(Sp.of L (.mk k f to u x ks)).2.1)∧∃F',zV w' p (Sp.of L (.mk k f to u x ks)).2.2 F'∧Ext F w w'∧∀b,F' b→F b∨w.heap.size≤b)→K r1 r2 w')→m_U1 (some p) k f to u x s w K from
  w_U1 _ _ _ _ _ _ _ w _ (key _ (fun _ _ _ h=>h))
 intro K hK
 unfold m_U1
 intro p2 w1 h1
 have b1:=Box.of_new h1
 have E1:Pure w w1:=Ext.new h1
 refine Br.f rfl ?_
 intro p3 w2 h2
 have E2:Pure w w2:=E1.trans (Ext.new h2)
 have o3:=New.own E1 h2
 have c3:=Box.of_new h2
 have n23:p2.block≠p3.block:=New.ne h2 b1.blk
 refine ⟨c3.canW0 (by simp),?_⟩
 intro w3 hw3
 have c3':Box w3 p3 [.int .i64 0] 3:=by rw [hw3];exact c3.set0
 have E23:Ext (·=p3.block) w2 w3:=by rw [hw3];exact Ext.setCell p3 _
 clear hw3
 have E3:Pure w w3:=E2.own o3 E23
 have b3:=(b1.pure (Ext.new h2:Pure w1 w2)).ext E23 n23
 refine ⟨_,_,_,_,_,s,b3.row,?_⟩
 generalize ht:Sp.Tree.mk k f to u x ks=t at *
 have htr:(Value.agg #[.int .i64 k,.int .i64 f,.int .i64 to,.int .u64 u,.string x,s.v])=.agg (xN t s).toArray:=by rw [← ht];rfl
 rw [htr]
 refine (jVW p3 (fun h=>by have:=hSw _ h;omega) _ t s 0 0 w3 (by omega) (by omega) (hT.pure E3) c3').mono ?_
 rintro _ w4 ⟨r1,rfl,rfl,_,E34⟩
 have E4:Pure w w4:=E3.own o3 E34
 have b4:=b3.ext E34 n23
 have same:∀w',Pure w w'→∃F',zV w' p L F'∧Ext F w w'∧∀b,F' b→F b∨w.heap.size≤b:=fun w' E=>⟨F,hP.pure E,E.pure,fun _ h=>.inl h⟩
 refine ⟨_,rfl,fun h=>?_,fun h=>?_⟩
 ·have h:(Sp.qD 0 0 t).1≠0:=by simpa using h
  have:Sp.of L t=(0,(Sp.qD 0 0 t).1,L):=by rw [Sp.of,if_pos h]
  refine hK _ _ _ ?_
  rw [this];exact ⟨rfl,same _ E4⟩
 ·have h:(Sp.qD 0 0 t).1=0:=by simpa using h
  have hP4:=hP.pure E4
  obtain ⟨s0,m0,hS0,hF0⟩:=id hP4
  have hl0:s0.len=L.length:=by rw [hS0.rows.len];simp
  refine ⟨p,rfl,s0,hS0.box.cell0,_,_,_,_,_,s,b4.row,?_⟩
  rw [htr]
  refine (c_grow p t s w4 L F (jJG t _ _ h) (hT.pure E4) hP4 hok hFS (fun b hb=>by have:=hSw b hb;have:=E4.size;omega)).mono ?_
  rintro _ w5 ⟨r1,r2,rfl,hr,F5,hP5,E45,hF5⟩
  have e1:r1=(Sp.grow L t).1:=congrArg Prod.fst hr
  have e2:r2=(Sp.grow L t).2.1:=congrArg Prod.snd hr
  have hs4:w.heap.size≤w4.heap.size:=E4.size
  have E5:Ext F w w5:=E4.pure.trans E45
  have hF5':∀b,F5 b→F b∨w.heap.size≤b:=fun b hb=>(hF5 b hb).elim .inl (fun h=>.inr (by omega))
  refine ⟨_,_,rfl,fun h'=>?_,fun h'=>?_⟩
  ·have h':(Sp.grow L t).2.1≠0:=by rw [← e2];simpa using h'
   obtain ⟨hok5,M,hM⟩:=Sp.xJ t L hok
   rw [hl0]
   refine (c_cut p L.length w5 hP5 hok5 (by rw [hM];simp)).mono ?_
   rintro _ w6 ⟨rfl,hP6,E56⟩
   have:Sp.of L t=(0,(Sp.grow L t).2.1,L):=by rw [Sp.of,if_neg (by simp [h]),if_pos h']
   refine ⟨rfl,hK _ _ _ ?_⟩
   rw [this]
   rw [hM,List.take_left] at hP6
   exact ⟨by rw [e2],F5,hP6,E5.trans' E56 (fun i hi h=>(hF5' i h).elim id (fun h=>by omega)),hF5'⟩
  ·have h':(Sp.grow L t).2.1=0:=by rw [← e2];simpa using h'
   have:Sp.of L t=((Sp.grow L t).1,0,(Sp.grow L t).2.2):=by rw [Sp.of,if_neg (by simp [h]),if_neg (by simp [h'])]
   refine hK _ _ _ ?_
   rw [this]
   exact ⟨by rw [e1],F5,hP5,E5,hF5'⟩
theorem jJP (s:Sp.Shape) (n:Sp.Node):Sp.zZ s n≠53:=by
 unfold Sp.zZ;split
 ·omega
 ·split <;> omega
theorem jQT (k f t u:Int) (x:ByteArray) (len:Nat):Sp.qW ⟨k,f,t,u,x,0,0⟩ len=(if (Sp.nodeErr ⟨k,f,t,u,x,0,0⟩≠53∧(len:Int)≠(Sp.shapeOf k).kids) then 53 else Sp.nodeErr ⟨k,f,t,u,x,0,0⟩):=by
 unfold Sp.qW Sp.nodeErr;simp only;rcases jDG ⟨k,f,t,u,x,0,0⟩ with h | h
 ·rw [h];simp
 ·rw [h];have:=jJP (Sp.shapeOf k) ⟨k,f,t,u,x,0,0⟩;by_cases h2:(len:Int)=(Sp.shapeOf k).kids <;> simp [h2,this]
theorem jFU {S:NP} (q:Addr) (hq:¬ S q.block) (T:TypeId) (t:Sp.Tree):∀(s:Sl) (inside seen:Int) (w0:World),0≤inside→0≤seen→TreeAt S w0 s t→(∀b,S b→b<w0.heap.size)→Box w0 q [.int .i64 seen] T →
  Calls prog 212 #[.agg (xN t s).toArray,.int .i64 inside,.pointer (some q)] w0
   (fun e w'=>∃r:Int,e=.returned (.int .i64 r)∧(r=(Sp.qD inside seen t).1∧Box w' q [.int .i64 (Sp.qD inside seen t).2] T∧Ext (·=q.block) w0 w')):=by
 induction t using Sp.Tree.ind with
 | h k f t u x ks ih =>
 intro s inside seen w0 hi0 hn0 hT hSw hB
 suffices key:∀K:Int→WP,(∀r w',(r=(Sp.qD inside seen (.mk k f t u x ks)).1∧Box w' q [.int .i64 (Sp.qD inside seen (.mk k f t u x ks)).2] T∧Ext (·=q.block) w0 w')→K r w')→m_V k f t u x s inside (some q) w0 K from
  w_V _ _ _ _ _ _ _ _ w0 _ (key _ (fun _ _ h=>h))
 intro K hK
 have hql:=hB.lt
 unfold m_V
 refine ⟨q,rfl,?_⟩
 intro H1 w1 hs1
 have hB1:=hB.pure hs1.first
 refine ⟨seen,hB1.cell0,?_⟩
 intro H5 w13 hs5
 have E13:=hs1.first.hst hs5
 have hB13:=hB.pure E13
 have hq0:∀{H w' H' w''},Hst w0 H w' H' w''→¬ H' q.block:=fun h hh=>by have:=h.old _ hh;omega
 unfold m_V_j1
 refine ⟨fun h=>?_,fun h=>?_⟩
 ·have : Sp.qD inside seen (.mk k f t u x ks) = (52, seen) := by
   rw [Sp.qD];simp only [Bool.or_eq_true,decide_eq_true_eq] at h;by_cases h1:4096≤seen
   ·rw [if_pos h1]
   ·rw [if_neg h1,if_pos (by omega)]
  rw [this] at hK;exact hK _ _ ⟨rfl,hB13,E13.pure⟩
 ·have h1 : ¬ 4096 ≤ seen ∧ ¬ 64 ≤ inside := by
   simp only [Bool.or_eq_false_iff,decide_eq_false_iff_not] at h;omega
  have hsp:Sp.qD inside seen (.mk k f t u x ks)=Sp.vK (inside+1) (Sp.qW ⟨k,f,t,u,x,0,0⟩ ks.length) (seen+1) ks:=by rw [Sp.qD,if_neg h1.1,if_neg h1.2]
  rw [hsp] at hK
  have hlen:s.len=ks.length:=by cases hT;assumption
  have hfit:ks.length≤9223372036854775807:=by cases hT;assumption
  refine ⟨q,rfl,seen,hB13.cell0,q,rfl,hB13.canW0 (by simp),hq0 hs5,?_⟩
  rw [i64 (n:=seen+1) (by omega) (by omega)]
  rintro w2 hw2
  have hB2:Box w2 q [.int .i64 (seen+1)] T:=by rw [hw2];exact hB13.set0
  have E2:Ext (·=q.block) w0 w2:=by rw [hw2];exact E13.pure.trans (Ext.setCell q _)
  clear hw2
  rintro y1 rfl
  have hsh:=jER ⟨k,f,t,u,x,0,0⟩
  simp only at hsh
  rw [hsh,xG,hlen]
  have hown:cond ((Sp.nodeErr ⟨k,f,t,u,x,0,0⟩ != 53) && ((ks.length:Int) != (Sp.shapeOf k).kids)) 53 (Sp.nodeErr ⟨k,f,t,u,x,0,0⟩)=Sp.qW ⟨k,f,t,u,x,0,0⟩ ks.length:=by
   rw [jQT];by_cases h2:Sp.nodeErr ⟨k,f,t,u,x,0,0⟩=53
   ·simp [h2]
   ·by_cases h3:(ks.length:Int)=(Sp.shapeOf k).kids
    ·simp [h3]
    ·have e1:(Sp.nodeErr ⟨k,f,t,u,x,0,0⟩ != 53)=true:=by simpa using h2
     have e2:((ks.length:Int) != (Sp.shapeOf k).kids)=true:=by simpa using h3
     rw [e1,e2,if_pos ⟨h2,h3⟩];rfl
  rw [hown]
  intro H3 w10 hs3
  have E10:Ext (·=q.block) w0 w10:=E2.hst hs3
  have hB10:=hB2.ext hs3.ext (hq0 hs3)
  refine ⟨fun e i H w'=>∃j:Nat,i=j∧j≤ks.length∧∃n:Int,0≤n∧Ext (·=q.block) w0 w'∧Box w' q [.int .i64 n] T∧Sp.vK (inside+1) e n (ks.drop j)=Sp.vK (inside+1) (Sp.qW ⟨k,f,t,u,x,0,0⟩ ks.length) (seen+1) ks,fun _ i _=>((ks.length:Int) - i).toNat,⟨0,rfl,Nat.zero_le _,seen+1,by omega,E10,hB10,rfl⟩,?_⟩
  rintro e1 _ Hl wl hl ⟨j,rfl,hj,n,hn,El,hBl,heq⟩
  unfold m_V_l2
  have hTl:=hT.ext El (fun b hb e=>hq (e▸hb))
  refine ⟨fun hc=>?_,fun hc=>?_⟩
  ·simp only [Bool.and_eq_true,beq_iff_eq] at hc
   obtain ⟨he,hlt⟩:=hc
   have hlt:=uC hlen hlt
   subst he
   cases hTl with
   | mk _ _ _ _ _ _ _ rs len fit row kid =>
   obtain ⟨a,hat,ha,hr⟩:=row j hlt
   refine ⟨a,hat,?_⟩
   intro H4 w11 hs4
   have E11:=El.hst hs4
   have hT11:=hT.ext E11 (fun b hb e=>hq (e▸hb))
   have hr11:Row w11 a (xN ks[j] (rs j)):=hs4.ext.row hr (fun hh=>by have:=hs4.old _ hh;have:=hSw _ ha;omega)
   have hk11:TreeAt S w11 (rs j) ks[j]:=(kid j hlt).ext hs4.ext (fun b hb hh=>by have:=hs4.old _ hh;have:=hSw _ hb;omega)
   have hB11:=hBl.ext hs4.ext (hq0 hs4)
   refine ⟨_,_,_,_,_,rs j,hr11,?_⟩
   rw [i64 (n:=inside+1) (by omega) (by omega)]
   refine (ih j hlt (rs j) (inside+1) n w11 (by omega) hn hk11 (fun b hb=>by have:=hSw b hb;have:=E11.size;omega) hB11).mono ?_
   rintro _ w12 ⟨r,rfl,rfl,hB12,E12⟩
   refine ⟨_,rfl,E12.kept (fun b hb e=>hq0 hs4 (e▸hb)),?_⟩
   rw [vV hlt (by omega)]
   refine ⟨⟨j+1,rfl,hlt,_,jGJ ks[j] (inside+1) n hn,E11.trans E12,hB12,?_⟩,jCE hlt⟩
   rw [← heq];exact (jCF hlt (inside+1) n).symm
  ·intro H4 w11 hs4
   have hfin:Sp.vK (inside+1) e1 n (ks.drop j)=(e1,n):=by
    by_cases he:e1=0
    ·have hge : j = ks.length := by
      rw [he] at hc;have hc:decide ((j:Int)<(s.len:Int))=false:=by simpa using hc
      exact xU hlen hj hc
     rw [hge,List.drop_length];rfl
    ·exact jDI he _ _
   rw [hfin] at heq
   refine hK _ _ ⟨by rw [← heq],?_,El.hst hs4⟩
   rw [← heq];exact hBl.ext hs4.ext (hq0 hs4)
theorem jHY {S:NP} (t:Sp.Tree) (s:Sl) (w0:World) (hT:TreeAt S w0 s t) (hSw:∀b,S b→b<w0.heap.size) :
  Calls prog 154 #[.agg (xN t s).toArray] w0 (fun e w'=>∃r:Int,e=.returned (.int .i64 r)∧(r=(Sp.qD 0 0 t).1∧Pure w0 w')):=by
 obtain ⟨k,f,to,u,x,ks⟩:=t
 refine w_O2 _ _ _ _ _ _ w0 (fun r w'=>r=(Sp.qD 0 0 (.mk k f to u x ks)).1∧Pure w0 w') ?_
 unfold m_O2
 intro H1 w1 hs1 p w2 h2
 have b2:=Box.of_new h2
 have E2:Pure w0 w2:=hs1.first.trans (Ext.new h2)
 have o2:=New.own hs1.first h2
 have hpH:¬ H1 p.block:=fun hh=>by have:=hs1.lt _ hh;have:=h2.at_size;omega
 refine ⟨b2.canW0 (by simp),hpH,?_⟩
 rintro w3 hw3
 have b3:Box w3 p [.int .i64 0] 3:=by rw [hw3];exact b2.set0
 have E3:Pure w0 w3:=by rw [hw3];exact E2.own o2 (Ext.setCell p _)
 clear hw3
 refine (jFU p (fun h=>by have:=hSw _ h;omega) _ _ s 0 0 w3 (Int.le_refl _) (Int.le_refl _) (hT.pure E3) (fun b hb=>by have:=hSw b hb;have:=E3.size;omega) b3).mono ?_
 rintro _ w4 ⟨r,rfl,rfl,_,E4⟩
 exact ⟨_,rfl,E4.kept (fun b hb e=>hpH (e▸hb)),rfl,E3.own o2 E4⟩
theorem jLV (p:Addr) (n:Nat) (w0:World) {L:Sp.Pool} {F:NP} (hP:yB w0 p L F) (hn:n≤L.length) :
  Calls prog 156 #[.pointer (some p),.int .i64 n] w0 (fun e w'=>e=.returned (.tuple #[])∧yB w' p (L.take n) F∧Ext F w0 w'):=by
 suffices key:∀K:WP,(∀w',yB w' p (L.take n) F∧Ext F w0 w'→K w')→m_S1 (some p) n w0 K from
  w_S1 _ _ w0 _ (key _ (fun _ h=>h))
 intro K hK
 unfold m_S1
 obtain ⟨s1,s2,s3,hS,hF⟩:=hP
 obtain ⟨t1,hr1,R1,hb1⟩:=Rws.hi (P:=prog) jMQ hS.r1 (k:=.i64) (n:=n) (by omega) (by simpa using hn)
 refine ⟨p,rfl,s1,hS.box.cell0,t1,hr1,p,rfl,hS.box.canW0 (by simp),?_⟩
 rintro w1 hw1
 have B1:Box w1 p [t1.v,s2.v,s3.v] 52:=by rw [hw1];exact hS.box.set0
 have X1:Ext (·=p.block) w0 w1:=by rw [hw1];exact Ext.setCell p _
 clear hw1
 obtain ⟨t2,hr2,R2,hb2⟩:=Rws.hi (P:=prog) jCP (hS.r2.ext X1 (fun b hb e=>hS.n2 (e▸hb))) (k:=.i64) (n:=n) (by omega) (by simpa using hn)
 refine ⟨p,rfl,s2,B1.cell rfl,t2,hr2,p,rfl,B1.canW (by simp),?_⟩
 rintro w2 hw2
 have B2:Box w2 p [t1.v,t2.v,s3.v] 52:=by rw [hw2];exact B1.set 1 _
 have X2:Ext (·=p.block) w1 w2:=by rw [hw2];have:=Ext.setCell (w:=w1) (p.add 1) t2.v;rw [zX] at this;exact this
 clear hw2
 obtain ⟨t3,hr3,R3,hb3⟩:=Rws.hi (P:=prog) jCP (hS.r3.ext (X1.trans X2) (fun b hb e=>hS.n3 (e▸hb))) (k:=.i64) (n:=n) (by omega) (by simpa using hn)
 refine ⟨p,rfl,s3,B2.cell rfl,t3,hr3,p,rfl,B2.canW (by simp),?_⟩
 rintro w3 hw3
 have B3:Box w3 p [t1.v,t2.v,t3.v] 52:=by rw [hw3];exact B2.set 2 _
 have X3:Ext (·=p.block) w2 w3:=by rw [hw3];have:=Ext.setCell (w:=w2) (p.add 2) t3.v;rw [zX] at this;exact this
 clear hw3
 have E:=(X1.trans X2).trans X3
 refine hK _ ⟨⟨t1,t2,t3,⟨B3,?_,?_,?_,fun h=>hS.n1 ((hb1 _).1 h),fun h=>hS.n2 ((hb2 _).1 h),fun h=>hS.n3 ((hb3 _).1 h),fun b h1 h2=>hS.d12 b ((hb1 b).1 h1) ((hb2 b).1 h2),fun b h1 h2=>hS.d13 b ((hb1 b).1 h1) ((hb3 b).1 h2),fun b h1 h2=>hS.d23 b ((hb2 b).1 h1) ((hb3 b).1 h2)⟩,fun b=>by rw [hF b,hb1 b,hb2 b,hb3 b]⟩,E.mono (fun i _ h=>(hF i).2 (.inl h))⟩
 ·have:=R1.ext E (fun b hb e=>hS.n1 ((hb1 _).1 (e▸hb)))
  rw [List.map_take];simpa using this
 ·have:=R2.ext (X2.trans X3) (fun b hb e=>hS.n2 ((hb2 _).1 (e▸hb)))
  rw [List.map_take];simpa using this
 ·have:=R3.ext X3 (fun b hb e=>hS.n3 ((hb3 _).1 (e▸hb)))
  rw [List.map_take];simpa using this
theorem jKB {S:NP} (p:Addr) (t:Sp.Tree):∀(s:Sl) (w0:World) (L:Sp.Pool) (F:NP),Sp.Tree.two t→TreeAt S w0 s t→yB w0 p L F→Sp.Ok L→(∀b,F b→¬ S b)→(∀b,S b→b<w0.heap.size) →
  Calls prog 155 #[.pointer (some p),.agg (xN t s).toArray] w0
   (fun e w'=>∃r1:Int,∃r2:Int,e=.returned (.tuple #[.int .i64 r1,.int .i64 r2])∧((r1,r2)=((Sp.grow L t).1,(Sp.grow L t).2.1)∧∃F',yB w' p (Sp.grow L t).2.2 F'∧Ext F w0 w'∧∀b,F' b→F b∨w0.heap.size≤b)):=by
 induction t using Sp.Tree.ind with
 | h k f t u x ks ih =>
 intro s w0 L F h2 hT hP hok hFS hSw
 suffices key:∀K:Int→Int→WP,(∀r1 r2 w',((r1,r2)=((Sp.grow L (.mk k f t u x ks)).1,(Sp.grow L (.mk k f t u x ks)).2.1)∧∃F',yB w' p (Sp.grow L (.mk k f t u x ks)).2.2 F'∧Ext F w0 w'∧∀b,F' b→F b∨w0.heap.size≤b)→K r1 r2 w')→m_E1 (some p) k f t u x s w0 K from
  w_E1 _ _ _ _ _ _ _ w0 _ (key _ (fun _ _ _ h=>h))
 intro K hK
 obtain ⟨hk2,hall⟩:=jPW.1 h2
 have hsp:Sp.grow L (.mk k f t u x ks)=Sp.vE ⟨k,f,t,u,x,0,0⟩ 0 L ks:=by rw [Sp.grow]
 rw [hsp] at hK
 have hlen:s.len=ks.length:=by cases hT;assumption
 unfold m_E1
 intro H2 w4 hs4
 refine ⟨fun i a1 a2 a3 a4 a5 a6 a7 H w'=>∃j:Nat,i=j∧j≤ks.length∧∃(L':Sp.Pool) (F':NP),Sp.vE ⟨k,f,t,u,x,0,0⟩ 0 L ks=Sp.vE ⟨a1,a2,a3,a4,a5,a6,a7⟩ j L' (ks.drop j)∧Sp.Ok L'∧yB w' p L' F'∧(∀b,F' b→F b∨w0.heap.size≤b)∧(∀b,F' b→¬ H b)∧Ext F w0 w',fun i _ _ _ _ _ _ _ _=>((ks.length:Int) - i).toNat,
  ⟨0,rfl,Nat.zero_le _,L,F,by simp,hok,hP.pure hs4.first,fun b h=>.inl h,hs4.disj0 (fun b hb=>hP.lt hb),hs4.first.pure⟩,?_⟩
 rintro _ a1 a2 a3 a4 a5 a6 a7 Hl wl hl ⟨j,rfl,hj,L',F',heq,hok',hPl,hF',hv,El⟩
 unfold m_E1_l1
 refine ⟨fun h=>?_,fun h=>?_⟩
 ·have hlt:=uC hlen h
  have hTl:TreeAt S wl s (.mk k f t u x ks):=hT.ext El (fun b hs hf=>hFS b hf hs)
  have hkid:∃a r,At s j 6 a∧Row wl a (xN ks[j] r)∧TreeAt S wl r ks[j]:=by
   cases hTl with
   | mk _ _ _ _ _ _ _ rs len fit row kid=>exact let ⟨a,h1,_,h3⟩:=row j hlt;⟨a,rs j,h1,h3,kid j hlt⟩
  obtain ⟨a,r,hat,hrow,hTk⟩:=hkid
  refine ⟨a,hat,_,_,_,_,_,r,hrow,?_⟩
  have hsz:w0.heap.size≤wl.heap.size:=El.size
  refine (ih j hlt r wl L' F' (jGA hall hlt) hTk hPl hok' (fun b hb hs=>(hF' b hb).elim (fun h=>hFS b h hs) (fun h=>by have:=hSw b hs;omega)) (fun b hs=>by have:=hSw b hs;omega)).mono ?_
  rintro _ w8 ⟨r1,r2,rfl,hr,F8,hP8,E8,hF8⟩
  have e1:r1=(Sp.grow L' ks[j]).1:=congrArg Prod.fst hr
  have e2:r2=(Sp.grow L' ks[j]).2.1:=congrArg Prod.snd hr
  rw [List.drop_eq_getElem_cons hlt] at heq
  have hF8':∀b,F8 b→F b∨w0.heap.size≤b:=fun b hb=>(hF8 b hb).elim (hF' b) (fun h=>by right;omega)
  have Ew8:Ext F w0 w8:=El.trans' E8 (fun i hi h=>(hF' i h).elim id (fun h=>by omega))
  refine ⟨_,_,rfl,E8.kept (fun b hH hF=>hv b hF hH),fun h=>?_,fun h=>?_⟩
  ·have h:(Sp.grow L' ks[j]).2.1≠0:=by rw [← e2];simpa using h
   rw [jFF h] at heq
   refine hK _ _ _ ?_
   rw [heq];exact ⟨by rw [e2],F8,hP8,Ew8,hF8'⟩
  ·have h:(Sp.grow L' ks[j]).2.1=0:=by rw [← e2];simpa using h
   rw [jDK h] at heq
   intro H3 w9 hs9
   have hv8:∀b,F8 b→¬ Hl b:=fun b hb hH=>(hF8 b hb).elim (fun h=>hv b h hH) (fun h=>by have:=hl.lt b hH;omega)
   have hv9:∀b,F8 b→¬ H3 b:=hs9.disj (fun b hb=>⟨hP8.lt hb,hv8 b hb⟩)
   rw [vV hlt (by omega)]
   refine ⟨⟨j+1,rfl,hlt,_,F8,?_,(Sp.xJ ks[j] L' hok').1,hP8.ext hs9.ext hv9,hF8',hv9,Ew8.hst hs9⟩,jCE hlt⟩
   rw [heq,e1]
   have hj0:(((j:Int)) == 0)=decide (j=0):=by rw [Bool.eq_iff_iff];simp
   rw [hj0]
   by_cases hj0':j=0
   ·subst hj0';rfl
   ·simp [hj0']
 ·have hge:=xU hlen hj h
  rw [hge,List.drop_length,Sp.vE] at heq
  refine (jKD p ⟨a1,a2,a3,a4,a5,a6,a7⟩ wl hPl hok').mono ?_
  rintro _ w9 ⟨r1,r2,rfl,hr,F9,hP9,E9,hF9⟩
  have hsz:w0.heap.size≤wl.heap.size:=El.size
  refine ⟨_,_,rfl,E9.kept (fun b hH hF=>hv b hF hH),hK _ _ _ ?_⟩
  rw [heq]
  exact ⟨hr,F9,hP9,El.trans' E9 (fun i hi h=>(hF' i h).elim id (fun h=>by omega)),fun b hb=>(hF9 b hb).elim (hF' b) (fun h=>by right;omega)⟩
theorem jHQ (t:Sp.Tree):∀L,(Sp.grow L t).2.1≠0→(Sp.grow L t).1=0:=by
 induction t using Sp.Tree.ind with
 | h k f t u x ks ih =>
  have hmk:∀L n,(Sp.make L n).2.1≠0→(Sp.make L n).1=0:=by
   intro L n h;unfold Sp.make at h ⊢;simp only at h ⊢;split at h
   ·rename_i h1;rw [if_pos h1]
   ·rename_i h1;rw [if_neg h1];split at h
    ·rename_i hf;exact absurd rfl h
    ·split at h
     ·rename_i h2;simp [h2]
     ·exact absurd rfl h
  have:∀(ks:List Sp.Tree),(∀i (hi:i<ks.length),∀L,(Sp.grow L ks[i]).2.1≠0→(Sp.grow L ks[i]).1=0)→∀n i L,(Sp.vE n i L ks).2.1≠0→(Sp.vE n i L ks).1=0:=by
   intro ks;induction ks with
   | nil=>intro _ n i L h;unfold Sp.vE at h ⊢;exact hmk L n h
   | cons t ts iht =>
    intro hh n i L h
    unfold Sp.vE at h ⊢
    split at h
    ·rename_i h1;rw [if_pos h1]
    ·rename_i h1;rw [if_neg h1];exact iht (fun i hi=>hh (i+1) (by simpa using hi)) _ _ _ h
  intro L h
  unfold Sp.grow at h ⊢
  exact this ks ih _ _ L h
theorem jPD {S:NP} (p:Addr) (t:Sp.Tree) (s:Sl) (w0:World) {L:Sp.Pool} {F:NP} (hT:TreeAt S w0 s t) (hP:yB w0 p L F) (hok:Sp.Ok L) (hFS:∀b,F b→¬ S b) (hSw:∀b,S b→b<w0.heap.size) :
  Calls prog 100 #[.pointer (some p),.agg (xN t s).toArray] w0
   (fun e w'=>∃r1:Int,∃r2:Int,e=.returned (.tuple #[.int .i64 r1,.int .i64 r2])∧((r1,r2)=((Sp.of L t).1,(Sp.of L t).2.1)∧∃F',yB w' p (Sp.of L t).2.2 F'∧Ext F w0 w'∧∀b,F' b→F b∨w0.heap.size≤b)):=by
 obtain ⟨k,f,to,u,x,ks⟩:=t
 suffices key:∀K:Int→Int→WP,(∀r1 r2 w',((r1,r2)=((Sp.of L (.mk k f to u x ks)).1,(Sp.of L (.mk k f to u x ks)).2.1)∧∃F',yB w' p (Sp.of L (.mk k f to u x ks)).2.2 F'∧Ext F w0 w'∧∀b,F' b→F b∨w0.heap.size≤b)→K r1 r2 w')→m_T1 (some p) k f to u x s w0 K from
  w_T1 _ _ _ _ _ _ _ w0 _ (key _ (fun _ _ _ h=>h))
 intro K hK
 unfold m_T1
 intro H1 w1 hs1
 have E1:=hs1.first
 generalize ht:Sp.Tree.mk k f to u x ks=t at *
 have htr:(Value.agg #[.int .i64 k,.int .i64 f,.int .i64 to,.int .u64 u,.string x,s.v])=.agg (xN t s).toArray:=by rw [← ht];rfl
 rw [htr]
 refine (jHY t s w1 (hT.pure E1) (fun b hb=>by have:=hSw b hb;have:=E1.size;omega)).mono ?_
 rintro _ w2 ⟨r1,rfl,rfl,E2⟩
 have E12:=E1.trans E2
 refine ⟨_,rfl,E2.keptP,fun h=>?_,fun h=>?_⟩
 ·have h:(Sp.qD 0 0 t).1≠0:=by simpa using h
  have:Sp.of L t=(0,(Sp.qD 0 0 t).1,L):=by rw [Sp.of,if_pos h]
  refine hK _ _ _ ?_
  rw [this];exact ⟨rfl,F,hP.pure E12,E12.pure,fun _ h=>.inl h⟩
 ·have h:(Sp.qD 0 0 t).1=0:=by simpa using h
  have hP2:=hP.pure E12
  have hv:∀b,F b→¬ H1 b:=hs1.disj0 (fun b hb=>hP.lt hb)
  obtain ⟨s1,s2,s3,hS,hF0⟩:=id hP2
  have hl0:s1.len=L.length:=by rw [hS.r1.len];simp
  refine ⟨p,rfl,s1,hS.box.cell0,?_⟩
  refine (jKB p t s w2 L F (jJG t _ _ h) (hT.pure E12) hP2 hok hFS (fun b hb=>by have:=hSw b hb;have:=E12.size;omega)).mono ?_
  rintro _ w5 ⟨r1,r2,rfl,hr,F5,hP5,E5,hF5⟩
  have e1:r1=(Sp.grow L t).1:=congrArg Prod.fst hr
  have e2:r2=(Sp.grow L t).2.1:=congrArg Prod.snd hr
  have hs4:w0.heap.size≤w2.heap.size:=E12.size
  have E05:Ext F w0 w5:=E12.pure.trans E5
  have hF5':∀b,F5 b→F b∨w0.heap.size≤b:=fun b hb=>(hF5 b hb).elim .inl (fun h=>.inr (by omega))
  have hs2:=hs1.again E2.keptP
  have hv5:∀b,F5 b→¬ H1 b:=fun b hb hH=>(hF5 b hb).elim (fun h=>hv b h hH) (fun h=>by have:=hs2.lt b hH;omega)
  refine ⟨_,_,rfl,E5.kept (fun b hH hF=>hv b hF hH),fun h'=>?_,fun h'=>?_⟩
  ·have h':(Sp.grow L t).2.1≠0:=by rw [← e2];simpa using h'
   obtain ⟨hok5,M,hM⟩:=Sp.xJ t L hok
   rw [hl0]
   refine (jLV p L.length w5 hP5 (by rw [hM];simp)).mono ?_
   rintro _ w6 ⟨rfl,hP6,E6⟩
   have:Sp.of L t=(0,(Sp.grow L t).2.1,L):=by rw [Sp.of,if_neg (by simp [h]),if_pos h']
   refine ⟨rfl,E6.kept (fun b hH hF=>hv5 b hF hH),hK _ _ _ ?_⟩
   rw [this]
   rw [hM,List.take_left] at hP6
   exact ⟨by rw [e1,e2,jHQ t L h'],F5,hP6,E05.trans' E6 (fun i hi h=>(hF5' i h).elim id (fun h=>by omega)),hF5'⟩
  ·have h':(Sp.grow L t).2.1=0:=by rw [← e2];simpa using h'
   have:Sp.of L t=((Sp.grow L t).1,0,(Sp.grow L t).2.2):=by rw [Sp.of,if_neg (by simp [h]),if_neg (by simp [h'])]
   refine hK _ _ _ ?_
   rw [this]
   exact ⟨by rw [e1,e2,h'],F5,hP5,E05,hF5'⟩
end Go.Proofs
end
section
namespace Go.Sp
theorem jCH {L:Pool} {n:Node} {i:Nat} (h:find L n=some i):∃hi:i<L.length,L[i].node=n:=by
 unfold find at h;rw [List.findIdx?_eq_some_iff_getElem] at h;obtain ⟨hi,h1,_⟩:=h;exact ⟨hi,by simpa using h1⟩
theorem xQ {L:Pool} {n:Node} (h:(make L n).2.1=0):inP (make L n).2.2 (make L n).1=true∧nodeOf (make L n).2.2 (make L n).1=n∧(check L n).2.2=0:=by
 unfold make at h ⊢;simp only at h ⊢;by_cases hc:(check L n).2.2≠0
 ·rw [if_pos hc] at h;exact absurd h hc
 ·rw [if_neg hc] at h ⊢;have hc:(check L n).2.2=0:=by simpa using hc
  cases hf:find L n with
  | some i =>
   obtain ⟨hi,hn⟩:=jCH hf
   simp only
   exact ⟨zY.2 ⟨by omega,by omega⟩,by rw [qC hi,hn],hc⟩
  | none =>
   rw [hf] at h
   simp only at h ⊢
   split at h
   ·simp at h
   ·rename_i hl
    rw [if_neg hl]
    simp only
    have hi:L.length<(L++[(⟨n,(check L n).1,(check L n).2.1⟩:Ent)]).length:=by simp
    refine ⟨zY.2 ⟨by omega,by simp⟩,?_,hc⟩
    rw [qC hi]
    simp
theorem uZ (L:Pool) (n:Node):∃M,(make L n).2.2=L++M:=jGI L n
inductive Good:Tree→Prop
 | mk (k f t u:Int) (x:ByteArray) (ks:List Tree) (own:qW ⟨k,f,t,u,x,0,0⟩ ks.length=0) (kids:∀i (hi:i<ks.length),Good ks[i]):Good (.mk k f t u x ks)
theorem jOS (t:Tree):∀i n:Int,(qD i n t).1=0→Good t:=by
 induction t using Tree.ind with
 | h k f t u x ks ih =>
  have hA:∀(ks:List Tree),(∀i (hi:i<ks.length),∀j n:Int,(qD j n ks[i]).1=0→Good ks[i])→∀i e n:Int,(vK i e n ks).1=0→e=0∧∀i (hi:i<ks.length),Good ks[i]:=by
   intro ks;induction ks with
   | nil=>intro _ i e n h;exact ⟨by simpa [vK] using h,fun i hi=>by simp at hi⟩
   | cons t ts iht =>
    intro hh i e n h
    unfold vK at h
    split at h
    ·rename_i he
     have:=iht (fun i hi=>hh (i+1) (by simpa using hi)) _ _ _ h
     refine ⟨he,fun j hj=>?_⟩
     cases j with
     | zero=>exact hh 0 (by simp) i n this.1
     | succ j=>exact this.2 j (by simpa using hj)
    ·rename_i he;exact absurd h he
  intro i n h
  unfold qD at h
  split at h
  ·cases h
  ·split at h
   ·cases h
   ·have:=hA ks ih _ _ _ h
    exact .mk _ _ _ _ _ _ this.1 this.2
theorem Good.inv {k f t u:Int} {x:ByteArray} {ks:List Tree} (h:Good (.mk k f t u x ks)):vA ⟨k,f,t,u,x,0,0⟩=0∧(ks.length:Int)=(shapeOf k).kids∧zZ (shapeOf k) ⟨k,f,t,u,x,0,0⟩=0∧∀i (hi:i<ks.length),Good ks[i]:=by
 cases h with
 | mk _ _ _ _ _ _ own kids =>
  unfold qW at own
  simp only at own
  by_cases hp:vA ⟨k,f,t,u,x,0,0⟩=0
  ·rw [if_pos hp] at own
   by_cases hl:(ks.length:Int)≠(shapeOf k).kids
   ·rw [if_pos hl] at own;simp at own
   ·rw [if_neg hl] at own
    simp at own
    exact ⟨hp,by simpa using hl,own,kids⟩
  ·rw [if_neg hp,if_neg hp] at own;exact absurd own hp
theorem jRM (x:Tree):∀L,Wf L→Good x→(grow L x).2.1=0→inP (grow L x).2.2 (grow L x).1=true∧zH (grow L x).2.2 (grow L x).1=x:=by
 induction x using Tree.ind with
 | h k f t u x ks ih =>
  intro L hW hG h0
  obtain ⟨_,hlen,_,hk⟩:=hG.inv
  have fin:∀(n:Node) (L':Pool),Wf L'→n.kind=k→n.frm=f→n.to=t→n.num=u→n.text=x→(make L' n).2.1=0→(zI n).map (zH L')=ks→inP (make L' n).2.2 (make L' n).1=true∧zH (make L' n).2.2 (make L' n).1=.mk k f t u x ks:=by
   intro n L' hW' e1 e2 e3 e4 e5 hm hks;obtain ⟨hin,hnode,hc⟩:=xQ hm;refine ⟨hin,?_⟩;rw [vW (xP hW' n) hin,hnode,e1,e2,e3,e4,e5,← hks];congr 1;refine List.map_congr_left (fun q hq=>?_);obtain ⟨M,hM⟩:=uZ L' n;have hq':=(jGQ hc).2.2.2.2.1 q hq;rw [hM];have hwf:=xP hW' n;rw [hM] at hwf;exact lN hwf _ q rfl hq'
  rw [grow] at h0 ⊢
  match ks,ih,hlen,hk,fin,h0 with
  | [],_,hlen,_,fin,h0 =>
   rw [vE] at h0 ⊢
   have hz:(shapeOf k).kids=0:=by simpa using hlen.symm
   exact fin _ L hW rfl rfl rfl rfl rfl h0 (by simp [zI,hz])
  | [a],ih,hlen,hk,fin,h0 =>
   have hz:(shapeOf k).kids=1:=by simpa using hlen.symm
   rw [vE] at h0 ⊢
   by_cases ha:(grow L a).2.1≠0
   ·rw [if_pos ha] at h0;exact absurd h0 ha
   ·rw [if_neg ha] at h0 ⊢
    have ha:(grow L a).2.1=0:=by simpa using ha
    obtain ⟨i1,t1⟩:=ih 0 (by simp) L hW (hk 0 (by simp)) ha
    simp only [List.getElem_cons_zero] at i1 t1
    rw [vE] at h0 ⊢
    exact fin _ _ (jHP a L hW) rfl rfl rfl rfl rfl h0 (by simp [zI,hz,t1])
  | [a,b],ih,hlen,hk,fin,h0 =>
   have hz:(shapeOf k).kids=2:=by simpa using hlen.symm
   rw [vE] at h0 ⊢
   by_cases ha:(grow L a).2.1≠0
   ·rw [if_pos ha] at h0;exact absurd h0 ha
   ·rw [if_neg ha] at h0 ⊢
    have ha:(grow L a).2.1=0:=by simpa using ha
    have hW1:=jHP a L hW
    obtain ⟨i1,t1⟩:=ih 0 (by simp) L hW (hk 0 (by simp)) ha
    simp only [List.getElem_cons_zero] at i1 t1
    rw [vE] at h0 ⊢
    by_cases hb:(grow (grow L a).2.2 b).2.1≠0
    ·rw [if_pos hb] at h0;exact absurd h0 hb
    ·rw [if_neg hb] at h0 ⊢
     have hb:(grow (grow L a).2.2 b).2.1=0:=by simpa using hb
     have hW2:=jHP b _ hW1
     obtain ⟨i2,t2⟩:=ih 1 (by simp) (grow L a).2.2 hW1 (hk 1 (by simp)) hb
     simp only [List.getElem_cons_succ,List.getElem_cons_zero] at i2 t2
     obtain ⟨M,hM⟩:=(xJ b (grow L a).2.2 hW1.ok).2
     have t1':zH (grow (grow L a).2.2 b).2.2 (grow L a).1=a:=by
      rw [hM] at hW2 ⊢;exact (lN hW2 _ _ rfl i1).trans t1
     rw [vE] at h0 ⊢
     exact fin _ _ hW2 rfl rfl rfl rfl rfl h0 (by simp [zI,hz,t1',t2])
  | a :: b :: c :: ks,_,hlen,_,_,_ =>
   have:=yO k
   simp only [List.length_cons] at hlen
   omega
theorem jQW {L:Pool} (hW:Wf L) {x:Tree} (h:(of L x).2.1=0):inP (of L x).2.2 (of L x).1=true∧zH (of L x).2.2 (of L x).1=x∧Good x:=by
 unfold of at h ⊢;by_cases h1:(qD 0 0 x).1≠0
 ·rw [if_pos h1] at h;exact absurd h h1
 ·rw [if_neg h1] at h ⊢;have hg:=jOS x 0 0 (by simpa using h1);by_cases h2:(grow L x).2.1≠0
  ·rw [if_pos h2] at h;exact absurd h h2
  ·rw [if_neg h2] at h ⊢;have:=jRM x L hW hg (by simpa using h2);exact ⟨this.1,this.2,hg⟩
theorem xE {L:Pool} (hW:Wf L):∀(n:Nat) (s t:Int),s.toNat+t.toNat=n→inP L s=true→inP L t=true→zH L s=zH L t→s=t:=by
 intro n;induction n using Nat.strongRecOn with
 | _ n ih =>
  intro s t hn hs ht he
  rw [vW hW hs,vW hW ht] at he
  injection he with e1 e2 e3 e4 e5 e6
  obtain ⟨i,hi,rfl⟩:=tB hs
  obtain ⟨j,hj,rfl⟩:=tB ht
  have hki:=(hW.node hs)
  have hkj:=(hW.node ht)
  rw [qC hi] at e1 e2 e3 e4 e5 e6 hki
  rw [qC hj] at e1 e2 e3 e4 e5 e6 hkj
  generalize hni:L[i].node=ni at *
  generalize hnj:L[j].node=nj at *
  have hsame:∀a∈zI ni,∀b∈zI nj,zH L a=zH L b→a=b:=by
   intro a ha b hb hab;have h1:=hki.2.2.2.2.1 a ha;have h2:=hkj.2.2.2.2.1 b hb;have p1:=zY.1 h1.1;have p2:=zY.1 h2.1;exact ih (a.toNat+b.toNat) (by omega) a b rfl h1.1 h2.1 hab
  have hab:ni.a=nj.a∧ni.b=nj.b:=by
   have z1:=hki.2.1;have z2:=hki.2.2.1;have z3:=hkj.2.1;have z4:=hkj.2.2.1;unfold zI at e6 hsame;rw [← e1] at e6 hsame z3 z4;rcases yO ni.kind with h | h | h <;> rw [h] at e6 hsame z1 z2 z3 z4
   ·exact ⟨by rw [z1 (by omega),z3 (by omega)],by rw [z2 (by omega),z4 (by omega)]⟩
   ·simp at e6 hsame;exact ⟨hsame e6,by rw [z2 (by omega),z4 (by omega)]⟩
   ·simp at e6 hsame;exact ⟨hsame.1.1 e6.1,hsame.2.2 e6.2⟩
  have hnn:L[i].node=L[j].node:=by
   rw [hni,hnj];obtain ⟨_,_,_,_,_,_,_⟩:=ni;obtain ⟨_,_,_,_,_,_,_⟩:=nj;simp at e1 e2 e3 e4 e5 hab;simp [e1,e2,e3,e4,e5,hab]
  have:=List.pairwise_iff_getElem.1 hW.ok.nodup
  have hij:i=j:=by
   rcases Nat.lt_trichotomy i j with h | h | h
   ·exact absurd (by rw [List.getElem_map,List.getElem_map];exact hnn) (this i j (by simpa using hi) (by simpa using hj) h)
   ·exact h
   ·exact absurd (by rw [List.getElem_map,List.getElem_map];exact hnn.symm) (this j i (by simpa using hj) (by simpa using hi) h)
  rw [hij]
end Go.Sp
end
section
namespace Go.Sp
mutual
def cnt:Tree→Nat
 | .mk _ _ _ _ _ ks=>1+jUO ks
def jUO:List Tree→Nat
 | []=>0
 | t :: ts=>cnt t+jUO ts
end
mutual
def parts (most:Int):Tree→Int
 | .mk _ _ _ _ _ ks=>jMY most 1 ks
def jMY (most n:Int):List Tree→Int
 | []=>n
 | t :: ts=>if n≤most then jMY most (n+parts (most - n) t) ts else n
end
mutual
def same:Tree→Tree→Bool
 | .mk k f t u x ks,.mk k' f' t' u' x' ks'=>decide (k=k') && decide (f=f') && decide (t=t') && decide (u=u') && decide (x=x') && jQD ks ks'
def jQD:List Tree→List Tree→Bool
 | [],[]=>true
 | t :: ts,t' :: ts'=>same t t' && jQD ts ts'
 | _,_=>false
end
end Go.Sp
end
section
open Go Go.SE
namespace Go.Proofs
attribute [local irreducible] Calls
theorem TreeAt.hst {S:NP} {w0 w w':World} {H H':NP} {s:Sl} {t:Sp.Tree} (h:TreeAt S w s t) (hs:Hst w0 H w H' w') (hd:∀b,S b→b<w.heap.size∧¬ H b):TreeAt S w' s t :=
 h.ext hs.ext (fun b hb hh=>hs.disj (G:=S) hd b hb hh)
end Go.Proofs
end
section
open Go Go.SE
open Go.IntKind renaming i64 → q6
namespace Go.Proofs
open Tryz
set_option maxRecDepth 100000
set_option maxHeartbeats 4000000
attribute [local irreducible] wpL wpX opE wpE Calls
def m_Y1 (gB gC gD:Int) (gE:ByteArray) (gF first1 second1:Bool) (w:World) (K:Int→Int→Int→Int→ByteArray→Sl→WP):Prop :=∀(p1:Addr) (w1:World),New w (.cells #[(vi gB),(vi gC),(vu gD),(vs gE),(vb gF)] 30) p1 w1→∀(p2:Addr) (w2:World),New w1 (.cells #[(vi 0),(vi 0),(vi 0),(vu 0),ve,Sl.nil.v] 76) p2 w2→∃v1:Int,w2.cell? (p1.add 2)=some (vu v1)∧∃v2:ByteArray,w2.cell? (p1.add 3)=some (vs v2)∧Calls prog 86 #[(vu v1),(vs v2)] w2 (fun e w3=>∃aE aF:Int,∃aG aD:Int,∃aH:ByteArray,∃bK:Sl,e=.returned (.agg #[(vi aE),(vi aF),(vi aG),(vu aD),(vs aH),bK.v])∧∀(p3:Addr) (w4:World),New w3 (.cells #[(vi 0),(vi 0),(vi 0),(vu 0),ve,Sl.nil.v] 76) p3 w4→(∀j,j<6→CanW w4 (p3.add j))∧∀w5:World,w5=storeRow w4 p3 [(vi aE),(vi aF),(vi aG),(vu aD),(vs aH),bK.v]→∃v3:Int,w5.cell? p1=some (vi v3)∧Br (v3 == 1) (∃v4:Int,w5.cell? (p1.add 1)=some (vi v4)∧∃aL aM:Int,∃aR aS:Int,∃aN:ByteArray,∃bA:Sl,Row w5 p3 [(vi aL),(vi aM),(vi aR),(vu aS),(vs aN),bA.v]∧∃v5:Bool,w5.cell? (p1.add 4)=some (vb v5)∧Calls prog 87 #[(vi v4),(.agg #[(vi aL),(vi aM),(vi aR),(vu aS),(vs aN),bA.v]),(vb v5)] w5 (fun e w6=>∃bB bC:Int,∃bL aT:Int,∃aX:ByteArray,∃eX:Sl,e=.returned (.agg #[(vi bB),(vi bC),(vi bL),(vu aT),(vs aX),eX.v])∧(∀j,j<6→CanW w6 (p2.add j))∧∀w7:World,w7=storeRow w6 p2 [(vi bB),(vi bC),(vi bL),(vu aT),(vs aX),eX.v]→∃aA aB:Int,∃aI aJ:Int,∃aC:ByteArray,∃aK:Sl,Row w7 p2 [(vi aA),(vi aB),(vi aI),(vu aJ),(vs aC),aK.v]∧K aA aB aI aJ aC aK w7)) (Br (v3 == 2) (∃v6:Int,w5.cell? (p1.add 1)=some (vi v6)∧∃bD bE:Int,∃bO bP:Int,∃bF:ByteArray,∃bQ:Sl,Row w5 p3 [(vi bD),(vi bE),(vi bO),(vu bP),(vs bF),bQ.v]∧Calls prog 88 #[(vi v6),(.agg #[(vi bD),(vi bE),(vi bO),(vu bP),(vs bF),bQ.v])] w5 (fun e w8=>∃bR bS:Int,∃cW cX:Int,∃bG:ByteArray,∃eY:Sl,e=.returned (.agg #[(vi bR),(vi bS),(vi cW),(vu cX),(vs bG),eY.v])∧(∀j,j<6→CanW w8 (p2.add j))∧∀w9:World,w9=storeRow w8 p2 [(vi bR),(vi bS),(vi cW),(vu cX),(vs bG),eY.v]→∃aO aP:Int,∃bT bU:Int,∃aQ:ByteArray,∃dD:Sl,Row w9 p2 [(vi aO),(vi aP),(vi bT),(vu bU),(vs aQ),dD.v]∧K aO aP bT bU aQ dD w9)) (Br (v3 == 3) (∃C1:WP,C1 w5.drew∧∀w10,w10=w5.drew→∃v7:Int,(∀w',C1 w'→w'.cell? (p1.add 2)=some (vu v7))∧Calls prog 90 #[(vs (⟨#[97,98,111,114,116]⟩:ByteArray))] w10 (fun e w11=>∃bH bI:Int,∃fU fV:Int,∃bJ:ByteArray,∃fW:Sl,e=.returned (.agg #[(vi bH),(vi bI),(vi fU),(vu fV),(vs bJ),fW.v])∧C1 w11∧Calls prog 91 #[(vu v7)] w11 (fun e w12=>∃cT cU:Int,∃eZ fA:Int,∃cV:ByteArray,∃fB:Sl,e=.returned (.agg #[(vi cT),(vi cU),(vi eZ),(vu fA),(vs cV),fB.v])∧Calls prog 89 #[(.agg #[(vi bH),(vi bI),(vi fU),(vu fV),(vs bJ),fW.v]),(.agg #[(vi cT),(vi cU),(vi eZ),(vu fA),(vs cV),fB.v])] w12 (fun e w13=>∃dU dV:Int,∃gG gH:Int,∃dW:ByteArray,∃gI:Sl,e=.returned (.agg #[(vi dU),(vi dV),(vi gG),(vu gH),(vs dW),gI.v])∧Calls prog 88 #[(vi 0),(.agg #[(vi dU),(vi dV),(vi gG),(vu gH),(vs dW),gI.v])] w13 (fun e w14=>∃eI eJ:Int,∃jF jG:Int,∃eK:ByteArray,∃jH:Sl,e=.returned (.agg #[(vi eI),(vi eJ),(vi jF),(vu jG),(vs eK),jH.v])∧(∀j,j<6→CanW w14 (p2.add j))∧∀w15:World,w15=storeRow w14 p2 [(vi eI),(vi eJ),(vi jF),(vu jG),(vs eK),jH.v]→∃aU aV:Int,∃dE dF:Int,∃aW:ByteArray,∃gJ:Sl,Row w15 p2 [(vi aU),(vi aV),(vi dE),(vu dF),(vs aW),gJ.v]∧K aU aV dE dF aW gJ w15))))) (Br (v3 == 4) (∃C2:WP,C2 w5.drew∧∀w16,w16=w5.drew→∃v8:Int,(∀w',C2 w'→w'.cell? (p1.add 1)=some (vi v8))∧∃dG dH:Int,∃gK gL:Int,∃dI:ByteArray,∃gM:Sl,(∀w',C2 w'→Row w' p3 [(vi dG),(vi dH),(vi gK),(vu gL),(vs dI),gM.v])∧∃v9:Bool,(∀w',C2 w'→w'.cell? (p1.add 4)=some (vb v9))∧∃cY cZ:Int,∃fC fD:Int,∃dA:ByteArray,∃fE:Sl,(∀w',C2 w'→Row w' p3 [(vi cY),(vi cZ),(vi fC),(vu fD),(vs dA),fE.v])∧∃v10:Bool,(∀w',C2 w'→w'.cell? (p1.add 4)=some (vb v10))∧Calls prog 90 #[(vs (⟨#[114,101,115,111,108,118,101]⟩:ByteArray))] w16 (fun e w17=>∃dX dY:Int,∃gN gO:Int,∃dZ:ByteArray,∃gP:Sl,e=.returned (.agg #[(vi dX),(vi dY),(vi gN),(vu gO),(vs dZ),gP.v])∧C2 w17∧Br v9 (Calls prog 87 #[(vi 0),(.agg #[(vi dG),(vi dH),(vi gK),(vu gL),(vs dI),gM.v]),(vb first1)] w17 (fun e w18=>∃eL eM:Int,∃jI jJ:Int,∃eN:ByteArray,∃jK:Sl,e=.returned (.agg #[(vi eL),(vi eM),(vi jI),(vu jJ),(vs eN),jK.v])∧C2 w18∧Br v10 (Calls prog 87 #[(vi 1),(.agg #[(vi cY),(vi cZ),(vi fC),(vu fD),(vs dA),fE.v]),(vb second1)] w18 (fun e w19=>∃eC eD:Int,∃lU lV:Int,∃eE:ByteArray,∃lW:Sl,e=.returned (.agg #[(vi eC),(vi eD),(vi lU),(vu lV),(vs eE),lW.v])∧C2 w19∧Calls prog 89 #[(.agg #[(vi eL),(vi eM),(vi jI),(vu jJ),(vs eN),jK.v]),(.agg #[(vi eC),(vi eD),(vi lU),(vu lV),(vs eE),lW.v])] w19 (fun e w20=>∃fF fG:Int,∃lX lY:Int,∃fH:ByteArray,∃lZ:Sl,e=.returned (.agg #[(vi fF),(vi fG),(vi lX),(vu lY),(vs fH),lZ.v])∧C2 w20∧Calls prog 89 #[(.agg #[(vi dX),(vi dY),(vi gN),(vu gO),(vs dZ),gP.v]),(.agg #[(vi fF),(vi fG),(vi lX),(vu lY),(vs fH),lZ.v])] w20 (fun e w21=>∃fI fJ:Int,∃mA mB:Int,∃fK:ByteArray,∃mC:Sl,e=.returned (.agg #[(vi fI),(vi fJ),(vi mA),(vu mB),(vs fK),mC.v])∧C2 w21∧Calls prog 88 #[(vi v8),(.agg #[(vi fI),(vi fJ),(vi mA),(vu mB),(vs fK),mC.v])] w21 (fun e w22=>∃eO eP:Int,∃jL jM:Int,∃eQ:ByteArray,∃jN:Sl,e=.returned (.agg #[(vi eO),(vi eP),(vi jL),(vu jM),(vs eQ),jN.v])∧(∀j,j<6→CanW w22 (p2.add j))∧∀w23:World,w23=storeRow w22 p2 [(vi eO),(vi eP),(vi jL),(vu jM),(vs eQ),jN.v]→∃bV bW:Int,∃gQ gR:Int,∃bX:ByteArray,∃gS:Sl,Row w23 p2 [(vi bV),(vi bW),(vi gQ),(vu gR),(vs bX),gS.v]∧K bV bW gQ gR bX gS w23))))) (Calls prog 87 #[(vi 1),(.agg #[(vi cY),(vi cZ),(vi fC),(vu fD),(vs dA),fE.v]),(vb false)] w18 (fun e w24=>∃fL fM:Int,∃mD mE:Int,∃fN:ByteArray,∃mF:Sl,e=.returned (.agg #[(vi fL),(vi fM),(vi mD),(vu mE),(vs fN),mF.v])∧C2 w24∧Calls prog 89 #[(.agg #[(vi eL),(vi eM),(vi jI),(vu jJ),(vs eN),jK.v]),(.agg #[(vi fL),(vi fM),(vi mD),(vu mE),(vs fN),mF.v])] w24 (fun e w25=>∃eF eG:Int,∃mG mH:Int,∃eH:ByteArray,∃mI:Sl,e=.returned (.agg #[(vi eF),(vi eG),(vi mG),(vu mH),(vs eH),mI.v])∧C2 w25∧Calls prog 89 #[(.agg #[(vi dX),(vi dY),(vi gN),(vu gO),(vs dZ),gP.v]),(.agg #[(vi eF),(vi eG),(vi mG),(vu mH),(vs eH),mI.v])] w25 (fun e w26=>∃fO fP:Int,∃mJ mK:Int,∃fQ:ByteArray,∃mL:Sl,e=.returned (.agg #[(vi fO),(vi fP),(vi mJ),(vu mK),(vs fQ),mL.v])∧C2 w26∧Calls prog 88 #[(vi v8),(.agg #[(vi fO),(vi fP),(vi mJ),(vu mK),(vs fQ),mL.v])] w26 (fun e w27=>∃eR eS:Int,∃jO jP:Int,∃eT:ByteArray,∃jQ:Sl,e=.returned (.agg #[(vi eR),(vi eS),(vi jO),(vu jP),(vs eT),jQ.v])∧(∀j,j<6→CanW w27 (p2.add j))∧∀w28:World,w28=storeRow w27 p2 [(vi eR),(vi eS),(vi jO),(vu jP),(vs eT),jQ.v]→∃bY bZ:Int,∃gT gU:Int,∃cA:ByteArray,∃gV:Sl,Row w28 p2 [(vi bY),(vi bZ),(vi gT),(vu gU),(vs cA),gV.v]∧K bY bZ gT gU cA gV w28))))))) (Calls prog 87 #[(vi 0),(.agg #[(vi dG),(vi dH),(vi gK),(vu gL),(vs dI),gM.v]),(vb false)] w17 (fun e w29=>∃eU eV:Int,∃jR jS:Int,∃eW:ByteArray,∃jT:Sl,e=.returned (.agg #[(vi eU),(vi eV),(vi jR),(vu jS),(vs eW),jT.v])∧C2 w29∧Br v10 (Calls prog 87 #[(vi 1),(.agg #[(vi cY),(vi cZ),(vi fC),(vu fD),(vs dA),fE.v]),(vb second1)] w29 (fun e w30=>∃fR fS:Int,∃mM mN:Int,∃fT:ByteArray,∃mO:Sl,e=.returned (.agg #[(vi fR),(vi fS),(vi mM),(vu mN),(vs fT),mO.v])∧C2 w30∧Calls prog 89 #[(.agg #[(vi eU),(vi eV),(vi jR),(vu jS),(vs eW),jT.v]),(.agg #[(vi fR),(vi fS),(vi mM),(vu mN),(vs fT),mO.v])] w30 (fun e w31=>∃gW gX:Int,∃mP mQ:Int,∃gY:ByteArray,∃mR:Sl,e=.returned (.agg #[(vi gW),(vi gX),(vi mP),(vu mQ),(vs gY),mR.v])∧C2 w31∧Calls prog 89 #[(.agg #[(vi dX),(vi dY),(vi gN),(vu gO),(vs dZ),gP.v]),(.agg #[(vi gW),(vi gX),(vi mP),(vu mQ),(vs gY),mR.v])] w31 (fun e w32=>∃mS mT:Int,∃mU mV:Int,∃mW:ByteArray,∃mX:Sl,e=.returned (.agg #[(vi mS),(vi mT),(vi mU),(vu mV),(vs mW),mX.v])∧C2 w32∧Calls prog 88 #[(vi v8),(.agg #[(vi mS),(vi mT),(vi mU),(vu mV),(vs mW),mX.v])] w32 (fun e w33=>∃jU jV:Int,∃jW jX:Int,∃jY:ByteArray,∃jZ:Sl,e=.returned (.agg #[(vi jU),(vi jV),(vi jW),(vu jX),(vs jY),jZ.v])∧(∀j,j<6→CanW w33 (p2.add j))∧∀w34:World,w34=storeRow w33 p2 [(vi jU),(vi jV),(vi jW),(vu jX),(vs jY),jZ.v]→∃cB cC:Int,∃gZ hA:Int,∃cD:ByteArray,∃hB:Sl,Row w34 p2 [(vi cB),(vi cC),(vi gZ),(vu hA),(vs cD),hB.v]∧K cB cC gZ hA cD hB w34))))) (Calls prog 87 #[(vi 1),(.agg #[(vi cY),(vi cZ),(vi fC),(vu fD),(vs dA),fE.v]),(vb false)] w29 (fun e w35=>∃mY mZ:Int,∃nA nB:Int,∃nC:ByteArray,∃nD:Sl,e=.returned (.agg #[(vi mY),(vi mZ),(vi nA),(vu nB),(vs nC),nD.v])∧C2 w35∧Calls prog 89 #[(.agg #[(vi eU),(vi eV),(vi jR),(vu jS),(vs eW),jT.v]),(.agg #[(vi mY),(vi mZ),(vi nA),(vu nB),(vs nC),nD.v])] w35 (fun e w36=>∃nE nF:Int,∃nG nH:Int,∃nI:ByteArray,∃nJ:Sl,e=.returned (.agg #[(vi nE),(vi nF),(vi nG),(vu nH),(vs nI),nJ.v])∧C2 w36∧Calls prog 89 #[(.agg #[(vi dX),(vi dY),(vi gN),(vu gO),(vs dZ),gP.v]),(.agg #[(vi nE),(vi nF),(vi nG),(vu nH),(vs nI),nJ.v])] w36 (fun e w37=>∃nK nL:Int,∃nM nN:Int,∃nO:ByteArray,∃nP:Sl,e=.returned (.agg #[(vi nK),(vi nL),(vi nM),(vu nN),(vs nO),nP.v])∧C2 w37∧Calls prog 88 #[(vi v8),(.agg #[(vi nK),(vi nL),(vi nM),(vu nN),(vs nO),nP.v])] w37 (fun e w38=>∃kA kB:Int,∃kC kD:Int,∃kE:ByteArray,∃kF:Sl,e=.returned (.agg #[(vi kA),(vi kB),(vi kC),(vu kD),(vs kE),kF.v])∧(∀j,j<6→CanW w38 (p2.add j))∧∀w39:World,w39=storeRow w38 p2 [(vi kA),(vi kB),(vi kC),(vu kD),(vs kE),kF.v]→∃cE cF:Int,∃hD hE:Int,∃cG:ByteArray,∃hF:Sl,Row w39 p2 [(vi cE),(vi cF),(vi hD),(vu hE),(vs cG),hF.v]∧K cE cF hD hE cG hF w39))))))))) (Br (v3 == 5) (∃C3:WP,C3 w5.drew∧∀w40,w40=w5.drew→∃v11:Int,(∀w',C3 w'→w'.cell? (p1.add 2)=some (vu v11))∧Calls prog 90 #[(vs (⟨#[97,98,111,114,116,101,100]⟩:ByteArray))] w40 (fun e w41=>∃nQ nR:Int,∃nS nT:Int,∃nU:ByteArray,∃nV:Sl,e=.returned (.agg #[(vi nQ),(vi nR),(vi nS),(vu nT),(vs nU),nV.v])∧C3 w41∧Calls prog 91 #[(vu v11)] w41 (fun e w42=>∃nW nX:Int,∃nY nZ:Int,∃oA:ByteArray,∃oB:Sl,e=.returned (.agg #[(vi nW),(vi nX),(vi nY),(vu nZ),(vs oA),oB.v])∧Calls prog 89 #[(.agg #[(vi nQ),(vi nR),(vi nS),(vu nT),(vs nU),nV.v]),(.agg #[(vi nW),(vi nX),(vi nY),(vu nZ),(vs oA),oB.v])] w42 (fun e w43=>∃oC oD:Int,∃oE oF:Int,∃oG:ByteArray,∃oH:Sl,e=.returned (.agg #[(vi oC),(vi oD),(vi oE),(vu oF),(vs oG),oH.v])∧Calls prog 88 #[(vi 2),(.agg #[(vi oC),(vi oD),(vi oE),(vu oF),(vs oG),oH.v])] w43 (fun e w44=>∃kG kH:Int,∃kI kJ:Int,∃kK:ByteArray,∃kL:Sl,e=.returned (.agg #[(vi kG),(vi kH),(vi kI),(vu kJ),(vs kK),kL.v])∧(∀j,j<6→CanW w44 (p2.add j))∧∀w45:World,w45=storeRow w44 p2 [(vi kG),(vi kH),(vi kI),(vu kJ),(vs kK),kL.v]→∃dJ dK:Int,∃hG hI:Int,∃dL:ByteArray,∃hJ:Sl,Row w45 p2 [(vi dJ),(vi dK),(vi hG),(vu hI),(vs dL),hJ.v]∧K dJ dK hG hI dL hJ w45))))) (Br (v3 == 6) (∃C4:WP,C4 w5.drew∧∀w46,w46=w5.drew→∃iZ jA:Int,∃jB jC:Int,∃jD:ByteArray,∃jE:Sl,(∀w',C4 w'→Row w' p3 [(vi iZ),(vi jA),(vi jB),(vu jC),(vs jD),jE.v])∧Calls prog 90 #[(vs (⟨#[105,110,115,116,101,97,100]⟩:ByteArray))] w46 (fun e w47=>∃oI oJ:Int,∃oK oL:Int,∃oM:ByteArray,∃oN:Sl,e=.returned (.agg #[(vi oI),(vi oJ),(vi oK),(vu oL),(vs oM),oN.v])∧C4 w47∧Calls prog 89 #[(.agg #[(vi oI),(vi oJ),(vi oK),(vu oL),(vs oM),oN.v]),(.agg #[(vi iZ),(vi jA),(vi jB),(vu jC),(vs jD),jE.v])] w47 (fun e w48=>∃oO oP:Int,∃oQ oR:Int,∃oS:ByteArray,∃oT:Sl,e=.returned (.agg #[(vi oO),(vi oP),(vi oQ),(vu oR),(vs oS),oT.v])∧Calls prog 88 #[(vi 2),(.agg #[(vi oO),(vi oP),(vi oQ),(vu oR),(vs oS),oT.v])] w48 (fun e w49=>∃kM kN:Int,∃kO kP:Int,∃kQ:ByteArray,∃kR:Sl,e=.returned (.agg #[(vi kM),(vi kN),(vi kO),(vu kP),(vs kQ),kR.v])∧(∀j,j<6→CanW w49 (p2.add j))∧∀w50:World,w50=storeRow w49 p2 [(vi kM),(vi kN),(vi kO),(vu kP),(vs kQ),kR.v]→∃hK hL:Int,∃hM hN:Int,∃hO:ByteArray,∃hQ:Sl,Row w50 p2 [(vi hK),(vi hL),(vi hM),(vu hN),(vs hO),hQ.v]∧K hK hL hM hN hO hQ w50)))) (∃C5:WP,C5 w5.drew∧∀w51,w51=w5.drew→∃v12:Int,(∀w',C5 w'→w'.cell? (p1.add 2)=some (vu v12))∧Calls prog 90 #[(vs (⟨#[102,117,108,108]⟩:ByteArray))] w51 (fun e w52=>∃oU oV:Int,∃oW oX:Int,∃oY:ByteArray,∃oZ:Sl,e=.returned (.agg #[(vi oU),(vi oV),(vi oW),(vu oX),(vs oY),oZ.v])∧C5 w52∧Calls prog 91 #[(vu v12)] w52 (fun e w53=>∃pA pB:Int,∃pC pD:Int,∃pE:ByteArray,∃pF:Sl,e=.returned (.agg #[(vi pA),(vi pB),(vi pC),(vu pD),(vs pE),pF.v])∧Calls prog 89 #[(.agg #[(vi oU),(vi oV),(vi oW),(vu oX),(vs oY),oZ.v]),(.agg #[(vi pA),(vi pB),(vi pC),(vu pD),(vs pE),pF.v])] w53 (fun e w54=>∃kS kT:Int,∃kU kV:Int,∃kW:ByteArray,∃kX:Sl,e=.returned (.agg #[(vi kS),(vi kT),(vi kU),(vu kV),(vs kW),kX.v])∧(∀j,j<6→CanW w54 (p2.add j))∧∀w55:World,w55=storeRow w54 p2 [(vi kS),(vi kT),(vi kU),(vu kV),(vs kW),kX.v]→∃hR hS:Int,∃hT hU:Int,∃hV:ByteArray,∃hW:Sl,Row w55 p2 [(vi hR),(vi hS),(vi hT),(vu hU),(vs hV),hW.v]∧K hR hS hT hU hV hW w55))))))))))
theorem w_Y1 (gB gC gD:Int) (gE:ByteArray) (gF first1 second1:Bool) (w:World) (K:Int→Int→Int→Int→ByteArray→Sl→WP) (h:m_Y1 gB gC gD gE gF first1 second1 w K) :
  Calls prog 29 #[(.agg #[(vi gB),(vi gC),(vu gD),(vs gE),(vb gF)]),(vb first1),(vb second1)] w (fun e w'=>∃pG pH:Int,∃pI pJ:Int,∃pK:ByteArray,∃pL:Sl,e=.returned (.agg #[(vi pG),(vi pH),(vi pI),(vu pJ),(vs pK),pL.v])∧K pG pH pI pJ pK pL w'):=by
 unfold m_Y1 at h
 refine cw (args:=[(.agg #[(vi gB),(vi gC),(vu gD),(vs gE),(vb gF)]),(vb first1),(vb second1)]) func29 ntmps29 (eg (sn (O:=(.cells #[(vi gB),(vi gC),(vu gD),(vs gE),(vb gF)] 30)) xb ?_))
 intro p1 w1 hn14
 have h:=h p1 w1 hn14
 refine sn (O:=(.cells #[(vi 0),(vi 0),(vi 0),(vu 0),ve,Sl.nil.v] 76)) (zO (zeroValue76 _) rfl) ?_
 intro p2 w2 hn13
 have h:=h p2 w2 hn13
 refine ln (eg (q0 (vp (some (p1.add 2))) ?_))
 obtain ⟨v1,hv27,h⟩:=h
 refine q2 (vu v1) (xl (isAgg23 _) hv27) (q0 (vp (some (p1.add 3))) ?_)
 obtain ⟨v2,hv26,h⟩:=h
 refine q2 (vs v2) (xl (isAgg9 _) hv26) ?_
 refine sc call86 (h.mono ?_)
 rintro e w3 ⟨aE,aF,aG,aD,aH,bK,rfl,h⟩
 refine ⟨_,rfl,?_⟩
 refine sn (O:=(.cells #[(vi 0),(vi 0),(vi 0),(vu 0),ve,Sl.nil.v] 76)) (zO (zeroValue76 _) rfl) ?_
 intro p3 w4 hn12
 have h:=h p3 w4 hn12
 obtain ⟨hp1,h⟩:=h
 refine ss (xo p3 [(vi aE),(vi aF),(vi aG),(vu aD),(vs aH),bK.v] (sizeOf76 _) hp1) ?_
 intro w5 hn1
 have h:=h w5 hn1
 refine ln (zA (eg (q0 (vp (some p1)) ?_)))
 obtain ⟨v3,hv25,h⟩:=h
 refine q2 (vi v3) (xl (isAgg3 _) hv25) (ln (zQ (eg (q0 (vb (v3 == 1)) (q0 (vb (v3 == 1)) (ln ?_))))))
 refine zB (t:=(v3 == 1)) (by kernel_rfl) (fun hc1=>?_) (fun hc1=>?_)
 have h:=h.1 hc1
 refine eg (q0 (vp (some (p1.add 1))) ?_)
 obtain ⟨v4,hv4,h⟩:=h
 refine q2 (vi v4) (xl (isAgg3 _) hv4) ?_
 obtain ⟨aL,aM,aR,aS,aN,bA,hv3,h⟩:=h
 refine q2 (.agg #[(vi aL),(vi aM),(vi aR),(vu aS),(vs aN),bA.v]) (xa p3 [(vi aL),(vi aM),(vi aR),(vu aS),(vs aN),bA.v] (isAgg76 _) (sizeOf76 _) hv3) (q0 (vp (some (p1.add 4))) ?_)
 obtain ⟨v5,hv2,h⟩:=h
 refine q2 (vb v5) (xl (isAgg4 _) hv2) ?_
 refine sc call87 (h.mono ?_)
 rintro e w6 ⟨bB,bC,bL,aT,aX,eX,rfl,h⟩
 refine ⟨_,rfl,?_⟩
 obtain ⟨hp2,h⟩:=h
 refine ss (xo p2 [(vi bB),(vi bC),(vi bL),(vu aT),(vs aX),eX.v] (sizeOf76 _) hp2) ?_
 intro w7 hn2
 have h:=h w7 hn2
 refine ln (er (uK (vL ?_)))
 obtain ⟨aA,aB,aI,aJ,aC,aK,hv1,h⟩:=h
 refine uW (.inl rfl) (vs:=[(.agg #[(vi aA),(vi aB),(vi aI),(vu aJ),(vs aC),aK.v])]) (v:=(.agg #[(vi aA),(vi aB),(vi aI),(vu aJ),(vs aC),aK.v])) results29 ⟨(rva (isAgg76 _) (sizeOf76 _) hv1),trivial⟩ (by kernel_rfl) ?_
 exact ⟨aA,aB,aI,aJ,aC,aK,rfl,h⟩
 have h:=h.2 hc1
 refine eg (q0 (vb (v3 == 2)) (q0 (vb (v3 == 2)) (ln ?_)))
 refine zB (t:=(v3 == 2)) (by kernel_rfl) (fun hc2=>?_) (fun hc2=>?_)
 have h:=h.1 hc2
 refine eg (q0 (vp (some (p1.add 1))) ?_)
 obtain ⟨v6,hv7,h⟩:=h
 refine q2 (vi v6) (xl (isAgg3 _) hv7) ?_
 obtain ⟨bD,bE,bO,bP,bF,bQ,hv6,h⟩:=h
 refine q2 (.agg #[(vi bD),(vi bE),(vi bO),(vu bP),(vs bF),bQ.v]) (xa p3 [(vi bD),(vi bE),(vi bO),(vu bP),(vs bF),bQ.v] (isAgg76 _) (sizeOf76 _) hv6) ?_
 refine sc call88 (h.mono ?_)
 rintro e w8 ⟨bR,bS,cW,cX,bG,eY,rfl,h⟩
 refine ⟨_,rfl,?_⟩
 obtain ⟨hp3,h⟩:=h
 refine ss (xo p2 [(vi bR),(vi bS),(vi cW),(vu cX),(vs bG),eY.v] (sizeOf76 _) hp3) ?_
 intro w9 hn3
 have h:=h w9 hn3
 refine ln (er (uK (vL ?_)))
 obtain ⟨aO,aP,bT,bU,aQ,dD,hv5,h⟩:=h
 refine uW (.inl rfl) (vs:=[(.agg #[(vi aO),(vi aP),(vi bT),(vu bU),(vs aQ),dD.v])]) (v:=(.agg #[(vi aO),(vi aP),(vi bT),(vu bU),(vs aQ),dD.v])) results29 ⟨(rva (isAgg76 _) (sizeOf76 _) hv5),trivial⟩ (by kernel_rfl) ?_
 exact ⟨aO,aP,bT,bU,aQ,dD,rfl,h⟩
 have h:=h.2 hc2
 refine eg (q0 (vb (v3 == 3)) (q0 (vb (v3 == 3)) (ln ?_)))
 refine zB (t:=(v3 == 3)) (by kernel_rfl) (fun hc3=>?_) (fun hc3=>?_)
 have h:=h.1 hc3
 refine zA ?_
 obtain ⟨C1,hC,h⟩:=h
 refine vB C1 [0,3,4,5,6] [3,4,5,6] (by kernel_rfl) (by kernel_rfl) (by kernel_rfl) (by kernel_rfl) hC ?_
 intro w10 hw10
 have h:=h w10 hw10
 refine qx 1 (vp (some (p1.add 2))) Kp1 (qg 2 ?_)
 obtain ⟨v7,hv9,h⟩:=h
 refine sy (v:=(vu v7)) Kp2 (fun w' hw'=>(xl (isAgg23 _) (hv9 w' hw'))) (lg 0 ?_)
 refine slc Kp0 call90 (h.mono ?_)
 rintro e w11 ⟨bH,bI,fU,fV,bJ,fW,rfl,hC,h⟩
 refine ⟨_,rfl,.inr hC,?_⟩
 refine lg 3 ?_
 refine slc Kp3 call91 (h.mono ?_)
 rintro e w12 ⟨cT,cU,eZ,fA,cV,fB,rfl,h⟩
 refine ⟨_,rfl,.inl (by kernel_rfl),?_⟩
 refine lg 4 ?_
 refine slc Kp4 call89 (h.mono ?_)
 rintro e w13 ⟨dU,dV,gG,gH,dW,gI,rfl,h⟩
 refine ⟨_,rfl,.inl (by kernel_rfl),?_⟩
 refine lg 5 ?_
 refine slc Kp5 call88 (h.mono ?_)
 rintro e w14 ⟨eI,eJ,jF,jG,eK,jH,rfl,h⟩
 refine ⟨_,rfl,.inl (by kernel_rfl),?_⟩
 refine lg 6 ?_
 obtain ⟨hp4,h⟩:=h
 refine uB Kp6 (zJ rfl) (by kernel_rfl) (xo p2 [(vi eI),(vi eJ),(vi jF),(vu jG),(vs eK),jH.v] (sizeOf76 _) hp4) ?_
 intro w15 hn4
 have h:=h w15 hn4
 refine ⟨.inl (by kernel_rfl),?_⟩
 refine wn (zN (er (uK (vL ?_))))
 obtain ⟨aU,aV,dE,dF,aW,gJ,hv8,h⟩:=h
 refine uW (.inl rfl) (vs:=[(.agg #[(vi aU),(vi aV),(vi dE),(vu dF),(vs aW),gJ.v])]) (v:=(.agg #[(vi aU),(vi aV),(vi dE),(vu dF),(vs aW),gJ.v])) results29 ⟨(rva (isAgg76 _) (sizeOf76 _) hv8),trivial⟩ (by kernel_rfl) ?_
 exact ⟨aU,aV,dE,dF,aW,gJ,rfl,h⟩
 have h:=h.2 hc3
 refine eg (q0 (vb (v3 == 4)) (q0 (vb (v3 == 4)) (ln ?_)))
 refine zB (t:=(v3 == 4)) (by kernel_rfl) (fun hc4=>?_) (fun hc4=>?_)
 have h:=h.1 hc4
 refine zA ?_
 obtain ⟨C2,hC,h⟩:=h
 refine vB C2 [2,9,16,17,18,19,20] [19,20] (by kernel_rfl) (by kernel_rfl) (by kernel_rfl) (by kernel_rfl) hC ?_
 intro w16 hw16
 have h:=h w16 hw16
 refine qx 0 (vp (some (p1.add 1))) Kp0 (qg 1 ?_)
 obtain ⟨v8,hv18,h⟩:=h
 refine sy (v:=(vi v8)) Kp1 (fun w' hw'=>(xl (isAgg3 _) (hv18 w' hw'))) (qg 3 ?_)
 obtain ⟨dG,dH,gK,gL,dI,gM,hv17,h⟩:=h
 refine sy (v:=(.agg #[(vi dG),(vi dH),(vi gK),(vu gL),(vs dI),gM.v])) Kp3 (fun w' hw'=>(xa p3 [(vi dG),(vi dH),(vi gK),(vu gL),(vs dI),gM.v] (isAgg76 _) (sizeOf76 _) (hv17 w' hw'))) (qx 4 (vp (some (p1.add 4))) Kp4 (qg 5 ?_))
 obtain ⟨v9,hv16,h⟩:=h
 refine sy (v:=(vb v9)) Kp5 (fun w' hw'=>(xl (isAgg4 _) (hv16 w' hw'))) (qg 10 ?_)
 obtain ⟨cY,cZ,fC,fD,dA,fE,hv15,h⟩:=h
 refine sy (v:=(.agg #[(vi cY),(vi cZ),(vi fC),(vu fD),(vs dA),fE.v])) (zS (S8 (zG (zG zR)))) (fun w' hw'=>(xa p3 [(vi cY),(vi cZ),(vi fC),(vu fD),(vs dA),fE.v] (isAgg76 _) (sizeOf76 _) (hv15 w' hw'))) (qx 11 (vp (some (p1.add 4))) (zS (S8 (zG (zG (zG zR))))) (qg 12 ?_))
 obtain ⟨v10,hv14,h⟩:=h
 refine sy (v:=(vb v10)) (zS (S8 (S4 zR))) (fun w' hw'=>(xl (isAgg4 _) (hv14 w' hw'))) (lg 2 ?_)
 refine slc Kp2 call90 (h.mono ?_)
 rintro e w17 ⟨dX,dY,gN,gO,dZ,gP,rfl,hC,h⟩
 refine ⟨_,rfl,.inr hC,?_⟩
 refine qx 6 (vb v9) Kp6 (qg 7 ?_)
 rcases bte v9 with hg1 | hg1
 have h:=h.1 hg1
 refine sz (v:=(vb first1)) Kp7 (wy 45 hg1) (fun _ _=>(by kernel_rfl)) (qz 8 (vb first1) Kp8 (fun _ _=>(xT hg1)) (lg 9 ?_))
 refine slc Kp9 call87 (h.mono ?_)
 rintro e w18 ⟨eL,eM,jI,jJ,eN,jK,rfl,hC,h⟩
 refine ⟨_,rfl,.inr hC,?_⟩
 refine qx 13 (vb v10) (zS (S8 (S4 (zG zR)))) (qg 14 ?_)
 rcases bte v10 with hg2 | hg2
 have h:=h.1 hg2
 refine sz (v:=(vb second1)) (zS (S8 (S4 (zG (zG zR))))) (wy 52 hg2) (fun _ _=>(by kernel_rfl)) (qz 15 (vb second1) (zS (S8 (S4 (zG (zG (zG zR)))))) (fun _ _=>(xT hg2)) (lg 16 ?_))
 refine slc (zS (S8 (S8 zR))) call87 (h.mono ?_)
 rintro e w19 ⟨eC,eD,lU,lV,eE,lW,rfl,hC,h⟩
 refine ⟨_,rfl,.inr hC,?_⟩
 refine lg 17 ?_
 refine slc (zS (S8 (S8 (zG zR)))) call89 (h.mono ?_)
 rintro e w20 ⟨fF,fG,lX,lY,fH,lZ,rfl,hC,h⟩
 refine ⟨_,rfl,.inr hC,?_⟩
 refine lg 18 ?_
 refine slc (zS (S8 (S8 (zG (zG zR))))) call89 (h.mono ?_)
 rintro e w21 ⟨fI,fJ,mA,mB,fK,mC,rfl,hC,h⟩
 refine ⟨_,rfl,.inr hC,?_⟩
 refine lg 19 ?_
 refine slc (zS (S8 (S8 (zG (zG (zG zR)))))) call88 (h.mono ?_)
 rintro e w22 ⟨eO,eP,jL,jM,eQ,jN,rfl,h⟩
 refine ⟨_,rfl,.inl (by kernel_rfl),?_⟩
 refine lg 20 ?_
 obtain ⟨hp5,h⟩:=h
 refine uB (zS (S8 (S8 (S4 zR)))) (zJ rfl) (by kernel_rfl) (xo p2 [(vi eO),(vi eP),(vi jL),(vu jM),(vs eQ),jN.v] (sizeOf76 _) hp5) ?_
 intro w23 hn5
 have h:=h w23 hn5
 refine ⟨.inl (by kernel_rfl),?_⟩
 refine wn (zN (er (uK (vL ?_))))
 obtain ⟨bV,bW,gQ,gR,bX,gS,hv10,h⟩:=h
 refine uW (.inl rfl) (vs:=[(.agg #[(vi bV),(vi bW),(vi gQ),(vu gR),(vs bX),gS.v])]) (v:=(.agg #[(vi bV),(vi bW),(vi gQ),(vu gR),(vs bX),gS.v])) results29 ⟨(rva (isAgg76 _) (sizeOf76 _) hv10),trivial⟩ (by kernel_rfl) ?_
 exact ⟨bV,bW,gQ,gR,bX,gS,rfl,h⟩
 have h:=h.2 hg2
 refine jAQ (zS (S8 (S4 (zG (zG zR))))) (vM rfl (yD 52 hg2) rfl) (qz 15 (vb false) (zS (S8 (S4 (zG (zG (zG zR)))))) (fun _ _=>(xF hg2)) (lg 16 ?_))
 refine slc (zS (S8 (S8 zR))) call87 (h.mono ?_)
 rintro e w24 ⟨fL,fM,mD,mE,fN,mF,rfl,hC,h⟩
 refine ⟨_,rfl,.inr hC,?_⟩
 refine lg 17 ?_
 refine slc (zS (S8 (S8 (zG zR)))) call89 (h.mono ?_)
 rintro e w25 ⟨eF,eG,mG,mH,eH,mI,rfl,hC,h⟩
 refine ⟨_,rfl,.inr hC,?_⟩
 refine lg 18 ?_
 refine slc (zS (S8 (S8 (zG (zG zR))))) call89 (h.mono ?_)
 rintro e w26 ⟨fO,fP,mJ,mK,fQ,mL,rfl,hC,h⟩
 refine ⟨_,rfl,.inr hC,?_⟩
 refine lg 19 ?_
 refine slc (zS (S8 (S8 (zG (zG (zG zR)))))) call88 (h.mono ?_)
 rintro e w27 ⟨eR,eS,jO,jP,eT,jQ,rfl,h⟩
 refine ⟨_,rfl,.inl (by kernel_rfl),?_⟩
 refine lg 20 ?_
 obtain ⟨hp6,h⟩:=h
 refine uB (zS (S8 (S8 (S4 zR)))) (zJ rfl) (by kernel_rfl) (xo p2 [(vi eR),(vi eS),(vi jO),(vu jP),(vs eT),jQ.v] (sizeOf76 _) hp6) ?_
 intro w28 hn6
 have h:=h w28 hn6
 refine ⟨.inl (by kernel_rfl),?_⟩
 refine wn (zN (er (uK (vL ?_))))
 obtain ⟨bY,bZ,gT,gU,cA,gV,hv11,h⟩:=h
 refine uW (.inl rfl) (vs:=[(.agg #[(vi bY),(vi bZ),(vi gT),(vu gU),(vs cA),gV.v])]) (v:=(.agg #[(vi bY),(vi bZ),(vi gT),(vu gU),(vs cA),gV.v])) results29 ⟨(rva (isAgg76 _) (sizeOf76 _) hv11),trivial⟩ (by kernel_rfl) ?_
 exact ⟨bY,bZ,gT,gU,cA,gV,rfl,h⟩
 have h:=h.2 hg1
 refine jAQ Kp7 (vM rfl (yD 45 hg1) rfl) (qz 8 (vb false) Kp8 (fun _ _=>(xF hg1)) (lg 9 ?_))
 refine slc Kp9 call87 (h.mono ?_)
 rintro e w29 ⟨eU,eV,jR,jS,eW,jT,rfl,hC,h⟩
 refine ⟨_,rfl,.inr hC,?_⟩
 refine qx 13 (vb v10) (zS (S8 (S4 (zG zR)))) (qg 14 ?_)
 rcases bte v10 with hg3 | hg3
 have h:=h.1 hg3
 refine sz (v:=(vb second1)) (zS (S8 (S4 (zG (zG zR))))) (wy 52 hg3) (fun _ _=>(by kernel_rfl)) (qz 15 (vb second1) (zS (S8 (S4 (zG (zG (zG zR)))))) (fun _ _=>(xT hg3)) (lg 16 ?_))
 refine slc (zS (S8 (S8 zR))) call87 (h.mono ?_)
 rintro e w30 ⟨fR,fS,mM,mN,fT,mO,rfl,hC,h⟩
 refine ⟨_,rfl,.inr hC,?_⟩
 refine lg 17 ?_
 refine slc (zS (S8 (S8 (zG zR)))) call89 (h.mono ?_)
 rintro e w31 ⟨gW,gX,mP,mQ,gY,mR,rfl,hC,h⟩
 refine ⟨_,rfl,.inr hC,?_⟩
 refine lg 18 ?_
 refine slc (zS (S8 (S8 (zG (zG zR))))) call89 (h.mono ?_)
 rintro e w32 ⟨mS,mT,mU,mV,mW,mX,rfl,hC,h⟩
 refine ⟨_,rfl,.inr hC,?_⟩
 refine lg 19 ?_
 refine slc (zS (S8 (S8 (zG (zG (zG zR)))))) call88 (h.mono ?_)
 rintro e w33 ⟨jU,jV,jW,jX,jY,jZ,rfl,h⟩
 refine ⟨_,rfl,.inl (by kernel_rfl),?_⟩
 refine lg 20 ?_
 obtain ⟨hp7,h⟩:=h
 refine uB (zS (S8 (S8 (S4 zR)))) (zJ rfl) (by kernel_rfl) (xo p2 [(vi jU),(vi jV),(vi jW),(vu jX),(vs jY),jZ.v] (sizeOf76 _) hp7) ?_
 intro w34 hn7
 have h:=h w34 hn7
 refine ⟨.inl (by kernel_rfl),?_⟩
 refine wn (zN (er (uK (vL ?_))))
 obtain ⟨cB,cC,gZ,hA,cD,hB,hv12,h⟩:=h
 refine uW (.inl rfl) (vs:=[(.agg #[(vi cB),(vi cC),(vi gZ),(vu hA),(vs cD),hB.v])]) (v:=(.agg #[(vi cB),(vi cC),(vi gZ),(vu hA),(vs cD),hB.v])) results29 ⟨(rva (isAgg76 _) (sizeOf76 _) hv12),trivial⟩ (by kernel_rfl) ?_
 exact ⟨cB,cC,gZ,hA,cD,hB,rfl,h⟩
 have h:=h.2 hg3
 refine jAQ (zS (S8 (S4 (zG (zG zR))))) (vM rfl (yD 52 hg3) rfl) (qz 15 (vb false) (zS (S8 (S4 (zG (zG (zG zR)))))) (fun _ _=>(xF hg3)) (lg 16 ?_))
 refine slc (zS (S8 (S8 zR))) call87 (h.mono ?_)
 rintro e w35 ⟨mY,mZ,nA,nB,nC,nD,rfl,hC,h⟩
 refine ⟨_,rfl,.inr hC,?_⟩
 refine lg 17 ?_
 refine slc (zS (S8 (S8 (zG zR)))) call89 (h.mono ?_)
 rintro e w36 ⟨nE,nF,nG,nH,nI,nJ,rfl,hC,h⟩
 refine ⟨_,rfl,.inr hC,?_⟩
 refine lg 18 ?_
 refine slc (zS (S8 (S8 (zG (zG zR))))) call89 (h.mono ?_)
 rintro e w37 ⟨nK,nL,nM,nN,nO,nP,rfl,hC,h⟩
 refine ⟨_,rfl,.inr hC,?_⟩
 refine lg 19 ?_
 refine slc (zS (S8 (S8 (zG (zG (zG zR)))))) call88 (h.mono ?_)
 rintro e w38 ⟨kA,kB,kC,kD,kE,kF,rfl,h⟩
 refine ⟨_,rfl,.inl (by kernel_rfl),?_⟩
 refine lg 20 ?_
 obtain ⟨hp8,h⟩:=h
 refine uB (zS (S8 (S8 (S4 zR)))) (zJ rfl) (by kernel_rfl) (xo p2 [(vi kA),(vi kB),(vi kC),(vu kD),(vs kE),kF.v] (sizeOf76 _) hp8) ?_
 intro w39 hn8
 have h:=h w39 hn8
 refine ⟨.inl (by kernel_rfl),?_⟩
 refine wn (zN (er (uK (vL ?_))))
 obtain ⟨cE,cF,hD,hE,cG,hF,hv13,h⟩:=h
 refine uW (.inl rfl) (vs:=[(.agg #[(vi cE),(vi cF),(vi hD),(vu hE),(vs cG),hF.v])]) (v:=(.agg #[(vi cE),(vi cF),(vi hD),(vu hE),(vs cG),hF.v])) results29 ⟨(rva (isAgg76 _) (sizeOf76 _) hv13),trivial⟩ (by kernel_rfl) ?_
 exact ⟨cE,cF,hD,hE,cG,hF,rfl,h⟩
 have h:=h.2 hc4
 refine eg (q0 (vb (v3 == 5)) (q0 (vb (v3 == 5)) (ln ?_)))
 refine zB (t:=(v3 == 5)) (by kernel_rfl) (fun hc5=>?_) (fun hc5=>?_)
 have h:=h.1 hc5
 refine zA ?_
 obtain ⟨C3,hC,h⟩:=h
 refine vB C3 [0,3,4,5,6] [3,4,5,6] (by kernel_rfl) (by kernel_rfl) (by kernel_rfl) (by kernel_rfl) hC ?_
 intro w40 hw40
 have h:=h w40 hw40
 refine qx 1 (vp (some (p1.add 2))) Kp1 (qg 2 ?_)
 obtain ⟨v11,hv20,h⟩:=h
 refine sy (v:=(vu v11)) Kp2 (fun w' hw'=>(xl (isAgg23 _) (hv20 w' hw'))) (lg 0 ?_)
 refine slc Kp0 call90 (h.mono ?_)
 rintro e w41 ⟨nQ,nR,nS,nT,nU,nV,rfl,hC,h⟩
 refine ⟨_,rfl,.inr hC,?_⟩
 refine lg 3 ?_
 refine slc Kp3 call91 (h.mono ?_)
 rintro e w42 ⟨nW,nX,nY,nZ,oA,oB,rfl,h⟩
 refine ⟨_,rfl,.inl (by kernel_rfl),?_⟩
 refine lg 4 ?_
 refine slc Kp4 call89 (h.mono ?_)
 rintro e w43 ⟨oC,oD,oE,oF,oG,oH,rfl,h⟩
 refine ⟨_,rfl,.inl (by kernel_rfl),?_⟩
 refine lg 5 ?_
 refine slc Kp5 call88 (h.mono ?_)
 rintro e w44 ⟨kG,kH,kI,kJ,kK,kL,rfl,h⟩
 refine ⟨_,rfl,.inl (by kernel_rfl),?_⟩
 refine lg 6 ?_
 obtain ⟨hp9,h⟩:=h
 refine uB Kp6 (zJ rfl) (by kernel_rfl) (xo p2 [(vi kG),(vi kH),(vi kI),(vu kJ),(vs kK),kL.v] (sizeOf76 _) hp9) ?_
 intro w45 hn9
 have h:=h w45 hn9
 refine ⟨.inl (by kernel_rfl),?_⟩
 refine wn (zN (er (uK (vL ?_))))
 obtain ⟨dJ,dK,hG,hI,dL,hJ,hv19,h⟩:=h
 refine uW (.inl rfl) (vs:=[(.agg #[(vi dJ),(vi dK),(vi hG),(vu hI),(vs dL),hJ.v])]) (v:=(.agg #[(vi dJ),(vi dK),(vi hG),(vu hI),(vs dL),hJ.v])) results29 ⟨(rva (isAgg76 _) (sizeOf76 _) hv19),trivial⟩ (by kernel_rfl) ?_
 exact ⟨dJ,dK,hG,hI,dL,hJ,rfl,h⟩
 have h:=h.2 hc5
 refine eg (q0 (vb (v3 == 6)) (q0 (vb (v3 == 6)) (ln ?_)))
 refine zB (t:=(v3 == 6)) (by kernel_rfl) (fun hc6=>?_) (fun hc6=>?_)
 have h:=h.1 hc6
 refine zA ?_
 obtain ⟨C4,hC,h⟩:=h
 refine vB C4 [0,2,3,4] [2,3,4] (by kernel_rfl) (by kernel_rfl) (by kernel_rfl) (by kernel_rfl) hC ?_
 intro w46 hw46
 have h:=h w46 hw46
 refine qg 1 ?_
 obtain ⟨iZ,jA,jB,jC,jD,jE,hv22,h⟩:=h
 refine sy (v:=(.agg #[(vi iZ),(vi jA),(vi jB),(vu jC),(vs jD),jE.v])) Kp1 (fun w' hw'=>(xa p3 [(vi iZ),(vi jA),(vi jB),(vu jC),(vs jD),jE.v] (isAgg76 _) (sizeOf76 _) (hv22 w' hw'))) (lg 0 ?_)
 refine slc Kp0 call90 (h.mono ?_)
 rintro e w47 ⟨oI,oJ,oK,oL,oM,oN,rfl,hC,h⟩
 refine ⟨_,rfl,.inr hC,?_⟩
 refine lg 2 ?_
 refine slc Kp2 call89 (h.mono ?_)
 rintro e w48 ⟨oO,oP,oQ,oR,oS,oT,rfl,h⟩
 refine ⟨_,rfl,.inl (by kernel_rfl),?_⟩
 refine lg 3 ?_
 refine slc Kp3 call88 (h.mono ?_)
 rintro e w49 ⟨kM,kN,kO,kP,kQ,kR,rfl,h⟩
 refine ⟨_,rfl,.inl (by kernel_rfl),?_⟩
 refine lg 4 ?_
 obtain ⟨hp10,h⟩:=h
 refine uB Kp4 (zJ rfl) (by kernel_rfl) (xo p2 [(vi kM),(vi kN),(vi kO),(vu kP),(vs kQ),kR.v] (sizeOf76 _) hp10) ?_
 intro w50 hn10
 have h:=h w50 hn10
 refine ⟨.inl (by kernel_rfl),?_⟩
 refine wn (zN (er (uK (vL ?_))))
 obtain ⟨hK,hL,hM,hN,hO,hQ,hv21,h⟩:=h
 refine uW (.inl rfl) (vs:=[(.agg #[(vi hK),(vi hL),(vi hM),(vu hN),(vs hO),hQ.v])]) (v:=(.agg #[(vi hK),(vi hL),(vi hM),(vu hN),(vs hO),hQ.v])) results29 ⟨(rva (isAgg76 _) (sizeOf76 _) hv21),trivial⟩ (by kernel_rfl) ?_
 exact ⟨hK,hL,hM,hN,hO,hQ,rfl,h⟩
 have h:=h.2 hc6
 refine zC (tJ (zN (zA ?_)))
 obtain ⟨C5,hC,h⟩:=h
 refine vB C5 [0,3,4,5] [3,4,5] (by kernel_rfl) (by kernel_rfl) (by kernel_rfl) (by kernel_rfl) hC ?_
 intro w51 hw51
 have h:=h w51 hw51
 refine qx 1 (vp (some (p1.add 2))) Kp1 (qg 2 ?_)
 obtain ⟨v12,hv24,h⟩:=h
 refine sy (v:=(vu v12)) Kp2 (fun w' hw'=>(xl (isAgg23 _) (hv24 w' hw'))) (lg 0 ?_)
 refine slc Kp0 call90 (h.mono ?_)
 rintro e w52 ⟨oU,oV,oW,oX,oY,oZ,rfl,hC,h⟩
 refine ⟨_,rfl,.inr hC,?_⟩
 refine lg 3 ?_
 refine slc Kp3 call91 (h.mono ?_)
 rintro e w53 ⟨pA,pB,pC,pD,pE,pF,rfl,h⟩
 refine ⟨_,rfl,.inl (by kernel_rfl),?_⟩
 refine lg 4 ?_
 refine slc Kp4 call89 (h.mono ?_)
 rintro e w54 ⟨kS,kT,kU,kV,kW,kX,rfl,h⟩
 refine ⟨_,rfl,.inl (by kernel_rfl),?_⟩
 refine lg 5 ?_
 obtain ⟨hp11,h⟩:=h
 refine uB Kp5 (zJ rfl) (by kernel_rfl) (xo p2 [(vi kS),(vi kT),(vi kU),(vu kV),(vs kW),kX.v] (sizeOf76 _) hp11) ?_
 intro w55 hn11
 have h:=h w55 hn11
 refine ⟨.inl (by kernel_rfl),?_⟩
 refine wn (zN (er ?_))
 obtain ⟨hR,hS,hT,hU,hV,hW,hv23,h⟩:=h
 refine uW (.inl rfl) (vs:=[(.agg #[(vi hR),(vi hS),(vi hT),(vu hU),(vs hV),hW.v])]) (v:=(.agg #[(vi hR),(vi hS),(vi hT),(vu hU),(vs hV),hW.v])) results29 ⟨(rva (isAgg76 _) (sizeOf76 _) hv23),trivial⟩ (by kernel_rfl) ?_
 exact ⟨hR,hS,hT,hU,hV,hW,rfl,h⟩
def m_B4 (c1:Int) (text1:ByteArray) (w:World) (K:Int→Int→Int→Int→ByteArray→Sl→WP):Prop :=∀(p1:Addr) (w1:World),New w (.cells #[(vi 0),(vi 0),(vi 0),(vu 0),ve,Sl.nil.v] 76) p1 w1→Calls prog 90 #[(vs (⟨#[100,101,97,108]⟩:ByteArray))] w1 (fun e w2=>∃aE aF:Int,∃aG aD:Int,∃aH:ByteArray,∃bK:Sl,e=.returned (.agg #[(vi aE),(vi aF),(vi aG),(vu aD),(vs aH),bK.v])∧Calls prog 91 #[(vu c1)] w2 (fun e w3=>∃bB bC:Int,∃bL aT:Int,∃aX:ByteArray,∃eX:Sl,e=.returned (.agg #[(vi bB),(vi bC),(vi bL),(vu aT),(vs aX),eX.v])∧Calls prog 90 #[(vs text1)] w3 (fun e w4=>∃bR bS:Int,∃cW cX:Int,∃bG:ByteArray,∃eY:Sl,e=.returned (.agg #[(vi bR),(vi bS),(vi cW),(vu cX),(vs bG),eY.v])∧Calls prog 89 #[(.agg #[(vi bB),(vi bC),(vi bL),(vu aT),(vs aX),eX.v]),(.agg #[(vi bR),(vi bS),(vi cW),(vu cX),(vs bG),eY.v])] w4 (fun e w5=>∃bH bI:Int,∃fU fV:Int,∃bJ:ByteArray,∃fW:Sl,e=.returned (.agg #[(vi bH),(vi bI),(vi fU),(vu fV),(vs bJ),fW.v])∧Calls prog 89 #[(.agg #[(vi aE),(vi aF),(vi aG),(vu aD),(vs aH),bK.v]),(.agg #[(vi bH),(vi bI),(vi fU),(vu fV),(vs bJ),fW.v])] w5 (fun e w6=>∃cT cU:Int,∃eZ fA:Int,∃cV:ByteArray,∃fB:Sl,e=.returned (.agg #[(vi cT),(vi cU),(vi eZ),(vu fA),(vs cV),fB.v])∧(∀j,j<6→CanW w6 (p1.add j))∧∀w7:World,w7=storeRow w6 p1 [(vi cT),(vi cU),(vi eZ),(vu fA),(vs cV),fB.v]→∃aA aB:Int,∃aI aJ:Int,∃aC:ByteArray,∃aK:Sl,Row w7 p1 [(vi aA),(vi aB),(vi aI),(vu aJ),(vs aC),aK.v]∧K aA aB aI aJ aC aK w7)))))
theorem w_B4 (c1:Int) (text1:ByteArray) (w:World) (K:Int→Int→Int→Int→ByteArray→Sl→WP) (h:m_B4 c1 text1 w K) :
  Calls prog 86 #[(vu c1),(vs text1)] w (fun e w'=>∃dU dV:Int,∃gG gH:Int,∃dW:ByteArray,∃gI:Sl,e=.returned (.agg #[(vi dU),(vi dV),(vi gG),(vu gH),(vs dW),gI.v])∧K dU dV gG gH dW gI w'):=by
 unfold m_B4 at h
 refine cw (args:=[(vu c1),(vs text1)]) func86 ntmps86 (eg (sn (O:=(.cells #[(vi 0),(vi 0),(vi 0),(vu 0),ve,Sl.nil.v] 76)) (zO (zeroValue76 _) rfl) ?_))
 intro p1 w1 hn2
 have h:=h p1 w1 hn2
 refine ln (eg ?_)
 refine sc call90 (h.mono ?_)
 rintro e w2 ⟨aE,aF,aG,aD,aH,bK,rfl,h⟩
 refine ⟨_,rfl,?_⟩
 refine q0 (vu c1) ?_
 refine sc call91 (h.mono ?_)
 rintro e w3 ⟨bB,bC,bL,aT,aX,eX,rfl,h⟩
 refine ⟨_,rfl,?_⟩
 refine q0 (vs text1) ?_
 refine sc call90 (h.mono ?_)
 rintro e w4 ⟨bR,bS,cW,cX,bG,eY,rfl,h⟩
 refine ⟨_,rfl,?_⟩
 refine sc call89 (h.mono ?_)
 rintro e w5 ⟨bH,bI,fU,fV,bJ,fW,rfl,h⟩
 refine ⟨_,rfl,?_⟩
 refine sc call89 (h.mono ?_)
 rintro e w6 ⟨cT,cU,eZ,fA,cV,fB,rfl,h⟩
 refine ⟨_,rfl,?_⟩
 obtain ⟨hp1,h⟩:=h
 refine ss (xo p1 [(vi cT),(vi cU),(vi eZ),(vu fA),(vs cV),fB.v] (sizeOf76 _) hp1) ?_
 intro w7 hn1
 have h:=h w7 hn1
 refine ln (er ?_)
 obtain ⟨aA,aB,aI,aJ,aC,aK,hv1,h⟩:=h
 refine uW (.inl rfl) (vs:=[(.agg #[(vi aA),(vi aB),(vi aI),(vu aJ),(vs aC),aK.v])]) (v:=(.agg #[(vi aA),(vi aB),(vi aI),(vu aJ),(vs aC),aK.v])) results86 ⟨(rva (isAgg76 _) (sizeOf76 _) hv1),trivial⟩ (by kernel_rfl) ?_
 exact ⟨aA,aB,aI,aJ,aC,aK,rfl,h⟩
def m_C4 (who1 cN:Int) (cO cP cQ:Int) (cR:ByteArray) (cS:Sl) (fake1:Bool) (w:World) (K:Int→Int→Int→Int→ByteArray→Sl→WP):Prop :=∀(p1:Addr) (w1:World),New w (.cells #[(vi cN),(vi cO),(vi cP),(vu cQ),(vs cR),cS.v] 76) p1 w1→∀(p2:Addr) (w2:World),New w1 (.cells #[(vi 0),(vi 0),(vi 0),(vu 0),ve,Sl.nil.v] 76) p2 w2→Br fake1 (∃aL aM:Int,∃aR aS:Int,∃aN:ByteArray,∃bA:Sl,Row w2 p1 [(vi aL),(vi aM),(vi aR),(vu aS),(vs aN),bA.v]∧∀(p3:Addr) (w3:World),New w2 (.cells #[(vi aL),(vi aM),(vi aR),(vu aS),(vs aN),bA.v] 76) p3 w3→(∀j,j<6→CanW w3 (p2.add j))∧∀w4:World,w4=storeRow w3 p2 [(vi 9),(vi who1),(vi (q6.wrap (1 - who1))),(vu 0),ve,(Sl.mk (some p3) 1 1).v]→∃aA aB:Int,∃aI aJ:Int,∃aC:ByteArray,∃aK:Sl,Row w4 p2 [(vi aA),(vi aB),(vi aI),(vu aJ),(vs aC),aK.v]∧K aA aB aI aJ aC aK w4) (∃bD bE:Int,∃bO bP:Int,∃bF:ByteArray,∃bQ:Sl,Row w2 p1 [(vi bD),(vi bE),(vi bO),(vu bP),(vs bF),bQ.v]∧∀(p4:Addr) (w5:World),New w2 (.cells #[(vi bD),(vi bE),(vi bO),(vu bP),(vs bF),bQ.v] 76) p4 w5→(∀j,j<6→CanW w5 (p2.add j))∧∀w6:World,w6=storeRow w5 p2 [(vi 8),(vi who1),(vi (q6.wrap (1 - who1))),(vu 0),ve,(Sl.mk (some p4) 1 1).v]→∃aO aP:Int,∃bT bU:Int,∃aQ:ByteArray,∃dD:Sl,Row w6 p2 [(vi aO),(vi aP),(vi bT),(vu bU),(vs aQ),dD.v]∧K aO aP bT bU aQ dD w6)
theorem w_C4 (who1 cN:Int) (cO cP cQ:Int) (cR:ByteArray) (cS:Sl) (fake1:Bool) (w:World) (K:Int→Int→Int→Int→ByteArray→Sl→WP) (h:m_C4 who1 cN cO cP cQ cR cS fake1 w K) :
  Calls prog 87 #[(vi who1),(.agg #[(vi cN),(vi cO),(vi cP),(vu cQ),(vs cR),cS.v]),(vb fake1)] w (fun e w'=>∃aE aF:Int,∃aG aD:Int,∃aH:ByteArray,∃bK:Sl,e=.returned (.agg #[(vi aE),(vi aF),(vi aG),(vu aD),(vs aH),bK.v])∧K aE aF aG aD aH bK w'):=by
 unfold m_C4 at h
 refine cw (args:=[(vi who1),(.agg #[(vi cN),(vi cO),(vi cP),(vu cQ),(vs cR),cS.v]),(vb fake1)]) func87 ntmps87 (eg (sn (O:=(.cells #[(vi cN),(vi cO),(vi cP),(vu cQ),(vs cR),cS.v] 76)) xb ?_))
 intro p1 w1 hn6
 have h:=h p1 w1 hn6
 refine sn (O:=(.cells #[(vi 0),(vi 0),(vi 0),(vu 0),ve,Sl.nil.v] 76)) (zO (zeroValue76 _) rfl) ?_
 intro p2 w2 hn5
 have h:=h p2 w2 hn5
 refine ln (eg (q0 (vi 8) (ln (zA (eg (q0 (vb fake1) (zD ?_)))))))
 refine zN ?_
 refine zB (t:=fake1) (by kernel_rfl) (fun hc1=>?_) (fun hc1=>?_)
 have h:=h.1 hc1
 refine rg (q0 (vi 9) (ln (eg (q0 (vi 9) (q0 (vi who1) (q0 (vi who1) (q0 (vi (q6.wrap (1 - who1))) ?_)))))))
 obtain ⟨aL,aM,aR,aS,aN,bA,hv2,h⟩:=h
 refine q2 (.agg #[(vi aL),(vi aM),(vi aR),(vu aS),(vs aN),bA.v]) (xa p1 [(vi aL),(vi aM),(vi aR),(vu aS),(vs aN),bA.v] (isAgg76 _) (sizeOf76 _) hv2) (vR (O:=(.cells #[(vi aL),(vi aM),(vi aR),(vu aS),(vs aN),bA.v] 76)) (fun p=>(Sl.mk (some p) 1 1).v) (zJ rfl) (zK (vs:=#[(0,(.agg #[(vi aL),(vi aM),(vi aR),(vu aS),(vs aN),bA.v]))]) (by kernel_rfl) (by kernel_rfl)) ?_)
 intro p3 w3 hn2
 have h:=h p3 w3 hn2
 refine q0 (.agg #[(vi 9),(vi who1),(vi (q6.wrap (1 - who1))),(vu 0),ve,(Sl.mk (some p3) 1 1).v]) ?_
 obtain ⟨hp1,h⟩:=h
 refine ss (xo p2 [(vi 9),(vi who1),(vi (q6.wrap (1 - who1))),(vu 0),ve,(Sl.mk (some p3) 1 1).v] (sizeOf76 _) hp1) ?_
 intro w4 hn1
 have h:=h w4 hn1
 refine ln (er ?_)
 obtain ⟨aA,aB,aI,aJ,aC,aK,hv1,h⟩:=h
 refine uW (.inl rfl) (vs:=[(.agg #[(vi aA),(vi aB),(vi aI),(vu aJ),(vs aC),aK.v])]) (v:=(.agg #[(vi aA),(vi aB),(vi aI),(vu aJ),(vs aC),aK.v])) results87 ⟨(rva (isAgg76 _) (sizeOf76 _) hv1),trivial⟩ (by kernel_rfl) ?_
 exact ⟨aA,aB,aI,aJ,aC,aK,rfl,h⟩
 have h:=h.2 hc1
 refine zC (zN (eg (q0 (vi 8) (q0 (vi who1) (q0 (vi who1) (q0 (vi (q6.wrap (1 - who1))) ?_))))))
 obtain ⟨bD,bE,bO,bP,bF,bQ,hv4,h⟩:=h
 refine q2 (.agg #[(vi bD),(vi bE),(vi bO),(vu bP),(vs bF),bQ.v]) (xa p1 [(vi bD),(vi bE),(vi bO),(vu bP),(vs bF),bQ.v] (isAgg76 _) (sizeOf76 _) hv4) (vR (O:=(.cells #[(vi bD),(vi bE),(vi bO),(vu bP),(vs bF),bQ.v] 76)) (fun p=>(Sl.mk (some p) 1 1).v) (zJ rfl) (zK (vs:=#[(0,(.agg #[(vi bD),(vi bE),(vi bO),(vu bP),(vs bF),bQ.v]))]) (by kernel_rfl) (by kernel_rfl)) ?_)
 intro p4 w5 hn4
 have h:=h p4 w5 hn4
 refine q0 (.agg #[(vi 8),(vi who1),(vi (q6.wrap (1 - who1))),(vu 0),ve,(Sl.mk (some p4) 1 1).v]) ?_
 obtain ⟨hp2,h⟩:=h
 refine ss (xo p2 [(vi 8),(vi who1),(vi (q6.wrap (1 - who1))),(vu 0),ve,(Sl.mk (some p4) 1 1).v] (sizeOf76 _) hp2) ?_
 intro w6 hn3
 have h:=h w6 hn3
 refine ln (er ?_)
 obtain ⟨aO,aP,bT,bU,aQ,dD,hv3,h⟩:=h
 refine uW (.inl rfl) (vs:=[(.agg #[(vi aO),(vi aP),(vi bT),(vu bU),(vs aQ),dD.v])]) (v:=(.agg #[(vi aO),(vi aP),(vi bT),(vu bU),(vs aQ),dD.v])) results87 ⟨(rva (isAgg76 _) (sizeOf76 _) hv3),trivial⟩ (by kernel_rfl) ?_
 exact ⟨aO,aP,bT,bU,aQ,dD,rfl,h⟩
def m_D4 (who1 cN:Int) (cO cP cQ:Int) (cR:ByteArray) (cS:Sl) (w:World) (K:Int→Int→Int→Int→ByteArray→Sl→WP):Prop :=∀(p1:Addr) (w1:World),New w (.cells #[(vi cN),(vi cO),(vi cP),(vu cQ),(vs cR),cS.v] 76) p1 w1→∀(p2:Addr) (w2:World),New w1 (.cells #[(vi 0),(vi 0),(vi 0),(vu 0),ve,Sl.nil.v] 76) p2 w2→∃aL aM:Int,∃aR aS:Int,∃aN:ByteArray,∃bA:Sl,Row w2 p1 [(vi aL),(vi aM),(vi aR),(vu aS),(vs aN),bA.v]∧∀(p3:Addr) (w3:World),New w2 (.cells #[(vi aL),(vi aM),(vi aR),(vu aS),(vs aN),bA.v] 76) p3 w3→(∀j,j<6→CanW w3 (p2.add j))∧∀w4:World,w4=storeRow w3 p2 [(vi 7),(vi who1),(vi 0),(vu 0),ve,(Sl.mk (some p3) 1 1).v]→∃aA aB:Int,∃aI aJ:Int,∃aC:ByteArray,∃aK:Sl,Row w4 p2 [(vi aA),(vi aB),(vi aI),(vu aJ),(vs aC),aK.v]∧K aA aB aI aJ aC aK w4
theorem w_D4 (who1 cN:Int) (cO cP cQ:Int) (cR:ByteArray) (cS:Sl) (w:World) (K:Int→Int→Int→Int→ByteArray→Sl→WP) (h:m_D4 who1 cN cO cP cQ cR cS w K) :
  Calls prog 88 #[(vi who1),(.agg #[(vi cN),(vi cO),(vi cP),(vu cQ),(vs cR),cS.v])] w (fun e w'=>∃aE aF:Int,∃aG aD:Int,∃aH:ByteArray,∃bK:Sl,e=.returned (.agg #[(vi aE),(vi aF),(vi aG),(vu aD),(vs aH),bK.v])∧K aE aF aG aD aH bK w'):=by
 unfold m_D4 at h
 refine cw (args:=[(vi who1),(.agg #[(vi cN),(vi cO),(vi cP),(vu cQ),(vs cR),cS.v])]) func88 ntmps88 (eg (sn (O:=(.cells #[(vi cN),(vi cO),(vi cP),(vu cQ),(vs cR),cS.v] 76)) xb ?_))
 intro p1 w1 hn4
 have h:=h p1 w1 hn4
 refine sn (O:=(.cells #[(vi 0),(vi 0),(vi 0),(vu 0),ve,Sl.nil.v] 76)) (zO (zeroValue76 _) rfl) ?_
 intro p2 w2 hn3
 have h:=h p2 w2 hn3
 refine ln (eg (q0 (vi who1) ?_))
 obtain ⟨aL,aM,aR,aS,aN,bA,hv2,h⟩:=h
 refine q2 (.agg #[(vi aL),(vi aM),(vi aR),(vu aS),(vs aN),bA.v]) (xa p1 [(vi aL),(vi aM),(vi aR),(vu aS),(vs aN),bA.v] (isAgg76 _) (sizeOf76 _) hv2) (vR (O:=(.cells #[(vi aL),(vi aM),(vi aR),(vu aS),(vs aN),bA.v] 76)) (fun p=>(Sl.mk (some p) 1 1).v) (zJ rfl) (zK (vs:=#[(0,(.agg #[(vi aL),(vi aM),(vi aR),(vu aS),(vs aN),bA.v]))]) (by kernel_rfl) (by kernel_rfl)) ?_)
 intro p3 w3 hn2
 have h:=h p3 w3 hn2
 refine q0 (.agg #[(vi 7),(vi who1),(vi 0),(vu 0),ve,(Sl.mk (some p3) 1 1).v]) ?_
 obtain ⟨hp1,h⟩:=h
 refine ss (xo p2 [(vi 7),(vi who1),(vi 0),(vu 0),ve,(Sl.mk (some p3) 1 1).v] (sizeOf76 _) hp1) ?_
 intro w4 hn1
 have h:=h w4 hn1
 refine ln (er ?_)
 obtain ⟨aA,aB,aI,aJ,aC,aK,hv1,h⟩:=h
 refine uW (.inl rfl) (vs:=[(.agg #[(vi aA),(vi aB),(vi aI),(vu aJ),(vs aC),aK.v])]) (v:=(.agg #[(vi aA),(vi aB),(vi aI),(vu aJ),(vs aC),aK.v])) results88 ⟨(rva (isAgg76 _) (sizeOf76 _) hv1),trivial⟩ (by kernel_rfl) ?_
 exact ⟨aA,aB,aI,aJ,aC,aK,rfl,h⟩
def m_E4 (cN cO:Int) (cP cQ:Int) (cR:ByteArray) (cS:Sl) (iH iI:Int) (iJ iK:Int) (iL:ByteArray) (iM:Sl) (w:World) (K:Int→Int→Int→Int→ByteArray→Sl→WP):Prop :=∀(p1:Addr) (w1:World),New w (.cells #[(vi cN),(vi cO),(vi cP),(vu cQ),(vs cR),cS.v] 76) p1 w1→∀(p2:Addr) (w2:World),New w1 (.cells #[(vi iH),(vi iI),(vi iJ),(vu iK),(vs iL),iM.v] 76) p2 w2→∀(p3:Addr) (w3:World),New w2 (.cells #[(vi 0),(vi 0),(vi 0),(vu 0),ve,Sl.nil.v] 76) p3 w3→∃aL aM:Int,∃aR aS:Int,∃aN:ByteArray,∃bA:Sl,Row w3 p1 [(vi aL),(vi aM),(vi aR),(vu aS),(vs aN),bA.v]∧∃bD bE:Int,∃bO bP:Int,∃bF:ByteArray,∃bQ:Sl,Row w3 p2 [(vi bD),(vi bE),(vi bO),(vu bP),(vs bF),bQ.v]∧∀(p4:Addr) (w4:World),New w3 (.cells #[(vi aL),(vi aM),(vi aR),(vu aS),(vs aN),bA.v,(vi bD),(vi bE),(vi bO),(vu bP),(vs bF),bQ.v] 76) p4 w4→(∀j,j<6→CanW w4 (p3.add j))∧∀w5:World,w5=storeRow w4 p3 [(vi 4),(vi 0),(vi 0),(vu 0),ve,(Sl.mk (some p4) 2 2).v]→∃aA aB:Int,∃aI aJ:Int,∃aC:ByteArray,∃aK:Sl,Row w5 p3 [(vi aA),(vi aB),(vi aI),(vu aJ),(vs aC),aK.v]∧K aA aB aI aJ aC aK w5
theorem w_E4 (cN cO:Int) (cP cQ:Int) (cR:ByteArray) (cS:Sl) (iH iI:Int) (iJ iK:Int) (iL:ByteArray) (iM:Sl) (w:World) (K:Int→Int→Int→Int→ByteArray→Sl→WP) (h:m_E4 cN cO cP cQ cR cS iH iI iJ iK iL iM w K) :
  Calls prog 89 #[(.agg #[(vi cN),(vi cO),(vi cP),(vu cQ),(vs cR),cS.v]),(.agg #[(vi iH),(vi iI),(vi iJ),(vu iK),(vs iL),iM.v])] w (fun e w'=>∃aE aF:Int,∃aG aD:Int,∃aH:ByteArray,∃bK:Sl,e=.returned (.agg #[(vi aE),(vi aF),(vi aG),(vu aD),(vs aH),bK.v])∧K aE aF aG aD aH bK w'):=by
 unfold m_E4 at h
 refine cw (args:=[(.agg #[(vi cN),(vi cO),(vi cP),(vu cQ),(vs cR),cS.v]),(.agg #[(vi iH),(vi iI),(vi iJ),(vu iK),(vs iL),iM.v])]) func89 ntmps89 (eg (sn (O:=(.cells #[(vi cN),(vi cO),(vi cP),(vu cQ),(vs cR),cS.v] 76)) xb ?_))
 intro p1 w1 hn5
 have h:=h p1 w1 hn5
 refine sn (O:=(.cells #[(vi iH),(vi iI),(vi iJ),(vu iK),(vs iL),iM.v] 76)) xb ?_
 intro p2 w2 hn4
 have h:=h p2 w2 hn4
 refine sn (O:=(.cells #[(vi 0),(vi 0),(vi 0),(vu 0),ve,Sl.nil.v] 76)) (zO (zeroValue76 _) rfl) ?_
 intro p3 w3 hn3
 have h:=h p3 w3 hn3
 refine ln (eg ?_)
 obtain ⟨aL,aM,aR,aS,aN,bA,hv3,h⟩:=h
 refine q2 (.agg #[(vi aL),(vi aM),(vi aR),(vu aS),(vs aN),bA.v]) (xa p1 [(vi aL),(vi aM),(vi aR),(vu aS),(vs aN),bA.v] (isAgg76 _) (sizeOf76 _) hv3) ?_
 obtain ⟨bD,bE,bO,bP,bF,bQ,hv2,h⟩:=h
 refine q2 (.agg #[(vi bD),(vi bE),(vi bO),(vu bP),(vs bF),bQ.v]) (xa p2 [(vi bD),(vi bE),(vi bO),(vu bP),(vs bF),bQ.v] (isAgg76 _) (sizeOf76 _) hv2) (vR (O:=(.cells #[(vi aL),(vi aM),(vi aR),(vu aS),(vs aN),bA.v,(vi bD),(vi bE),(vi bO),(vu bP),(vs bF),bQ.v] 76)) (fun p=>(Sl.mk (some p) 2 2).v) (zJ rfl) (zK (vs:=#[(0,(.agg #[(vi aL),(vi aM),(vi aR),(vu aS),(vs aN),bA.v])),(1,(.agg #[(vi bD),(vi bE),(vi bO),(vu bP),(vs bF),bQ.v]))]) (by kernel_rfl) (by kernel_rfl)) ?_)
 intro p4 w4 hn2
 have h:=h p4 w4 hn2
 refine q0 (.agg #[(vi 4),(vi 0),(vi 0),(vu 0),ve,(Sl.mk (some p4) 2 2).v]) ?_
 obtain ⟨hp1,h⟩:=h
 refine ss (xo p3 [(vi 4),(vi 0),(vi 0),(vu 0),ve,(Sl.mk (some p4) 2 2).v] (sizeOf76 _) hp1) ?_
 intro w5 hn1
 have h:=h w5 hn1
 refine ln (er ?_)
 obtain ⟨aA,aB,aI,aJ,aC,aK,hv1,h⟩:=h
 refine uW (.inl rfl) (vs:=[(.agg #[(vi aA),(vi aB),(vi aI),(vu aJ),(vs aC),aK.v])]) (v:=(.agg #[(vi aA),(vi aB),(vi aI),(vu aJ),(vs aC),aK.v])) results89 ⟨(rva (isAgg76 _) (sizeOf76 _) hv1),trivial⟩ (by kernel_rfl) ?_
 exact ⟨aA,aB,aI,aJ,aC,aK,rfl,h⟩
def m_F4 (s1:ByteArray) (w:World) (K:Int→Int→Int→Int→ByteArray→Sl→WP):Prop :=∀(p1:Addr) (w1:World),New w (.cells #[(vi 0),(vi 0),(vi 0),(vu 0),ve,Sl.nil.v] 76) p1 w1→(∀j,j<6→CanW w1 (p1.add j))∧∀w2:World,w2=storeRow w1 p1 [(vi 3),(vi 0),(vi 0),(vu 0),(vs s1),Sl.nil.v]→∃aA aB:Int,∃aI aJ:Int,∃aC:ByteArray,∃aK:Sl,Row w2 p1 [(vi aA),(vi aB),(vi aI),(vu aJ),(vs aC),aK.v]∧K aA aB aI aJ aC aK w2
theorem w_F4 (s1:ByteArray) (w:World) (K:Int→Int→Int→Int→ByteArray→Sl→WP) (h:m_F4 s1 w K) :
  Calls prog 90 #[(vs s1)] w (fun e w'=>∃aE aF:Int,∃aG aD:Int,∃aH:ByteArray,∃bK:Sl,e=.returned (.agg #[(vi aE),(vi aF),(vi aG),(vu aD),(vs aH),bK.v])∧K aE aF aG aD aH bK w'):=by
 unfold m_F4 at h
 refine cw (args:=[(vs s1)]) func90 ntmps90 (eg (sn (O:=(.cells #[(vi 0),(vi 0),(vi 0),(vu 0),ve,Sl.nil.v] 76)) (zO (zeroValue76 _) rfl) ?_))
 intro p1 w1 hn2
 have h:=h p1 w1 hn2
 refine ln (eg (q0 (vs s1) (q0 (.agg #[(vi 3),(vi 0),(vi 0),(vu 0),(vs s1),Sl.nil.v]) ?_)))
 obtain ⟨hp1,h⟩:=h
 refine ss (xo p1 [(vi 3),(vi 0),(vi 0),(vu 0),(vs s1),Sl.nil.v] (sizeOf76 _) hp1) ?_
 intro w2 hn1
 have h:=h w2 hn1
 refine ln (er ?_)
 obtain ⟨aA,aB,aI,aJ,aC,aK,hv1,h⟩:=h
 refine uW (.inl rfl) (vs:=[(.agg #[(vi aA),(vi aB),(vi aI),(vu aJ),(vs aC),aK.v])]) (v:=(.agg #[(vi aA),(vi aB),(vi aI),(vu aJ),(vs aC),aK.v])) results90 ⟨(rva (isAgg76 _) (sizeOf76 _) hv1),trivial⟩ (by kernel_rfl) ?_
 exact ⟨aA,aB,aI,aJ,aC,aK,rfl,h⟩
def m_G4 (n1:Int) (w:World) (K:Int→Int→Int→Int→ByteArray→Sl→WP):Prop :=∀(p1:Addr) (w1:World),New w (.cells #[(vi 0),(vi 0),(vi 0),(vu 0),ve,Sl.nil.v] 76) p1 w1→(∀j,j<6→CanW w1 (p1.add j))∧∀w2:World,w2=storeRow w1 p1 [(vi 2),(vi 0),(vi 0),(vu n1),ve,Sl.nil.v]→∃aA aB:Int,∃aI aJ:Int,∃aC:ByteArray,∃aK:Sl,Row w2 p1 [(vi aA),(vi aB),(vi aI),(vu aJ),(vs aC),aK.v]∧K aA aB aI aJ aC aK w2
theorem w_G4 (n1:Int) (w:World) (K:Int→Int→Int→Int→ByteArray→Sl→WP) (h:m_G4 n1 w K) :
  Calls prog 91 #[(vu n1)] w (fun e w'=>∃aE aF:Int,∃aG aD:Int,∃aH:ByteArray,∃bK:Sl,e=.returned (.agg #[(vi aE),(vi aF),(vi aG),(vu aD),(vs aH),bK.v])∧K aE aF aG aD aH bK w'):=by
 unfold m_G4 at h
 refine cw (args:=[(vu n1)]) func91 ntmps91 (eg (sn (O:=(.cells #[(vi 0),(vi 0),(vi 0),(vu 0),ve,Sl.nil.v] 76)) (zO (zeroValue76 _) rfl) ?_))
 intro p1 w1 hn2
 have h:=h p1 w1 hn2
 refine ln (eg (q0 (vu n1) (q0 (.agg #[(vi 2),(vi 0),(vi 0),(vu n1),ve,Sl.nil.v]) ?_)))
 obtain ⟨hp1,h⟩:=h
 refine ss (xo p1 [(vi 2),(vi 0),(vi 0),(vu n1),ve,Sl.nil.v] (sizeOf76 _) hp1) ?_
 intro w2 hn1
 have h:=h w2 hn1
 refine ln (er ?_)
 obtain ⟨aA,aB,aI,aJ,aC,aK,hv1,h⟩:=h
 refine uW (.inl rfl) (vs:=[(.agg #[(vi aA),(vi aB),(vi aI),(vu aJ),(vs aC),aK.v])]) (v:=(.agg #[(vi aA),(vi aB),(vi aI),(vu aJ),(vs aC),aK.v])) results91 ⟨(rva (isAgg76 _) (sizeOf76 _) hv1),trivial⟩ (by kernel_rfl) ?_
 exact ⟨aA,aB,aI,aJ,aC,aK,rfl,h⟩
end Go.Proofs
end
section
open Go Go.SE
namespace Go.Sp
def qH (x:ByteArray):Tree:=.mk 3 0 0 0 x []
def jAX (n:Int):Tree:=.mk 2 0 0 n ⟨#[]⟩ []
def qK (a b:Tree):Tree:=.mk 4 0 0 0 ⟨#[]⟩ [a,b]
def yK (n:Int) (a:Tree):Tree:=.mk 7 n 0 0 ⟨#[]⟩ [a]
def yC (n:Int) (a:Tree) (fake:Bool):Tree:=.mk (if fake then 9 else 8) n (1 - n) 0 ⟨#[]⟩ [a]
def jPU:ByteArray:=⟨#[100,101,97,108]⟩
def qG (c:Int) (x:ByteArray):Tree:=qK (qH jPU) (qK (jAX c) (qH x))
end Go.Sp
namespace Go.Proofs
open Tryz
attribute [local irreducible] Calls
theorem TreeAt.leaf {S:NP} {w:World} {k f t u:Int} {x:ByteArray}:TreeAt S w Sl.nil (.mk k f t u x []) :=
 .mk k f t u x [] Sl.nil (fun _=>Sl.nil) rfl (by simp) (fun i h=>by simp at h) (fun i h=>by simp at h)
theorem TreeAt.one {S:NP} {w:World} {k f t u:Int} {x:ByteArray} {p:Addr} {A:Sp.Tree} {sa:Sl} {T:TypeId} (hB:Box w p (xN A sa) T) (hS:S p.block) (hA:TreeAt S w sa A):TreeAt S w ⟨some p,1,1⟩ (.mk k f t u x [A]):=by
 refine .mk k f t u x [A] _ (fun _=>sa) rfl (by simp) (fun i h=>?_) (fun i h=>?_)
 ·have:i=0:=by simpa using h
  subst this;exact ⟨p,⟨by omega,by simp,p,rfl,rfl⟩,hS,hB.row⟩
 ·have:i=0:=by simpa using h
  subst this;exact hA
theorem TreeAt.pair {S:NP} {w:World} {k f t u:Int} {x:ByteArray} {p:Addr} {A B:Sp.Tree} {sa sb:Sl} {T:TypeId} (hB:Box w p (xN A sa++xN B sb) T) (hS:S p.block) (hA:TreeAt S w sa A) (hB2:TreeAt S w sb B):TreeAt S w ⟨some p,2,2⟩ (.mk k f t u x [A,B]):=by
 refine .mk k f t u x [A,B] _ (fun i=>if i=0 then sa else sb) rfl (by simp) (fun i h=>?_) (fun i h=>?_)
 ·have:i=0∨i=1:=by simp at h;omega
  rcases this with rfl | rfl
  ·refine ⟨p,⟨by omega,by simp,p,rfl,rfl⟩,hS,fun i hi=>?_⟩;have:=hB.row i (by simp [xN] at hi ⊢;omega);have hi':i<6:=by simpa [xN] using hi
   rw [this];exact List.getElem?_append_left (by simp [xN];omega)
  ·refine ⟨p.add (1*6),⟨by omega,by simp,p,rfl,rfl⟩,by rw [zX];exact hS,fun i hi=>?_⟩;have hi':i<6:=by simpa [xN] using hi
   have:=hB.row (6+i) (by simp [xN];omega);rw [uM,this,List.getElem?_append_right (by simp [xN])];simp [xN]
 ·have:i=0∨i=1:=by simp at h;omega
  rcases this with rfl | rfl
  ·exact hA
  ·exact hB2
abbrev RetT (n0:Nat) (w:World) (T:Sp.Tree) (e:Ending) (w':World):Prop:=∃s,e=.returned (.agg (xN T s).toArray)∧TreeAt (n0≤·) w' s T∧Pure w w'
theorem yJ (n0:Nat) (x:ByteArray) (w:World) (h0:n0≤w.heap.size):Calls prog 90 #[.string x] w (RetT n0 w (Sp.qH x)):=by
 refine (w_F4 x w (fun k f t u y s w'=>(⟨k,f,t,u,y,0,0⟩:Sp.Node)=(Sp.qH x).node∧TreeAt (n0≤·) w' s (Sp.qH x)∧Pure w w') ?_).mono ?_
 ·unfold m_F4;intro p1 w1 h1;exact bx 6 (Box.of_new h1) rfl rfl (fun w' b E=>⟨_,_,_,_,_,Sl.nil,b.row,rfl,TreeAt.leaf,Ext.own (Ext.new h1) (New.own (Ext.refl w) h1) E⟩)
 ·rintro _ w' ⟨k,f,t,u,y,s,rfl,hn,hT,E⟩;cases hn;exact ⟨s,rfl,hT,E⟩
theorem uO (n0:Nat) (n:Int) (w:World) (h0:n0≤w.heap.size):Calls prog 91 #[.int .u64 n] w (RetT n0 w (Sp.jAX n)):=by
 refine (w_G4 n w (fun k f t u y s w'=>(⟨k,f,t,u,y,0,0⟩:Sp.Node)=(Sp.jAX n).node∧TreeAt (n0≤·) w' s (Sp.jAX n)∧Pure w w') ?_).mono ?_
 ·unfold m_G4;intro p1 w1 h1;exact bx 6 (Box.of_new h1) rfl rfl (fun w' b E=>⟨_,_,_,_,_,Sl.nil,b.row,rfl,TreeAt.leaf,Ext.own (Ext.new h1) (New.own (Ext.refl w) h1) E⟩)
 ·rintro _ w' ⟨k,f,t,u,y,s,rfl,hn,hT,E⟩;cases hn;exact ⟨s,rfl,hT,E⟩
theorem qS (n0:Nat) (A B:Sp.Tree) (sa sb:Sl) (w:World) (h0:n0≤w.heap.size) (hA:TreeAt (n0≤·) w sa A) (hB:TreeAt (n0≤·) w sb B) :
  Calls prog 89 #[.agg (xN A sa).toArray,.agg (xN B sb).toArray] w (RetT n0 w (Sp.qK A B)):=by
 refine (w_E4 _ _ _ _ _ sa _ _ _ _ _ sb w (fun k f t u y s w'=>(⟨k,f,t,u,y,0,0⟩:Sp.Node)=(Sp.qK A B).node∧TreeAt (n0≤·) w' s (Sp.qK A B)∧Pure w w') ?_).mono ?_
 ·unfold m_E4
  intro p1 w1 h1 p2 w2 h2 p3 w3 h3
  have E1:Pure w w1:=Ext.new h1
  have E2:=E1.trans (Ext.new h2)
  have E3:Pure w w3:=E2.trans (Ext.new h3)
  have b1:=((Box.of_new h1).pure (Ext.new h2)).pure (Ext.new h3:Pure w2 w3)
  have b2:=(Box.of_new h2).pure (Ext.new h3:Pure w2 w3)
  refine ⟨_,_,_,_,_,sa,b1.row,_,_,_,_,_,sb,b2.row,?_⟩
  intro p4 w4 h4
  have o3:=New.own E2 h3
  have n34:p3.block≠p4.block:=New.ne h4 (Box.of_new h3).blk
  have E4:Pure w w4:=E3.trans (Ext.new h4)
  have o4:=New.own E3 h4
  refine bx 6 ((Box.of_new h3).pure (Ext.new h4)) rfl rfl (fun w' b E=>⟨_,_,_,_,_,_,b.row,rfl,?_,E4.own o3 E⟩)
  have b4:=(Box.of_new h4).ext E n34.symm
  have E5:=E4.own o3 E
  refine TreeAt.pair (A:=A) (B:=B) (sa:=sa) (sb:=sb) b4 (by show n0≤_;omega) (hA.pure E5) (hB.pure E5)
 ·rintro _ w' ⟨k,f,t,u,y,s,rfl,hn,hT,E⟩
  cases hn;exact ⟨s,rfl,hT,E⟩
theorem uS (n0:Nat) (n:Int) (A:Sp.Tree) (sa:Sl) (w:World) (h0:n0≤w.heap.size) (hA:TreeAt (n0≤·) w sa A) :
  Calls prog 88 #[.int .i64 n,.agg (xN A sa).toArray] w (RetT n0 w (Sp.yK n A)):=by
 refine (w_D4 n _ _ _ _ _ sa w (fun k f t u y s w'=>(⟨k,f,t,u,y,0,0⟩:Sp.Node)=(Sp.yK n A).node∧TreeAt (n0≤·) w' s (Sp.yK n A)∧Pure w w') ?_).mono ?_
 ·unfold m_D4
  intro p1 w1 h1 p3 w3 h3
  have E1:Pure w w1:=Ext.new h1
  have E3:Pure w w3:=E1.trans (Ext.new h3)
  have b1:=(Box.of_new h1).pure (Ext.new h3:Pure w1 w3)
  refine ⟨_,_,_,_,_,sa,b1.row,?_⟩
  intro p4 w4 h4
  have o3:=New.own E1 h3
  have n34:p3.block≠p4.block:=New.ne h4 (Box.of_new h3).blk
  have E4:Pure w w4:=E3.trans (Ext.new h4)
  have o4:=New.own E3 h4
  refine bx 6 ((Box.of_new h3).pure (Ext.new h4)) rfl rfl (fun w' b E=>⟨_,_,_,_,_,_,b.row,rfl,?_,E4.own o3 E⟩)
  have b4:=(Box.of_new h4).ext E n34.symm
  have E5:=E4.own o3 E
  exact TreeAt.one (A:=A) (sa:=sa) b4 (by show n0≤_;omega) (hA.pure E5)
 ·rintro _ w' ⟨k,f,t,u,y,s,rfl,hn,hT,E⟩
  cases hn;exact ⟨s,rfl,hT,E⟩
theorem yI (n0:Nat) (n:Int) (hn1:n=0∨n=1) (A:Sp.Tree) (fake:Bool) (sa:Sl) (w:World) (h0:n0≤w.heap.size) (hA:TreeAt (n0≤·) w sa A) :
  Calls prog 87 #[.int .i64 n,.agg (xN A sa).toArray,.bool fake] w (RetT n0 w (Sp.yC n A fake)):=by
 refine (w_C4 n _ _ _ _ _ sa fake w (fun k f t u y s w'=>(⟨k,f,t,u,y,0,0⟩:Sp.Node)=(Sp.yC n A fake).node∧TreeAt (n0≤·) w' s (Sp.yC n A fake)∧Pure w w') ?_).mono ?_
 ·unfold m_C4
  intro p1 w1 h1 p3 w3 h3
  have E1:Pure w w1:=Ext.new h1
  have E3:Pure w w3:=E1.trans (Ext.new h3)
  have b1:=(Box.of_new h1).pure (Ext.new h3:Pure w1 w3)
  have hw:IntKind.i64.wrap (1 - n)=1 - n:=i64 (by omega) (by omega)
  rw [hw]
  refine ⟨fun h=>⟨_,_,_,_,_,sa,b1.row,?_⟩,fun h=>⟨_,_,_,_,_,sa,b1.row,?_⟩⟩
  all_goals
   intro p4 w4 h4
   have o3:=New.own E1 h3
   have n34:p3.block≠p4.block:=New.ne h4 (Box.of_new h3).blk
   have E4:Pure w w4:=E3.trans (Ext.new h4)
   have o4:=New.own E3 h4
   refine bx 6 ((Box.of_new h3).pure (Ext.new h4)) rfl rfl (fun w' b E=>⟨_,_,_,_,_,_,b.row,by rw [h];rfl,?_,E4.own o3 E⟩)
   have b4:=(Box.of_new h4).ext E n34.symm
   have E5:=E4.own o3 E
   exact TreeAt.one (A:=A) (sa:=sa) b4 (by show n0≤_;omega) (hA.pure E5)
 ·rintro _ w' ⟨k,f,t,u,y,s,rfl,hn,hT,E⟩
  cases hn;exact ⟨s,rfl,hT,E⟩
theorem jJY (n0:Nat) (c:Int) (x:ByteArray) (w:World) (h0:n0≤w.heap.size):Calls prog 86 #[.int .u64 c,.string x] w (RetT n0 w (Sp.qG c x)):=by
 refine (w_B4 c x w (fun k f t u y s w'=>(⟨k,f,t,u,y,0,0⟩:Sp.Node)=(Sp.qG c x).node∧TreeAt (n0≤·) w' s (Sp.qG c x)∧Pure w w') ?_).mono ?_
 ·unfold m_B4;intro p1 w1 h1;have E1:Pure w w1:=Ext.new h1;have o1:=New.own (Ext.refl w) h1;have s1:w.heap.size≤w1.heap.size:=E1.size;refine (yJ w1.heap.size _ w1 (by omega)).mono ?_;rintro _ w2 ⟨sa,rfl,hA,E2⟩;have s2:=E2.size;refine ⟨_,_,_,_,_,sa,rfl,?_⟩;refine (uO w1.heap.size c w2 (by omega)).mono ?_;rintro _ w3 ⟨sb,rfl,hB,E3⟩;have s3:=E3.size;refine ⟨_,_,_,_,_,sb,rfl,?_⟩;refine (yJ w1.heap.size x w3 (by omega)).mono ?_;rintro _ w4 ⟨sc,rfl,hC,E4⟩;have s4:=E4.size;refine ⟨_,_,_,_,_,sc,rfl,?_⟩;refine (qS w1.heap.size (Sp.jAX c) (Sp.qH x) sb sc w4 (by omega) (hB.pure E4) hC).mono ?_;rintro _ w5 ⟨sd,rfl,hD,E5⟩;have s5:=E5.size;refine ⟨_,_,_,_,_,sd,rfl,?_⟩;refine (qS w1.heap.size (Sp.qH Sp.jPU) (Sp.qK (Sp.jAX c) (Sp.qH x)) sa sd w5 (by omega) (((hA.pure E3).pure E4).pure E5) hD).mono ?_;rintro _ w6 ⟨se,rfl,hE,E6⟩;have E:Pure w1 w6:=(((E2.trans E3).trans E4).trans E5).trans E6;refine ⟨_,_,_,_,_,se,rfl,?_⟩;refine bx 6 ((Box.of_new h1).pure E) rfl rfl (fun w' b E'=>⟨_,_,_,_,_,se,b.row,rfl,?_,(E1.trans E).own o1 E'⟩);exact (hE.ext E' (fun b hb e=>by have:=(Box.of_new h1).lt;have:w1.heap.size≤b:=hb;omega)).mono (fun b hb=>by show n0≤b;have:w1.heap.size≤b:=hb;omega)
 ·rintro _ w' ⟨k,f,t,u,y,s,rfl,hn,hT,E⟩;cases hn;exact ⟨s,rfl,hT,E⟩
end Go.Proofs
end
section
open Go Go.SE
namespace Go.Proofs
attribute [local irreducible] Calls
end Go.Proofs
end
