import Derived.Test.YtkafbiknboamlaaGreatDoorProg
import Derived.KernelRfl
import Derived.Test.YtkafbiknboamlaaGreatDoorPa2
import Derived.Test.YtkafbiknboamlaaGreatDoorPa4
import Derived.Laws.IdiomStrings
import Init.Data.Nat
import Derived.Recover
import Derived.Test.YtkafbiknboamlaaGreatDoorPa3
section
open Go Go.SE
open Go.IntKind renaming i64 → q6
namespace Go.Proofs
open Tryz
set_option maxRecDepth 100000
set_option maxHeartbeats 4000000
attribute [local irreducible] wpL wpX opE wpE Calls
def m_Z3  (w0:World) (K:(Option Nat)→WP):Prop :=∀p1 w1,New w0 (.cells #[(.nilFunc:Value),(.nilFunc:Value)] 213) p1 w1→(∀j,j<2→zT w1 (p1.add j))∧∀w2,w2=storeRow w1 p1 [(.func (.func 182) #[] #[]),(.func (.func 184) #[] #[])]→∀p2 w3,New w2 (.cells #[(.nilFunc:Value),(.nilFunc:Value)] 213) p2 w3→(∀j,j<2→zT w3 (p2.add j))∧∀w4,w4=storeRow w3 p2 [(.func (.func 186) #[] #[]),(.func (.func 187) #[] #[])]→∀p3 w5,New w4 (.cells #[(.nilFunc:Value),(.nilFunc:Value)] 213) p3 w5→(∀j,j<2→zT w5 (p3.add j))∧∀w6,w6=storeRow w5 p3 [(.func (.func 188) #[] #[]),(.func (.func 189) #[] #[])]→∀p4 w7,New w6 (.cells #[(.nilFunc:Value),(.nilFunc:Value)] 213) p4 w7→(∀j,j<2→zT w7 (p4.add j))∧∀w8,w8=storeRow w7 p4 [(.func (.func 190) #[] #[]),(.func (.func 192) #[] #[])]→∀p5 w9,New w8 (.cells #[(.nilFunc:Value),(.nilFunc:Value)] 213) p5 w9→(∀j,j<2→zT w9 (p5.add j))∧∀w10,w10=storeRow w9 p5 [(.func (.func 194) #[] #[]),(.func (.func 195) #[] #[])]→∀p6 w11,New w10 (.cells #[(.nilFunc:Value),(.nilFunc:Value)] 213) p6 w11→(∀j,j<2→zT w11 (p6.add j))∧∀w12,w12=storeRow w11 p6 [(.func (.func 196) #[] #[]),(.func (.func 197) #[] #[])]→∀p7 w13,New w12 (.map #[] 0) p7 w13→∃vput1:Value,∃vget1:Value,Row w13 p1 [vput1,vget1]∧∀p8 w14,New w13 (.cells #[vput1,vget1] 213) p8 w14→∃w15:World,(Instr.mapUpdate 203 (.map (some p7.block)) (vi 1) (Sl.mk (some p8) 1 1).v).run prog w14=.ok () w15∧∃vput2:Value,∃vget2:Value,Row w15 p3 [vput2,vget2]∧∀p9 w16,New w15 (.cells #[vput2,vget2] 213) p9 w16→∃w17:World,(Instr.mapUpdate 203 (.map (some p7.block)) (vi 2) (Sl.mk (some p9) 1 1).v).run prog w16=.ok () w17∧∃vput3:Value,∃vget3:Value,Row w17 p4 [vput3,vget3]∧∀p10 w18,New w17 (.cells #[vput3,vget3] 213) p10 w18→∃w19:World,(Instr.mapUpdate 203 (.map (some p7.block)) (vi 3) (Sl.mk (some p10) 1 1).v).run prog w18=.ok () w19∧∃vput4:Value,∃vget4:Value,Row w19 p5 [vput4,vget4]∧∃vput5:Value,∃vget5:Value,Row w19 p6 [vput5,vget5]∧∀p11 w20,New w19 (.cells #[vput4,vget4,vput5,vget5] 213) p11 w20→∃w21:World,(Instr.mapUpdate 203 (.map (some p7.block)) (vi 4) (Sl.mk (some p11) 2 2).v).run prog w20=.ok () w21∧∃vput6:Value,∃vget6:Value,Row w21 p5 [vput6,vget6]∧∀p12 w22,New w21 (.cells #[vput6,vget6] 213) p12 w22→∃w23:World,(Instr.mapUpdate 203 (.map (some p7.block)) (vi 5) (Sl.mk (some p12) 1 1).v).run prog w22=.ok () w23∧∃vput7:Value,∃vget7:Value,Row w23 p1 [vput7,vget7]∧∀p13 w24,New w23 (.cells #[vput7,vget7] 213) p13 w24→∃w25:World,(Instr.mapUpdate 203 (.map (some p7.block)) (vi 6) (Sl.mk (some p13) 1 1).v).run prog w24=.ok () w25∧∃vput8:Value,∃vget8:Value,Row w25 p1 [vput8,vget8]∧∃vput9:Value,∃vget9:Value,Row w25 p5 [vput9,vget9]∧∀p14 w26,New w25 (.cells #[vput8,vget8,vput9,vget9] 213) p14 w26→∃w27:World,(Instr.mapUpdate 203 (.map (some p7.block)) (vi 7) (Sl.mk (some p14) 2 2).v).run prog w26=.ok () w27∧∃vput10:Value,∃vget10:Value,Row w27 p1 [vput10,vget10]∧∃vput11:Value,∃vget11:Value,Row w27 p2 [vput11,vget11]∧∃vput12:Value,∃vget12:Value,Row w27 p5 [vput12,vget12]∧∀p15 w28,New w27 (.cells #[vput10,vget10,vput11,vget11,vput12,vget12] 213) p15 w28→∃w29:World,(Instr.mapUpdate 203 (.map (some p7.block)) (vi 8) (Sl.mk (some p15) 3 3).v).run prog w28=.ok () w29∧∃vput13:Value,∃vget13:Value,Row w29 p1 [vput13,vget13]∧∃vput14:Value,∃vget14:Value,Row w29 p2 [vput14,vget14]∧∃vput15:Value,∃vget15:Value,Row w29 p5 [vput15,vget15]∧∀p16 w30,New w29 (.cells #[vput13,vget13,vput14,vget14,vput15,vget15] 213) p16 w30→∃w31:World,(Instr.mapUpdate 203 (.map (some p7.block)) (vi 9) (Sl.mk (some p16) 3 3).v).run prog w30=.ok () w31∧K (some p7.block) w31
theorem w_Z3  (w0:World) (K:(Option Nat)→WP) (h:m_Z3  w0 K) :
  Calls prog 138 #[] w0 (fun e w'=>∃r1:Option Nat,e=.returned (.map r1)∧K r1 w'):=by
 refine cw (args:=[]) func138 ntmps138 (eg (q0 (.map none) (ln (eg (q0 (.agg #[(.func (.func 182) #[] #[]),(.func (.func 184) #[] #[])]) (sn (O:=(.cells #[(.nilFunc:Value),(.nilFunc:Value)] 213)) (zI (zeroValue213 _) rfl) ?_))))))
 intro p1 w1 hn22
 have h:=h p1 w1 hn22
 refine sro (sizeOf213 _) h fun w2 h=>ln (eg (q (nw1 h (zI (zeroValue213 _) rfl) fun p2 w3 h=>sro (sizeOf213 _) h fun w4 h=>ln (eg (q (nw1 h (zI (zeroValue213 _) rfl) fun p3 w5 h=>sro (sizeOf213 _) h fun w6 h=>ln (eg (q (nw1 h (zI (zeroValue213 _) rfl) fun p4 w7 h=>sro (sizeOf213 _) h fun w8 h=>ln (eg (q (nw1 h (zI (zeroValue213 _) rfl) fun p5 w9 h=>sro (sizeOf213 _) h fun w10 h=>ln (eg (q (nw1 h (zI (zeroValue213 _) rfl) fun p6 w11 h=>sro (sizeOf213 _) h fun w12 h=>ln (eg (nw4 (fun p=>.map (some p.block)) h fun p7 w13 h=>?_)))))))))))))))))
 obtain ⟨vput1,vget1,hv24,h⟩:=h
 refine qa (isAgg213 _) (sizeOf213 _) hv24 (nw4 (fun p=>(Sl.mk (some p) 1 1).v) h fun p8 w14 h=>?_)
 obtain ⟨w15,hv23,h⟩:=h
 refine qV (zJ rfl) (uP (by kernel_rfl) (by kernel_rfl) (by kernel_rfl) hv23) ?_
 obtain ⟨vput2,vget2,hv22,h⟩:=h
 refine qa (isAgg213 _) (sizeOf213 _) hv22 (nw4 (fun p=>(Sl.mk (some p) 1 1).v) h fun p9 w16 h=>?_)
 obtain ⟨w17,hv21,h⟩:=h
 refine qV (zJ rfl) (uP (by kernel_rfl) (by kernel_rfl) (by kernel_rfl) hv21) ?_
 obtain ⟨vput3,vget3,hv20,h⟩:=h
 refine qa (isAgg213 _) (sizeOf213 _) hv20 (nw4 (fun p=>(Sl.mk (some p) 1 1).v) h fun p10 w18 h=>?_)
 obtain ⟨w19,hv19,h⟩:=h
 refine qV (zJ rfl) (uP (by kernel_rfl) (by kernel_rfl) (by kernel_rfl) hv19) ?_
 obtain ⟨vput4,vget4,hv18,h⟩:=h
 refine qa (isAgg213 _) (sizeOf213 _) hv18 ?_
 obtain ⟨vput5,vget5,hv17,h⟩:=h
 refine qa (isAgg213 _) (sizeOf213 _) hv17 (nw4 (fun p=>(Sl.mk (some p) 2 2).v) h fun p11 w20 h=>?_)
 obtain ⟨w21,hv16,h⟩:=h
 refine qV (zJ rfl) (uP (by kernel_rfl) (by kernel_rfl) (by kernel_rfl) hv16) ?_
 obtain ⟨vput6,vget6,hv15,h⟩:=h
 refine qa (isAgg213 _) (sizeOf213 _) hv15 (nw4 (fun p=>(Sl.mk (some p) 1 1).v) h fun p12 w22 h=>?_)
 obtain ⟨w23,hv14,h⟩:=h
 refine qV (zJ rfl) (uP (by kernel_rfl) (by kernel_rfl) (by kernel_rfl) hv14) ?_
 obtain ⟨vput7,vget7,hv13,h⟩:=h
 refine qa (isAgg213 _) (sizeOf213 _) hv13 (nw4 (fun p=>(Sl.mk (some p) 1 1).v) h fun p13 w24 h=>?_)
 obtain ⟨w25,hv12,h⟩:=h
 refine qV (zJ rfl) (uP (by kernel_rfl) (by kernel_rfl) (by kernel_rfl) hv12) ?_
 obtain ⟨vput8,vget8,hv11,h⟩:=h
 refine qa (isAgg213 _) (sizeOf213 _) hv11 ?_
 obtain ⟨vput9,vget9,hv10,h⟩:=h
 refine qa (isAgg213 _) (sizeOf213 _) hv10 (nw4 (fun p=>(Sl.mk (some p) 2 2).v) h fun p14 w26 h=>?_)
 obtain ⟨w27,hv9,h⟩:=h
 refine qV (zJ rfl) (uP (by kernel_rfl) (by kernel_rfl) (by kernel_rfl) hv9) ?_
 obtain ⟨vput10,vget10,hv8,h⟩:=h
 refine qa (isAgg213 _) (sizeOf213 _) hv8 ?_
 obtain ⟨vput11,vget11,hv7,h⟩:=h
 refine qa (isAgg213 _) (sizeOf213 _) hv7 ?_
 obtain ⟨vput12,vget12,hv6,h⟩:=h
 refine qa (isAgg213 _) (sizeOf213 _) hv6 (nw4 (fun p=>(Sl.mk (some p) 3 3).v) h fun p15 w28 h=>?_)
 obtain ⟨w29,hv5,h⟩:=h
 refine qV (zJ rfl) (uP (by kernel_rfl) (by kernel_rfl) (by kernel_rfl) hv5) ?_
 obtain ⟨vput13,vget13,hv4,h⟩:=h
 refine qa (isAgg213 _) (sizeOf213 _) hv4 ?_
 obtain ⟨vput14,vget14,hv3,h⟩:=h
 refine qa (isAgg213 _) (sizeOf213 _) hv3 ?_
 obtain ⟨vput15,vget15,hv2,h⟩:=h
 refine qa (isAgg213 _) (sizeOf213 _) hv2 (nw4 (fun p=>(Sl.mk (some p) 3 3).v) h fun p16 w30 h=>?_)
 obtain ⟨w31,hv1,h⟩:=h
 refine qV (zJ rfl) (uP (by kernel_rfl) (by kernel_rfl) (by kernel_rfl) hv1) (q0 (.map (some p7.block)) (q0 (.map (some p7.block)) (ln (er (rs1 results138 ⟨(some p7.block),rfl,h⟩)))))
def m_S1_l1 (p3 p6:Addr) (I1:List (Int)→NP→WP) (pre1:List (Int)) (z2:Int) (Y1:NP) (A1:World) (aO aW:Int) (aX aY:Int) (aZ:ByteArray) (bA bB:Int) (v5:Sl) (x1:Int) (Hl1:NP) (wl1:World) (Kc1:Int→NP→WP) (_K:Sl→WP):Prop :=Br (decide (x1<(v5.len:Int))) (∃a1:Addr,At v5 x1 2 a1∧∃vput1:Value,∃vget1:Value,Row wl1 a1 [vput1,vget1]∧∀p9 w17,New wl1 (.cells #[(.nilFunc:Value),(.nilFunc:Value)] 213) p9 w17→([vput1,vget1].all vY=true∧∀j,j<2→zT w17 (p9.add j))∧¬ Hl1 p9.block∧∀w18,w18=storeRow w17 p9 [vput1,vget1]→∃v6:Value,w18.cell? p9=some v6∧∃v7:Sl,w18.cell? p3=some v7.v∧∃v8:Option Nat,w18.cell? p6=some (.map v8)∧∃(f2:FuncId) (fs1 cs2:Array Value),v6=.func (.func f2) fs1 cs2∧(∀args w,(callFunc f2 args).run prog w=.ok (.enter f2 args) w)∧Calls prog f2 (fs1++#[v7.v,(.agg #[(vi aO),(vi aW),(vi aX),(vu aY),(vs aZ),(vi bA),(vi bB)]),(.map v8)]++cs2) w18 (fun e w19=>∃r4:Sl,e=.returned r4.v∧Kept Hl1 w18 w19∧zT w19 p3∧¬ Hl1 p3.block∧∀w20,w20=w19.setCell p3 r4.v→Kc1 (q6.wrap (x1+1)) Hl1 w20)) (∃v9:Option Nat,wl1.cell? p6=some (.map v9)∧∃v10:Option Nat,wl1.cell? p6=some (.map v10)∧∃z3,(Builtin.len_ #[205] 3 #[(.map v10)]).run prog wl1=.ok (vi z3) wl1∧∃w21:World,(Instr.mapUpdate 205 (.map v9) (vi z2) (vi z3)).run prog wl1=.ok () w21∧Kept Hl1 wl1 w21∧Kept Y1 A1 w21∧I1 (pre1++[z2]) Y1 w21)
def m_S1 (p1:Option Addr) (t1:Int) (w0:World) (K:Sl→WP):Prop :=∀p2 w1,New w0 (.cells #[(vp p1)] 29) p2 w1→∀p3 w2,New w1 (.cells #[Sl.nil.v] 54) p3 w2→Calls prog 138 #[] w2 (fun e w3=>∃r1:Option Nat,e=.returned (.map r1)∧Kept None w2 w3∧∀p4 w4,New w3 (.cells #[(.map none)] 203) p4 w4→zT w4 p4∧¬ None p4.block∧∀w5,w5=w4.setCell p4 (.map r1)→∀p5 w6,New w5 (.map #[] 0) p5 w6→∀p6 w7,New w6 (.cells #[(.map none)] 205) p6 w7→zT w7 p6∧¬ None p6.block∧∀w8,w8=w7.setCell p6 (.map (some p5.block))→∃v1,w8.cell? p2=some (vp v1)∧Calls prog 139 #[(vp v1),(vi t1)] w8 (fun e w9=>∃r2:Value,e=.returned r2∧Kept None w8 w9∧∃(f1:FuncId) (cs1:Array Value),r2=.func (.func f1) #[] cs1∧(∀args w,(callFunc f1 args).run prog w=.ok (.enter f1 args) w)∧∃(xs1:List (Int)) (Rd1:WP),jQD prog f1 cs1 (fun (z2:Int)=>#[(vi z2)]) xs1 Rd1 w9∧∃(I1:List (Int)→NP→WP),RngI w0 Rd1 I1 (fun _ _ _=>False) (fun _ _ _=>False)∧I1 [] None w9∧(∀(pre1:List (Int)) (z2:Int) (Y1:NP) (A1:World),I1 pre1 Y1 A1→Hst w0 Y1 A1 Y1 A1→(∃post,xs1=pre1++z2 :: post)→∃v2,A1.cell? p2=some (vp v2)∧Calls prog 61 #[(vp v2),(vi z2)] A1 (fun e w11=>∃aO aW aX aY aZ bA bB r3,e=.returned (.tuple #[(Ae aO aW aX aY aZ bA bB),(vb r3)])∧Kept None A1 w11∧∀H1 w13,Hst A1 None w11 H1 w13→∃v3:Sl,w13.cell? p3=some v3.v∧∀p8 w14,New w13 (.cells #[(.int .u8 (IntKind.u8.wrap aO))] 5) p8 w14→∃s1:Sl,∃w15:World,(Builtin.append_ #[54,54] 54 #[v3.v,(Sl.mk (some p8) 1 1).v]).run prog w14=.ok s1.v w15∧Kept H1 w14 w15∧zT w15 p3∧¬ H1 p3.block∧∀w16,w16=w15.setCell p3 s1.v→∃v4:Option Nat,w16.cell? p4=some (.map v4)∧∃v5:Sl,(Instr.lookup 203 (.map v4) (vi aO) false).run prog w16=.ok v5.v w16∧∃(I2:Int→NP→WP) (mu1:Int→World→Nat),I2 0 H1 w16∧∀(x1:Int) (Hl1:NP) (wl1:World),Hst A1 Hl1 wl1 Hl1 wl1→I2 x1 Hl1 wl1→m_S1_l1 p3 p6 I1 pre1 z2 Y1 A1 aO aW aX aY aZ bA bB v5 x1 Hl1 wl1 (fun y'0 H' w'=>I2 y'0 H' w'∧mu1 y'0 w'<mu1 x1 wl1) K))∧∀H2 w22,Hst w0 H2 w22 H2 w22→(∀b,None b→H2 b)→Kept None w9 w22→I1 xs1 H2 w22→∃v11:Sl,w22.cell? p3=some v11.v∧∀w23,Hst w0 H2 w22 H2 w23→K v11 w23))
theorem w_S1 (p1 t1 w0 K) (h:m_S1 p1 t1 w0 K):
  Calls prog 98 #[(vp p1),(vi t1)] w0 (fun e w'=>∃r5:Sl,e=.returned r5.v∧K r5 w'):=by
 refine cw (args:=[(vp p1),(vi t1)]) func98 ntmps98 ?_
 obtain ⟨hs,hb⟩:=st0 w0
 refine eg (nw2 hs hb h xb fun p2 w1 hs hb h=>q (ln (eg (nw2 hs hb h (zI (zeroValue54 _) rfl) fun p3 w2 hs hb h=>ln (eg (sc call138 (h.mono fun e w3 ⟨r1,k,hk,h⟩=>have ⟨hs,hb⟩:=hk.hh hs hb;⟨_,k,?_⟩)))))))
 refine nw2 hs hb h (zI (zeroValue203 _) rfl) fun p4 w4 hs hb h=>st2 (sizeOf203 _) hs hb h fun w5 hs hb h=>ln (eg (nw5 (fun p=>.map (some p.block)) hs hb h fun p5 w6 hs hb h=>nw2 hs hb h (zI (zeroValue205 _) rfl) fun p6 w7 hs hb h=>st2 (sizeOf205 _) hs hb h fun w8 hs hb h=>ln (jFX (rg (ql (isAgg29 _) h fun v1 h=>q (sc call139 (h.mono fun e w9 ⟨r2,k,hk,h⟩=>have ⟨hs,hb⟩:=hk.hh hs hb;⟨_,k,?_⟩)))))))
 refine ln ?_
 obtain ⟨f1,cs1,hv1,hf1,h⟩:=h
 obtain ⟨xs1,Rd1,hit,I1,hRI,h0,hbody,h⟩:=h
 refine jDO (encs:=(fun (z2:Int)=>#[(vi z2)])) (Eq.trans (b:=r2) (by kernel_rfl) hv1) hf1 hit (fun _=>rfl) (by decide) hs I1 (fun _ _ _=>False) (fun _ _ _=>False) hRI h0 ?ha ?hr ?ht
 case ha =>
  intro l z2 w24
  refine rg (q (ln ⟨rfl,?_⟩))
  intro pre1 Y1 A1 hi hY hpost
  have h:=hbody pre1 z2 Y1 A1 hi hY hpost
  obtain ⟨hs,hb⟩:=st0 A1
  refine zL (eg (ql (isAgg29 _) h fun v2 h=>q (sc call61 (h.mono fun e w11 ⟨aO,aW,aX,aY,aZ,bA,bB,r3,k,hk,h⟩=>have ⟨hs,hb⟩:=hk.hh hs hb;⟨_,k,?_⟩))))
  refine qc (nw3 (Ai 0 0 0 0 0 0) 103 hs hb (zI (zeroValue103 _) rfl) fun p7 w12 H1 hs hb=>sbx 0 (Ac aO aW aX aY aZ bA bB) (sizeOf103 _) hs hb gZ fun w13 hs hb=>q (ln (eg ?_)))
  have ⟨h,hs⟩:=hs.hr (h H1 w13)
  refine ql (isAgg54 _) h fun v3 h=>q (q3 (xl (isAgg3 _) (hb.d0 0 gZ)) (q (yX (O:=(.cells #[(.int .u8 (IntKind.u8.wrap aO))] 5)) (fun p=>(Sl.mk (some p) 1 1).v) (zJ rfl) (vD (vs:=#[(0,(.int .u8 (IntKind.u8.wrap aO)))]) (by kernel_rfl) (by kernel_rfl)) ?_)))
  intro p8 w14 hn9
  have h:=h p8 w14 hn9
  obtain ⟨hs,hb⟩:=hs.nw hb hn9
  obtain ⟨s1,w15,hv13,hk,h⟩:=h
  refine st (v:=s1.v) (zJ rfl) (vC (args:=#[v3.v,(Sl.mk (some p8) 1 1).v]) (by kernel_rfl) (fun _=>rfl) hv13) ?_
  obtain ⟨hs,hb⟩:=hk.hh hs hb
  refine st2 (sizeOf54 _) hs hb h fun w16 hs hb h=>ln (zB (eg (ql (isAgg203 _) h fun v4 h=>q (q3 (xl (isAgg3 _) (hb.d0 0 gZ)) ?_))))
  obtain ⟨v5,hv11,h⟩:=h
  refine q2 v5.v (yU (by kernel_rfl) (by kernel_rfl) hv11) (qb (ln (zL ?_)))
  obtain ⟨I2,mu1,h0,hr⟩:=h
  refine vU (σ:=Int×NP×World) (fun s ρ w=>w=s.2.2∧Has ρ [(5,(vp (some p3))),(7,(vp (some p6))),(8,(vi z2)),(9,(vp (some p7))),(34,v5.v),(35,(vi (v5.len:Int))),(36,(vi s.1))]∧Hst A1 s.2.1 w s.2.1 w∧HB s.2.1 w [(p7,(Ac aO aW aX aY aZ bA bB),103)]∧I2 s.1 s.2.1 s.2.2) (fun s=>mu1 s.1 s.2.2) (0,H1,w16) ⟨rfl,hm,hs,hb,h0⟩ ?_
  rintro ⟨x1,Hl1,wl1⟩ ρ w ⟨hw,hH,hs,hb,hI⟩
  dsimp only at hw hH hs hb;subst w
  have h:=hr x1 Hl1 wl1 hs hI
  refine zQ hH (eg (q (ln (zB (cbr h ?_ ?_)))))<;>intro h
  refine zD (zN (zB (zL (eg (qi (runUnderlying209 _) (sizeOf213 _) h fun a1 h=>?_)))))
  obtain ⟨vput1,vget1,hv5,h⟩:=h
  refine qa (isAgg213 _) (sizeOf213 _) hv5 (nw2 hs hb h (zI (zeroValue213 _) rfl) fun p9 w17 hs hb h=>?_)
  obtain ⟨hp4,hnh,h⟩:=h
  refine ss (tX (a:=p9) (vs:=[vput1,vget1]) (by kernel_rfl) (by kernel_rfl) hp4.1 (sizeOf213 _) rfl hp4.2) ?_
  intro w18 hn6
  have h:=h w18 hn6
  have hk:Kept Hl1 w17 w18:=by rw [hn6];exact Kept.storeRow hnh
  obtain ⟨hs,hb⟩:=hk.hh hs hb
  refine ln (rg (q (ql (isAgg210 _) h fun v6 h=>ql (isAgg54 _) h fun v7 h=>q2 (Ae aO aW aX aY aZ bA bB) (xa p7 (Ac aO aW aX aY aZ bA bB) (isAgg103 _) (sizeOf103 _) (hb.r0 0 7 gZ)) (ql (isAgg205 _) h fun v8 h=>?_))))
  obtain ⟨f2,fs1,cs2,hp5,h⟩:=h
  obtain ⟨hf2,h⟩:=h
  refine qG (zJ rfl) (jDA (fs:=fs1) (caps:=cs2) (args:=#[v7.v,(Ae aO aW aX aY aZ bA bB),(.map v8)]) (by kernel_rfl) hp5 hf2 (by kernel_rfl) rfl) (h.mono ?_)
  rintro e w19 ⟨r4,rfl,hk,h⟩
  refine ⟨_,rfl,?_⟩
  obtain ⟨hs,hb⟩:=hk.hh hs hb
  refine st2 (sizeOf54 _) hs hb h fun w20 hs hb h=>zC (xE (zN (rg (qb (ln ⟨((q6.wrap (x1+1)),Hl1,w20),⟨rfl,hm,hs,hb,h.1⟩,h.2⟩)))))
  refine vQ (xG (xG (xA (zN (rg (ql (isAgg205 _) h fun v9 h=>q (ql (isAgg205 _) h fun v10 h=>?_)))))))
  obtain ⟨z3,hv8,h⟩:=h
  refine q2 (vi z3) (vC (args:=#[(.map v10)]) (by kernel_rfl) (fun _=>rfl) hv8) ?_
  obtain ⟨w21,hv7,hk,h⟩:=h
  refine qV (zJ rfl) (tD (by kernel_rfl) (by kernel_rfl) (by kernel_rfl) hv7) ?_
  obtain ⟨hs,hb⟩:=hk.hh hs hb
  refine zC (xE ?_)
  exact rd_n h
 case hr =>
  intro D1 H2 w22 hs' hD hDe dA hk1 hio1
  have hb':=hb.behind hk1 dA hD hDe
  have hs:=hs'
  have hb:=hb'
  have h:=h H2 w22 hs dA hk1 (hio1.elim id (fun h=>h.elim (fun _ h=>h.elim)))
  refine eg (ql (isAgg54 _) h fun v11 h=>q (ln (er (af_r hb.dead ?_))))
  intro w23 hw'
  have hl:=hb.leave hs hw'
  obtain ⟨hs,hb⟩:=hl
  -- behind the loop
  have ⟨h,hs⟩:=hs.hr (h w23)
  refine rs1 results98 ⟨v11,rfl,h⟩
 case ht =>
  intro _ _ _ _ _ _ _ h
  exact h.elim
def m_A4 (p1:Option Addr) (t1:Int) (w0:World) (K:Sl→Int→WP):Prop :=Calls prog 61 #[(vp p1),(vi t1)] w0 (fun e w1=>∃aO aW aX aY aZ bA bB r1,e=.returned (.tuple #[(Ae aO aW aX aY aZ bA bB),(vb r1)])∧Kept None w0 w1∧Br (!r1) (∀H1 w3,Hst w0 None w1 H1 w3→K Sl.nil 51 w3) (∀H1 w3,Hst w0 None w1 H1 w3→Calls prog 98 #[(vp p1),(vi t1)] w3 (fun e w4=>∃r2:Sl,e=.returned r2.v∧Kept H1 w3 w4∧Br (decide ((r2.len:Int)>4096)) (K Sl.nil 1 w4) (K r2 0 w4))))
theorem w_A4 (p1 t1 w0 K) (h:m_A4 p1 t1 w0 K):
  Calls prog 49 #[(vp p1),(vi t1)] w0 (fun e w'=>∃r3:Sl,∃r4,e=.returned (.tuple #[r3.v,(vi r4)])∧K r3 r4 w'):=by
 refine cw (args:=[(vp p1),(vi t1)]) func49 ntmps49 ?_
 obtain ⟨hs,hb⟩:=st0 w0
 refine eg (qb (ln (zB (eg (qb (sc call61 (h.mono fun e w1 ⟨aO,aW,aX,aY,aZ,bA,bB,r1,k,hk,h⟩=>have ⟨hs,hb⟩:=hk.hh hs hb;⟨_,k,?_⟩)))))))
 refine qc (nw3 (Ai 0 0 0 0 0 0) 103 hs hb (zI (zeroValue103 _) rfl) fun p2 w2 H1 hs hb=>sbx 0 (Ac aO aW aX aY aZ bA bB) (sizeOf103 _) hs hb gZ fun w3 hs hb=>q (ln (eg (qb (ln (cbr h ?_ ?_))))))<;>intro h
 refine eg (qb (ln (er (vA ?_))))
 have ⟨h,hs⟩:=hs.hr (h H1 w3)
 refine xC (.inl rfl) results49 (v:=Sl.nil.v) (by kernel_rfl) (v':=(vi 51)) (by kernel_rfl) ⟨Sl.nil,51,rfl,h⟩
 refine zD (zN (eg (qb ?_)))
 have ⟨h,hs⟩:=hs.hr (h H1 w3)
 refine sc call98 (h.mono fun e w4 ⟨r2,k,hk,h⟩=>have ⟨hs,hb⟩:=hk.hh hs hb;⟨_,k,?_⟩)
 refine q (ln (zB (eg (qc (ln (cbr h ?_ ?_))))))<;>intro h
 refine eg (qb (ln (er (vA (xC (.inl rfl) results49 (v:=Sl.nil.v) (by kernel_rfl) (v':=(vi 1)) (by kernel_rfl) ⟨Sl.nil,1,rfl,h⟩)))))
 refine zD (zN (eg (qc (ln (er (xC (.inl rfl) results49 (v:=r2.v) (by kernel_rfl) (v':=(vi 0)) (by kernel_rfl) ⟨r2,0,rfl,h⟩))))))
def m_B4 (p1:Sl) (w0:World) (K:(Option Addr)→WP):Prop :=Calls prog 211 #[p1.v] w0 (fun e w1=>∃r1:Sl,e=.returned r1.v∧∀p2 w2,New w1 (.cells #[r1.v,(vi 0),(vi 0),(vi 0)] 258) p2 w2→K (some p2) w2)
theorem w_B4 (p1 w0 K) (h:m_B4 p1 w0 K):
  Calls prog 163 #[p1.v] w0 (fun e w'=>∃r2,e=.returned (vp r2)∧K r2 w'):=by
 refine cw (args:=[p1.v]) func163 ntmps163 (eg (q0 (vp none) (ln (eg (q0 p1.v ?_)))))
 refine sc call211 (h.mono fun e w1 ⟨r1,k,h⟩=>⟨_,k,?_⟩)
 refine q (nw1 h xb fun p2 w2 h=>q (ln (er (rs1 results163 ⟨(some p2),rfl,h⟩))))
def m_C4 (r1:Option Addr) (w0:World) (K:Int→WP):Prop :=Br (Option.isNone r1) (K 0 w0) (∃a1,r1=some a1∧∀w1,Hst w0 None w0 None w1→∃v1:Sl,w1.cell? a1=some v1.v∧∃a2,r1=some a2∧∃v2,w1.cell? (a2.add 1)=some (vi v2)∧K (q6.wrap ((v1.len:Int) - v2)) w1)
theorem w_C4 (r1 w0 K) (h:m_C4 r1 w0 K):
  Calls prog 164 #[(vp r1)] w0 (fun e w'=>∃r2,e=.returned (vi r2)∧K r2 w'):=by
 refine cw (args:=[(vp r1)]) func164 ntmps164 ?_
 obtain ⟨hs,hb⟩:=st0 w0
 refine eg (q (ln (zB (eg (q (q2 (vb (Option.isNone r1)) (uF (by kernel_rfl) rfl underlying230) (ln (cbr h ?_ ?_))))))))<;>intro h
 refine eg (q (ln (er (vA (rs1 results164 ⟨0,rfl,h⟩)))))
 refine zD (zN (zB (qC (by kernel_rfl) (by kernel_rfl) (by kernel_rfl) (by kernel_rfl) ?_)))
 intro w1 hw1
 have hs:Hst w0 None w0 None w1:=by rw [hw1];exact hs.drew
 have hb:HB None w1 []:=by rw [hw1];exact hb.drew
 refine qq 0 (vp r1) Kp0 (qg 1 ?_)
 obtain ⟨a1,hp1,h⟩:=h
 refine sxQ Kp1 (zJ rfl) rfl (xn hp1) (qq 2 (vp (some a1)) Kp2 (qg 3 ?_))
 have ⟨h,hs⟩:=hs.hr (h w1)
 obtain ⟨v1,hv2,h⟩:=h
 refine sxQ Kp3 (zJ rfl) rfl (xl (isAgg54 _) hv2) (qq 4 (vi (v1.len:Int)) Kp4 (qq 5 (vp r1) Kp5 (qg 6 ?_)))
 obtain ⟨a2,hp2,h⟩:=h
 refine sxQ Kp6 (zJ rfl) rfl (xn hp2) (qq 7 (vp (some (a2.add 1))) Kp7 (qg 8 ?_))
 obtain ⟨v2,hv1,h⟩:=h
 refine sxQ Kp8 (zJ rfl) rfl (xl (isAgg3 _) hv1) (qq 9 (vi (q6.wrap ((v1.len:Int) - v2))) Kp9 (qq 10 (vi (q6.wrap ((v1.len:Int) - v2))) (zG (S8 (zA (zA zF)))) (wn (zN (er (rs1 results164 ⟨(q6.wrap ((v1.len:Int) - v2)),rfl,h⟩))))))
def m_D4 (r1:Option Addr) (w0:World) (K:Int→WP):Prop :=Br (Option.isNone r1) (K 0 w0) (∃a1,r1=some a1∧∃v1,w0.cell? (a1.add 1)=some (vi v1)∧K v1 w0)
theorem w_D4 (r1 w0 K) (h:m_D4 r1 w0 K):
  Calls prog 165 #[(vp r1)] w0 (fun e w'=>∃r2,e=.returned (vi r2)∧K r2 w'):=by
 refine cw (args:=[(vp r1)]) func165 ntmps165 (eg (q0 (vi 0) (ln (zB (eg (q0 (vp r1) (q2 (vb (Option.isNone r1)) (uF (by kernel_rfl) rfl underlying230) (zC ?_))))))))
 refine zN (cbr h ?_ ?_)<;>intro h
 refine eg (q (ln (er (vA (rs1 results165 ⟨0,rfl,h⟩)))))
 refine zD (zN (eg (q (qm h fun a1 h=>q (ql (isAgg3 _) h fun v1 h=>q (ln (er (rs1 results165 ⟨v1,rfl,h⟩))))))))
def m_E4 (r1:Option Addr) (w0:World) (K:Int→WP):Prop :=∀p1 w1,New w0 (.cells #[(vp r1)] 230) p1 w1→∀p2 w2,New w1 (.cells #[(.int .u8 0)] 5) p2 w2→∃v1,w2.cell? p1=some (vp v1)∧Calls prog 227 #[(vp v1),(.func (.func 240) #[] #[(vp (some p1)),(vp (some p2))])] w2 (fun e w3=>e=.returned (.tuple #[])∧∃v2:Int,w3.cell? p2=some (.int .u8 v2)∧zT w3 p2∧∀w4,w4=w3.setCell p2 (.int .u8 v2)→∃aK:Int,w4.cell? p2=some (.int .u8 aK)∧K aK w4)
theorem w_E4 (r1 w0 K) (h:m_E4 r1 w0 K):
  Calls prog 212 #[(vp r1)] w0 (fun e w'=>∃r2:Int,e=.returned (.int .u8 r2)∧K r2 w'):=by
 refine cw (args:=[(vp r1)]) func212 ntmps212 (eg (sn (O:=(.cells #[(vp r1)] 230)) xb ?_))
 intro p1 w1 hn3
 have h:=h p1 w1 hn3
 refine nw1 h (zI (zeroValue5 _) rfl) fun p2 w2 h=>ln (eg (ql (isAgg230 _) h fun v1 h=>q (sc call227 (h.mono fun e w3 ⟨k,h⟩=>⟨_,k,?_⟩))))
 refine ln (eg (ql (isAgg5 _) h fun v2 h=>st1 (sizeOf5 _) h fun w4 h=>ln (er ?_)))
 obtain ⟨aK,hv1,h⟩:=h
 refine gg1 results212 (RV.cell1 (A:=p2) (by kernel_rfl) (isAgg5 _) hv1) ⟨aK,rfl,h⟩
def m_F4 (r1:Option Addr) (w0:World) (K:Int→Int→WP):Prop :=Br (Option.isNone r1) (K 0 0 w0) (∃a1,r1=some a1∧∀w1,Hst w0 None w0 None w1→∃v1,w1.cell? (a1.add 2)=some (vi v1)∧∃a2,r1=some a2∧∃v2,w1.cell? (a2.add 3)=some (vi v2)∧K v1 v2 w1)
theorem w_F4 (r1 w0 K) (h:m_F4 r1 w0 K):
  Calls prog 213 #[(vp r1)] w0 (fun e w'=>∃r2 r3,e=.returned (.tuple #[(vi r2),(vi r3)])∧K r2 r3 w'):=by
 refine cw (args:=[(vp r1)]) func213 ntmps213 ?_
 obtain ⟨hs,hb⟩:=st0 w0
 refine eg (qb (ln (zB (eg (q (q2 (vb (Option.isNone r1)) (uF (by kernel_rfl) rfl underlying230) (zC (zN (cbr h ?_ ?_)))))))))<;>intro h
 refine eg (qb (ln (er (vA (xC (.inl rfl) results213 (v:=(vi 0)) (by kernel_rfl) (v':=(vi 0)) (by kernel_rfl) ⟨0,0,rfl,h⟩)))))
 refine zD (zN (zB (qC (by kernel_rfl) (by kernel_rfl) (by kernel_rfl) (by kernel_rfl) ?_)))
 intro w1 hw1
 have hs:Hst w0 None w0 None w1:=by rw [hw1];exact hs.drew
 have hb:HB None w1 []:=by rw [hw1];exact hb.drew
 refine qq 0 (vp r1) Kp0 (qg 1 ?_)
 obtain ⟨a1,hp1,h⟩:=h
 refine sxQ Kp1 (zJ rfl) rfl (xn hp1) (qq 2 (vp (some (a1.add 2))) Kp2 (qg 3 ?_))
 have ⟨h,hs⟩:=hs.hr (h w1)
 obtain ⟨v1,hv2,h⟩:=h
 refine sxQ Kp3 (zJ rfl) rfl (xl (isAgg33 _) hv2) (qq 4 (vp r1) Kp4 (qg 5 ?_))
 obtain ⟨a2,hp2,h⟩:=h
 refine sxQ Kp5 (zJ rfl) rfl (xn hp2) (qq 6 (vp (some (a2.add 3))) Kp6 (qg 7 ?_))
 obtain ⟨v2,hv1,h⟩:=h
 refine sxQ Kp7 (zJ rfl) rfl (xl (isAgg3 _) hv1) (qq 8 (vi v1) Kp8 (qq 9 (vi v2) Kp9 (wn (zN (er (xC (.inl rfl) results213 (v:=(vi v1)) (by kernel_rfl) (v':=(vi v2)) (by kernel_rfl) ⟨v1,v2,rfl,h⟩))))))
def s_Q (n1:Int):Int :=(cond (decide (n1>2147483647)) (-1) (q6.wrap n1))
theorem pw_Q (n1:Int) (w0:World) :
  Calls prog 214 #[(vu n1)] w0 (fun e w'=>∃b'0:Bool,((decide (n1>2147483647))=b'0)∧(e=.returned (vi (cond b'0 (-1) (q6.wrap n1))))∧Pure w0 w'):=by
 refine cw (args:=[(vu n1)]) func214 ntmps214 (eg (q0 (vi 0) (ln (zB (eg (q0 (vu n1) (q0 (vb (decide (n1>2147483647))) (zC ?_))))))))
 refine zN (vI (t:=(decide (n1>2147483647))) (by kernel_rfl) (fun hc1=>?_) (fun hc1=>?_))
 refine eg (q (ln (er (vA (rs1 results214 (v:=(vi (-1))) ⟨true,hc1,by kernel_rfl,Ext.refl _⟩)))))
 refine zD (zN (eg (qc (ln (er (rs1 results214 (v:=(vi (q6.wrap n1))) ⟨false,hc1,by kernel_rfl,Ext.refl _⟩))))))
theorem p_Q (n1:Int) (w0:World):Calls prog 214 #[(.int .u64 n1)] w0 (fun e w'=>e=.returned (.int .i64 (s_Q n1))∧Pure w0 w'):=by
 refine (pw_Q n1 w0).mono ?_;rintro e w' ⟨b'0,e0,h,E⟩;subst e0;exact ⟨h,E⟩
def s_U (aB aA:Int) (aC aE:Int) (aF:ByteArray) (aG aH:Int):Int :=(cond (((((decide (aA<0)) || (decide (aA≥16))) || (decide (aC<0))) || (decide (aC≥16))) || (((aB == 8) || (aB == 9)) && (aA == aC))) 50 0)
theorem pw_U (aB aA:Int) (aC aE:Int) (aF:ByteArray) (aG aH:Int) (w0:World) :
  Calls prog 215 #[(.agg #[(vi aB),(vi aA),(vi aC),(vu aE),(vs aF),(vi aG),(vi aH)])] w0 (fun e w'=>∃b'0:Bool,((((((decide (aA<0)) || (decide (aA≥16))) || (decide (aC<0))) || (decide (aC≥16))) || (((aB == 8) || (aB == 9)) && (aA == aC)))=b'0)∧(e=.returned (vi (cond b'0 50 0)))∧Pure w0 w'):=by
 refine cw (args:=[(Ae aB aA aC aE aF aG aH)]) func215 ntmps215 ?_
 obtain ⟨hs,hb⟩:=st0 w0
 refine eg (nw3 (Ac aB aA aC aE aF aG aH) 103 hs hb xb fun p1 w1 H1 hs hb=>q (ln (zB (vJ (fun ρ wJ=>∃HJ:NP,Hst w0 None w0 HJ wJ∧HB HJ wJ [(p1,(Ac aB aA aC aE aF aG aH),103)]∧Has ρ [(1,(vp (some p1))),(3,(vb ((aB == 8) || (aB == 9))))]) ?_ ?_))))
 refine rg (q (q3 (xl (isAgg3 _) (hb.d0 0 gZ)) (qb (zK 4 (fun ρ wJ=>∃b3'0:Bool,∃HJ:NP,((aB == 8)=b3'0)∧Hst w0 None w0 HJ wJ∧HB HJ wJ [(p1,(Ac aB aA aC aE aF aG aH),103)]∧Has ρ [(1,(vp (some p1))),(11,(vb (b3'0 || (aB == 9))))]) ?_ ?_))))
 rintro ρ w4 ⟨b3'0,H4,he0,hs,hb,hH⟩
 subst he0
 refine zP hH (q (ln ⟨_,hs,hb,hm⟩))
 rcases bte (aB == 8) with hg4 | hg4
 refine sj3 7 hg4 (q2 (vb true) (xT hg4) (zC ⟨true,_,hg4,hs,hb,hm⟩))
 refine qk 7 hg4 (q4 7 hg4 (xl (isAgg3 _) (hb.d0 0 gZ)) (qk 7 hg4 (q2 (vb (aB == 9)) (xF hg4) (zC ⟨false,_,hg4,hs,hb,hm⟩))))
 rintro ρ w3 ⟨H3,hs,hb,hH⟩
 refine zW hH (zN (zB (zB (vJ (fun ρ wJ=>∃b8'0:Bool,∃HJ:NP,(((((decide (aA<0)) || (decide (aA≥16))) || (decide (aC<0))) || (decide (aC≥16)))=b8'0)∧Hst w0 None w0 HJ wJ∧HB HJ wJ [(p1,(Ac aB aA aC aE aF aG aH),103)]∧Has ρ [(39,(vb (b8'0 || (((aB == 8) || (aB == 9)) && (aA == aC)))))]) ?_ ?_))))
 refine rg (q (q3 (xl (isAgg3 _) (hb.d 0 1 gZ)) (qb (zK 4 (fun ρ wJ=>∃b9'0:Bool,∃HJ:NP,((decide (aA<0))=b9'0)∧Hst w0 None w0 HJ wJ∧HB HJ wJ [(p1,(Ac aB aA aC aE aF aG aH),103)]∧Has ρ [(1,(vp (some p1))),(3,(vb ((aB == 8) || (aB == 9)))),(19,(vb (b9'0 || (decide (aA≥16)))))]) ?_ ?_))))
 rintro ρ w10 ⟨b9'0,H10,he0,hs,hb,hH⟩
 subst he0
 refine zP hH (q (zK 4 (fun ρ wJ=>∃b10'0:Bool,∃HJ:NP,(((decide (aA<0)) || (decide (aA≥16)))=b10'0)∧Hst w0 None w0 HJ wJ∧HB HJ wJ [(p1,(Ac aB aA aC aE aF aG aH),103)]∧Has ρ [(1,(vp (some p1))),(3,(vb ((aB == 8) || (aB == 9)))),(24,(vb (b10'0 || (decide (aC<0)))))]) ?_ ?_))
 rintro ρ w11 ⟨b10'0,H11,he0,hs,hb,hH⟩
 subst he0
 refine zP hH (q (zK 4 (fun ρ wJ=>∃b11'0:Bool,∃HJ:NP,((((decide (aA<0)) || (decide (aA≥16))) || (decide (aC<0)))=b11'0)∧Hst w0 None w0 HJ wJ∧HB HJ wJ [(p1,(Ac aB aA aC aE aF aG aH),103)]∧Has ρ [(1,(vp (some p1))),(3,(vb ((aB == 8) || (aB == 9)))),(29,(vb (b11'0 || (decide (aC≥16)))))]) ?_ ?_))
 rintro ρ w12 ⟨b11'0,H12,he0,hs,hb,hH⟩
 subst he0
 refine zP hH (q ?_)
 rcases bte ((((decide (aA<0)) || (decide (aA≥16))) || (decide (aC<0))) || (decide (aC≥16))) with hg20 | hg20
 refine sj2 30 hg20 (sm (sm (sm (sm (sm (sj 30 hg20 (q2 (vb true) (xT hg20) (ln ⟨true,_,hg20,hs,hb,hm⟩))))))))
 refine qk 30 hg20 (qk 30 hg20 (zK 6 (fun ρ wJ=>∃b12'0:Bool,∃HJ:NP,(((aB == 8) || (aB == 9))=b12'0)∧Hst w0 None w0 HJ wJ∧HB HJ wJ [(p1,(Ac aB aA aC aE aF aG aH),103)]∧Has ρ [(30,(vb ((((decide (aA<0)) || (decide (aA≥16))) || (decide (aC<0))) || (decide (aC≥16))))),(38,(vb (b12'0 && (aA == aC))))]) ?_ ?_))
 rintro ρ w13 ⟨b12'0,H13,he0,hs,hb,hH⟩
 subst he0
 refine zP hH (q2 (vb (((aB == 8) || (aB == 9)) && (aA == aC))) (xF hg20) (ln ⟨false,_,hg20,hs,hb,hm⟩))
 rcases bte ((aB == 8) || (aB == 9)) with hg22 | hg22
 refine qk 32 hg22 (q4 32 hg22 (xl (isAgg3 _) (hb.d 0 1 gZ)) (qk 32 hg22 (q4 32 hg22 (xl (isAgg3 _) (hb.d 0 2 gZ)) (qk 32 hg22 (stq (v:=(vb (aA == aC))) (wy 30 hg20) (xT hg22) (zC ⟨true,_,hg22,hs,hb,hm⟩))))))
 refine sj5 32 hg22 (stq (v:=(vb false)) (wy 30 hg20) (xF hg22) (zC ⟨false,_,hg22,hs,hb,hm⟩))
 rcases bte (((decide (aA<0)) || (decide (aA≥16))) || (decide (aC<0))) with hg19 | hg19
 refine sj3 25 hg19 (q2 (vb true) (xT hg19) (zC ⟨true,_,hg19,hs,hb,hm⟩))
 refine qk 25 hg19 (q4 25 hg19 (xl (isAgg3 _) (hb.d 0 2 gZ)) (qk 25 hg19 (q2 (vb (decide (aC≥16))) (xF hg19) (zC ⟨false,_,hg19,hs,hb,hm⟩))))
 rcases bte ((decide (aA<0)) || (decide (aA≥16))) with hg17 | hg17
 refine sj3 20 hg17 (q2 (vb true) (xT hg17) (zC ⟨true,_,hg17,hs,hb,hm⟩))
 refine qk 20 hg17 (q4 20 hg17 (xl (isAgg3 _) (hb.d 0 2 gZ)) (qk 20 hg17 (q2 (vb (decide (aC<0))) (xF hg17) (zC ⟨false,_,hg17,hs,hb,hm⟩))))
 rcases bte (decide (aA<0)) with hg15 | hg15
 refine sj3 15 hg15 (q2 (vb true) (xT hg15) (zC ⟨true,_,hg15,hs,hb,hm⟩))
 refine qk 15 hg15 (q4 15 hg15 (xl (isAgg3 _) (hb.d 0 1 gZ)) (qk 15 hg15 (q2 (vb (decide (aA≥16))) (xF hg15) (zC ⟨false,_,hg15,hs,hb,hm⟩))))
 rintro ρ w9 ⟨b8'0,H9,he0,hs,hb,hH⟩
 subst he0
 refine zW hH (zN (vI (t:=(((((decide (aA<0)) || (decide (aA≥16))) || (decide (aC<0))) || (decide (aC≥16))) || (((aB == 8) || (aB == 9)) && (aA == aC)))) (by kernel_rfl) (fun hc1=>?_) (fun hc1=>?_)))
 refine eg (q (ln (er (vA (rs1 results215 (v:=(vi 50)) ⟨true,hc1,by kernel_rfl,(Ext.refl (F:=None) _).hst hs⟩)))))
 refine zD (zN (eg (q (ln (er (rs1 results215 (v:=(vi 0)) ⟨false,hc1,by kernel_rfl,(Ext.refl (F:=None) _).hst hs⟩))))))
theorem p_U (aB aA:Int) (aC aE:Int) (aF:ByteArray) (aG aH:Int) (w0:World):Calls prog 215 #[(.agg #[(.int .i64 aB),(.int .i64 aA),(.int .i64 aC),(.int .u64 aE),(.string aF),(.int .i64 aG),(.int .i64 aH)])] w0 (fun e w'=>e=.returned (.int .i64 (s_U aB aA aC aE aF aG aH))∧Pure w0 w'):=by
 refine (pw_U aB aA aC aE aF aG aH w0).mono ?_;rintro e w' ⟨b'0,e0,h,E⟩;subst e0;exact ⟨h,E⟩
def m_H_j4 (aK:Option Addr) (p1:Addr) (H:NP) (w:World) (K:Int→WP):Prop :=∃dB dC dD dE dF dG dH,Row w p1 (Ac dB dC dD dE dF dG dH)∧Calls prog 216 #[(vp aK),(.agg #[(vi dB),(vi dC),(vi dD),(vu dE),(vs dF),(vi dG),(vi dH)])] w (fun e w14=>∃r8 r9,e=.returned (.tuple #[(vi r8),(vb r9)])∧Kept H w w14∧Br r9 (K 72 w14) (∃dI dJ dK dL dM dN dO,Row w14 p1 (Ac dI dJ dK dL dM dN dO)∧Calls prog 97 #[(vp aK),(.agg #[(vi dI),(vi dJ),(vi dK),(vu dL),(vs dM),(vi dN),(vi dO)])] w14 (fun e w15=>∃r10 r11,e=.returned (.tuple #[(vi r10),(vi r11)])∧Kept H w14 w15∧K r11 w15)))
def m_H_j3 (aK:Option Addr) (p1:Addr) (H:NP) (w:World) (K:Int→WP):Prop :=∃v7,w.cell? (p1.add 11)=some (vi v7)∧Br (decide (v7>1)) (∃v8,w.cell? (p1.add 10)=some (vu v8)∧zT w (p1.add 6)∧¬ H (p1.add 6).block∧∀w16,w16=w.setCell (p1.add 6) (vi (q6.wrap (IntKind.u64.wrap (v8+1))))→m_H_j4 aK p1 H w16 K) (m_H_j4 aK p1 H w K)
def m_H_j2 (aK:Option Addr) (p1:Addr) (x2:Bool) (H:NP) (w:World) (K:Int→WP):Prop :=Br x2 (K 71 w) (∃v6,w.cell? (p1.add 11)=some (vi v6)∧Br (decide (v6>0)) (∃v9,w.cell? (p1.add 9)=some (vu v9)∧zT w (p1.add 5)∧¬ H (p1.add 5).block∧∀w17,w17=w.setCell (p1.add 5) (vi (q6.wrap (IntKind.u64.wrap (v9+1))))→m_H_j3 aK p1 H w17 K) (m_H_j3 aK p1 H w K))
def m_H_j5 (aK:Option Addr) (p1:Addr) (r7:Int) (x3:Bool) (H:NP) (w:World) (K:Int→WP):Prop :=Br x3 (m_H_j2 aK p1 true H w K) (∃v11,w.cell? (p1.add 11)=some (vi v11)∧Br (decide (v11>1)) (∃v12,w.cell? (p1.add 10)=some (vu v12)∧m_H_j2 aK p1 (decide (v12≥(IntKind.u64.wrap r7))) H w K) (m_H_j2 aK p1 false H w K))
def m_H_l1 (aK:Option Addr) (r1:Option Addr) (p1:Addr) (v2:Sl) (x1:Int) (w0:World) (Hl1:NP) (wl1:World) (Kc1:Int→NP→WP) (K:Int→WP):Prop :=Br (decide (x1<(v2.len:Int))) (∃a1:Addr,At v2 x1 2 a1∧∃vput1:Value,∃vget1:Value,Row wl1 a1 [vput1,vget1]∧∀p2 w3,New wl1 (.cells #[(.nilFunc:Value),(.nilFunc:Value)] 213) p2 w3→([vput1,vget1].all vY=true∧∀j,j<2→zT w3 (p2.add j))∧¬ Hl1 p2.block∧∀w4,w4=storeRow w3 p2 [vput1,vget1]→∃v3:Value,w4.cell? (p2.add 1)=some v3∧∃(f1:FuncId) (fs1 cs1:Array Value),v3=.func (.func f1) fs1 cs1∧(∀args w,(callFunc f1 args).run prog w=.ok (.enter f1 args) w)∧Calls prog f1 (fs1++#[(vp r1),(vp (some p1))]++cs1) w4 (fun e w5=>e=.returned (.tuple #[])∧Kept Hl1 w4 w5∧Kc1 (q6.wrap (x1+1)) Hl1 w5)) (Calls prog 213 #[(vp r1)] wl1 (fun e w6=>∃r3 r4,e=.returned (.tuple #[(vi r3),(vi r4)])∧Kept Hl1 wl1 w6∧Br (r3 != 0) (K r3 w6) (∃C1:WP,C1 w6.drew∧∀w7,w7=w6.drew→∃v4,w7.cell? (p1.add 7)=some (vu v4)∧∃v5,(∀w',C1 w'→w'.cell? (p1.add 8)=some (vu v5))∧Calls prog 214 #[(vu v4)] w7 (fun e w8=>∃r5,e=.returned (vi r5)∧C1 w8∧Kept Hl1 w7 w8∧Calls prog 214 #[(vu v5)] w8 (fun e w9=>∃r6,e=.returned (vi r6)∧C1 w9∧Kept Hl1 w8 w9∧zT w9 (p1.add 1)∧¬ Hl1 (p1.add 1).block∧∀w10,w10=w9.setCell (p1.add 1) (vi r5)→C1 w10∧zT w10 (p1.add 2)∧¬ Hl1 (p1.add 2).block∧∀w11,w11=w10.setCell (p1.add 2) (vi r6)→∃aD bC aV aU aN aM aL,Row w11 p1 (Ac aD bC aV aU aN aM aL)∧Br (((s_U aD bC aV aU aN aM aL):Int) != 0) (∀w12,Hst w0 Hl1 w11 Hl1 w12→K (s_U aD bC aV aU aN aM aL) w12) (∀w12,Hst w0 Hl1 w11 Hl1 w12→Calls prog 22 #[(vp aK)] w12 (fun e w13=>∃r7,e=.returned (vi r7)∧Kept Hl1 w12 w13∧∃v10,w13.cell? (p1.add 11)=some (vi v10)∧Br (decide (v10>0)) (∃v13,w13.cell? (p1.add 9)=some (vu v13)∧m_H_j5 aK p1 r7 (decide (v13≥(IntKind.u64.wrap r7))) Hl1 w13 K) (m_H_j5 aK p1 r7 false Hl1 w13 K))))))))
def m_H (aK:Option Addr) (r1:Option Addr) (kinds1:Option Nat) (w0:World) (K:Int→WP):Prop :=Calls prog 212 #[(vp r1)] w0 (fun e w1=>∃r2:Int,e=.returned (.int .u8 r2)∧Kept None w0 w1∧∀p1 w2,New w1 (.cells #[(vi (q6.wrap r2)),(vi 0),(vi 0),(vu 0),ve,(vi 0),(vi 0),(vu 0),(vu 0),(vu 0),(vu 0),(vi 0)] 253) p1 w2→∃v1,w2.cell? p1=some (vi v1)∧∃v2:Sl,∃ok1,(Instr.lookup 203 (.map kinds1) (vi v1) true).run prog w2=.ok (.tuple #[v2.v,(vb ok1)]) w2∧Br (!ok1) (K 70 w2) (∃(I1:Int→NP→WP) (mu1:Int→World→Nat),I1 0 None w2∧∀(x1:Int) (Hl1:NP) (wl1:World),Hst w0 Hl1 wl1 Hl1 wl1→I1 x1 Hl1 wl1→m_H_l1 aK r1 p1 v2 x1 w0 Hl1 wl1 (fun y'0 H' w'=>I1 y'0 H' w'∧mu1 y'0 w'<mu1 x1 wl1) K))
theorem w_H (aK r1 kinds1 w0 K) (h:m_H aK r1 kinds1 w0 K):
  Calls prog 166 #[(vp aK),(vp r1),(.map kinds1)] w0 (fun e w'=>∃r12,e=.returned (vi r12)∧K r12 w'):=by
 refine cw (args:=[(vp aK),(vp r1),(.map kinds1)]) func166 ntmps166 ?_
 obtain ⟨hs,hb⟩:=st0 w0
 refine eg (q (ln (eg (q (sc call212 (h.mono fun e w1 ⟨r2,k,hk,h⟩=>have ⟨hs,hb⟩:=hk.hh hs hb;⟨_,k,?_⟩))))))
 refine qc (nw2 hs hb h xb fun p1 w2 hs hb h=>q (ln (eg (q (qd (ql (isAgg3 _) h fun v1 h=>?_))))))
 obtain ⟨v2,ok1,hv17,h⟩:=h
 refine q2 (.tuple #[v2.v,(vb ok1)]) (yU (by kernel_rfl) (by kernel_rfl) hv17) (q (qd (ln (zB (eg (q (q (ln (cbr h ?_ ?_)))))))))<;>intro h
 refine eg (q (ln (er (vA (rs1 results166 ⟨70,rfl,h⟩)))))
 refine zD (zN (zB (eg (qc (ln (zL ?_))))))
 obtain ⟨I1,mu1,h0,hr⟩:=h
 refine vU (σ:=Int×NP×World) (fun s ρ w=>w=s.2.2∧Has ρ [(0,(vp aK)),(1,(vp r1)),(7,(vp (some p1))),(38,v2.v),(39,(vi (v2.len:Int))),(40,(vi s.1))]∧Hst w0 s.2.1 w s.2.1 w∧HB s.2.1 w []∧I1 s.1 s.2.1 s.2.2) (fun s=>mu1 s.1 s.2.2) (0,None,w2) ⟨rfl,hm,hs,hb,h0⟩ ?_
 rintro ⟨x1,Hl1,wl1⟩ ρ w ⟨hw,hH,hs,hb,hI⟩
 dsimp only at hw hH hs hb;subst w
 have h:=hr x1 Hl1 wl1 hs hI
 refine zQ hH (eg (q (ln (zB (cbr h ?_ ?_)))))<;>intro h
 refine zD (zN (zB (zL (eg (qi (runUnderlying209 _) (sizeOf213 _) h fun a1 h=>?_)))))
 obtain ⟨vput1,vget1,hv2,h⟩:=h
 refine qa (isAgg213 _) (sizeOf213 _) hv2 (nw2 hs hb h (zI (zeroValue213 _) rfl) fun p2 w3 hs hb h=>?_)
 obtain ⟨hp1,hnh,h⟩:=h
 refine ss (tX (a:=p2) (vs:=[vput1,vget1]) (by kernel_rfl) (by kernel_rfl) hp1.1 (sizeOf213 _) rfl hp1.2) ?_
 intro w4 hn1
 have h:=h w4 hn1
 have hk:Kept Hl1 w3 w4:=by rw [hn1];exact Kept.storeRow hnh
 obtain ⟨hs,hb⟩:=hk.hh hs hb
 refine ln (rg (q (ql (isAgg211 _) h fun v3 h=>qb ?_)))
 obtain ⟨f1,fs1,cs1,hp2,h⟩:=h
 obtain ⟨hf1,h⟩:=h
 refine qG (zJ rfl) (jDA (fs:=fs1) (caps:=cs1) (args:=#[(vp r1),(vp (some p1))]) (by kernel_rfl) hp2 hf1 (by kernel_rfl) rfl) (h.mono ?_)
 rintro e w5 ⟨rfl,hk,h⟩
 refine ⟨_,rfl,?_⟩
 obtain ⟨hs,hb⟩:=hk.hh hs hb
 refine zC (xE (zN (rg (qb (ln ⟨((q6.wrap (x1+1)),Hl1,w5),⟨rfl,hm,hs,hb,h.1⟩,h.2⟩)))))
 refine vQ (xG (xG (xA (zN (zB (eg (q0 (vp r1) (sc call213 (h.mono fun e w6 ⟨r3,r4,k,hk,h⟩=>have ⟨hs,hb⟩:=hk.hh hs hb;⟨_,k,?_⟩)))))))))
 refine q (qd (ln (eg (qb (zC (zN (cbr h ?_ ?_)))))))<;>intro h
 refine eg (qb (ln (er (vA (rs1 results166 ⟨r3,rfl,h⟩)))))
 refine zD (zN (zB ?_))
 obtain ⟨C1,hC,h⟩:=h
 refine dr2 C1 [6,11,15,19] [19] hC h hs hb fun w7 hs hb h=>?_
 have hs:=hs.here
 refine qx 0 (vp (some p1)) Kp0 (qx 1 (vp (some p1)) Kp1 (qx 2 (vp (some p1)) Kp2 (qx 3 (vp (some p1)) Kp3 (qx 4 (vp (some (p1.add 7))) Kp4 (qg 5 ?_)))))
 obtain ⟨v4,hv16,h⟩:=h
 refine sye Kp5 (xl (isAgg26 _) hv16) (qx 7 (vp (some p1)) Kp7 (qx 8 (vp (some p1)) Kp8 (qx 9 (vp (some (p1.add 8))) Kp9 (qg 10 ?_))))
 obtain ⟨v5,hv15,h⟩:=h
 refine sy (zG (S8 (zA (zA zF)))) (fun _ k=>xl (isAgg26 _) (hv15 _ k)) (lg 6 (slc Kp6 call214 (h.mono ?_)))
 rintro e w8 ⟨r5,rfl,hC,hk,h⟩
 refine ⟨_,rfl,.inr hC,?_⟩
 obtain ⟨hs,hb⟩:=hk.hh hs hb
 refine lg 11 (slc (zG (S8 (zA (zA (zA zF))))) call214 (h.mono ?_))
 rintro e w9 ⟨r6,rfl,hC,hk,h⟩
 refine ⟨_,rfl,.inr hC,?_⟩
 obtain ⟨hs,hb⟩:=hk.hh hs hb
 refine qx 12 (vp (some p1)) (zG (S8 (S4 zF))) (qx 13 (vp (some p1)) (zG (S8 (S4 (zA zF)))) (qx 14 (vp (some (p1.add 1))) (zG (S8 (S4 (zA (zA zF))))) (lg 15 ?_)))
 obtain ⟨hp3,hnh,h⟩:=h
 refine jQE (zG (S8 (S4 (zA (zA (zA zF)))))) (xs (v:=(vi r5)) (sizeOf3 _) hp3) ?_
 intro w10 hn3
 have h:=h w10 hn3
 refine ⟨.inr h.1,?_⟩
 have h:=h.2
 have hk:=Kept.sc hnh hn3
 obtain ⟨hs,hb⟩:=hk.hh hs hb
 refine qx 16 (vp (some p1)) (zG (S8 (S8 zF))) (qx 17 (vp (some p1)) (zG (S8 (S8 (zA zF)))) (qx 18 (vp (some (p1.add 2))) (zG (S8 (S8 (zA (zA zF))))) (lg 19 ?_)))
 obtain ⟨hp4,hnh,h⟩:=h
 refine jQE (zG (S8 (S8 (zA (zA (zA zF)))))) (xs (v:=(vi r6)) (sizeOf3 _) hp4) ?_
 intro w11 hn4
 have h:=h w11 hn4
 refine ⟨.inl (by kernel_rfl),?_⟩
 have hk:=Kept.sc hnh hn4
 obtain ⟨hs,hb⟩:=hk.hh hs hb
 refine wn (zN (zB (eg (qc ?_))))
 obtain ⟨aD,bC,aV,aU,aN,aM,aL,hv14,h⟩:=h
 refine qa (isAgg103 _) (sizeOf103 _) hv14 (sc call215 ((p_U aD bC aV aU aN aM aL w11).mono ?_))
 rintro e w12 ⟨he,hE⟩
 refine ⟨_,he,?_⟩
 obtain ⟨hs,hb⟩:=hs.pp hb hE
 refine q (ln (eg (qb (ln (cbr h ?_ ?_)))))<;>intro h
 refine eg (qb (ln (er (vA ?_))))
 have ⟨h,hs⟩:=hs.hr (h w12)
 refine rs1 results166 ⟨(s_U aD bC aV aU aN aM aL),rfl,h⟩
 refine zD (zN (eg (q ?_)))
 have ⟨h,hs⟩:=hs.hr (h w12)
 refine sc call22 (h.mono fun e w13 ⟨r7,k,hk,h⟩=>have ⟨hs,hb⟩:=hk.hh hs hb;⟨_,k,?_⟩)
 refine qb (ln (zB (zB (zY (fun ρ w=>∃x2,∃H:NP,Has ρ [(0,(vp aK)),(7,(vp (some p1))),(114,(vb x2))]∧Hst w0 H w H w∧HB H w []∧m_H_j2 aK p1 x2 H w K) ?_ ?_))))
 rintro ρ w ⟨x2,H,hH,hs,hb,h⟩
 refine zQ hH (cbr h ?_ ?_)<;>intro h
 refine eg (q (ln (er (vA (rs1 results166 ⟨71,rfl,h⟩)))))
 refine zD (zN (zB (eg (qc (ql (isAgg3 _) h fun v6 h=>q (ln (zY (fun ρ w=>∃H:NP,Has ρ [(0,(vp aK)),(7,(vp (some p1)))]∧Hst w0 H w H w∧HB H w []∧m_H_j3 aK p1 H w K) ?_ ?_)))))))
 rintro ρ w ⟨H,hH,hs,hb,h⟩
 refine zQ hH (zB (eg (qc (ql (isAgg3 _) h fun v7 h=>q (ln (zY (fun ρ w=>∃H:NP,Has ρ [(0,(vp aK)),(7,(vp (some p1)))]∧Hst w0 H w H w∧HB H w []∧m_H_j4 aK p1 H w K) ?_ ?_))))))
 rintro ρ w ⟨H,hH,hs,hb,h⟩
 refine zQ hH (zB (eg (qd ?_)))
 obtain ⟨dB,dC,dD,dE,dF,dG,dH,hv5,h⟩:=h
 refine qa (isAgg103 _) (sizeOf103 _) hv5 (sc call216 (h.mono fun e w14 ⟨r8,r9,k,hk,h⟩=>have ⟨hs,hb⟩:=hk.hh hs hb;⟨_,k,?_⟩))
 refine q (qd (ln (eg (q (ln (cbr h ?_ ?_))))))<;>intro h
 refine eg (q (ln (er (vA (rs1 results166 ⟨72,rfl,h⟩)))))
 refine zD (zN (eg (qd ?_)))
 obtain ⟨dI,dJ,dK,dL,dM,dN,dO,hv4,h⟩:=h
 refine qa (isAgg103 _) (sizeOf103 _) hv4 (sc call97 (h.mono fun e w15 ⟨r10,r11,k,hk,h⟩=>have ⟨hs,hb⟩:=hk.hh hs hb;⟨_,k,?_⟩))
 refine q (qd (ln (eg (qb (zC (zN (er (rs1 results166 ⟨r11,rfl,h⟩))))))))
 refine cbr h ?_ ?_<;>intro h
 refine rg (qd (ql (isAgg26 _) h fun v8 h=>q (qd (st2 (sizeOf23 _) hs hb h fun w16 hs hb h=>ln ⟨H,hm,hs,hb,h⟩))))
 refine zD (zN ⟨H,hm,hs,hb,h⟩)
 refine cbr h ?_ ?_<;>intro h
 refine rg (qd (ql (isAgg26 _) h fun v9 h=>q (qd (st2 (sizeOf23 _) hs hb h fun w17 hs hb h=>ln ⟨H,hm,hs,hb,h⟩))))
 refine zD (zN ⟨H,hm,hs,hb,h⟩)
 refine rg (qc (ql (isAgg3 _) h fun v10 h=>qb (zK 7 (fun ρ w=>∃x3,∃H:NP,Has ρ [(0,(vp aK)),(7,(vp (some p1))),(15,(vu (IntKind.u64.wrap r7))),(99,(vb x3))]∧Hst w0 H w H w∧HB H w []∧m_H_j5 aK p1 r7 x3 H w K) ?_ ?_)))
 rintro ρ w ⟨x3,H,hH,hs,hb,h⟩
 refine zP hH (q ?_)
 obtain ⟨hg1,h⟩|⟨hg1,h⟩:=h.br
 refine sj 100 hg1 (sj5 100 hg1 (sm (sm (sm (sm (sm (sm (sj 100 hg1 (q2 (vb true) (xT hg1) (ln ⟨true,H,hm,hs,hb,h⟩))))))))))
 refine qk 100 hg1 (qk 100 hg1 (qk 100 hg1 ?_))
 obtain ⟨v11,hv11,h⟩:=h
 refine q4 100 hg1 (xl (isAgg3 _) hv11) (qk 100 hg1 (qk 100 hg1 ?_))
 obtain ⟨hg2,h⟩|⟨hg2,h⟩:=h.br
 refine qk 106 hg2 (qk 106 hg2 (qk 106 hg2 ?_))
 obtain ⟨v12,hv10,h⟩:=h
 refine q4 106 hg2 (xl (isAgg26 _) hv10) (qk 106 hg2 (qk 106 hg2 (stq (v:=(vb (decide (v12≥(IntKind.u64.wrap r7))))) (wy 100 hg1) (xT hg2) (q2 (vb (decide (v12≥(IntKind.u64.wrap r7)))) (xF hg1) (ln ⟨(decide (v12≥(IntKind.u64.wrap r7))),H,hm,hs,hb,h⟩)))))
 refine sj 106 hg2 (sj5 106 hg2 (stq (v:=(vb false)) (wy 100 hg1) (xF hg2) (q2 (vb false) (xF hg1) (ln ⟨false,H,hm,hs,hb,h⟩))))
 obtain ⟨hg3,h⟩|⟨hg3,h⟩:=h.br
 refine qk 92 hg3 (qk 92 hg3 (qk 92 hg3 ?_))
 obtain ⟨v13,hv12,h⟩:=h
 refine q4 92 hg3 (xl (isAgg26 _) hv12) (qk 92 hg3 (qk 92 hg3 (q2 (vb (decide (v13≥(IntKind.u64.wrap r7)))) (xT hg3) (zC ⟨(decide (v13≥(IntKind.u64.wrap r7))),Hl1,hm,hs,hb,h⟩))))
 refine sj 92 hg3 (sj5 92 hg3 (q2 (vb false) (xF hg3) (zC ⟨false,Hl1,hm,hs,hb,h⟩)))
def m_T1_l1 (r1:Option Addr) (r2:Option Addr) (r3:Option Nat) (places1:Sl) (w0:World) (Hl1:NP) (wl1:World) (Kc1:Sl→NP→WP) (K:(Option Addr)→Int→Int→WP):Prop :=Calls prog 164 #[(vp r2)] wl1 (fun e w4=>∃r4,e=.returned (vi r4)∧Kept Hl1 wl1 w4∧Br (decide (r4>0)) (Calls prog 165 #[(vp r2)] w4 (fun e w5=>∃r5,e=.returned (vi r5)∧Kept Hl1 w4 w5∧Calls prog 166 #[(vp r1),(vp r2),(.map r3)] w5 (fun e w6=>∃r6,e=.returned (vi r6)∧Kept Hl1 w5 w6∧Br (r6 != 0) (K none r6 r5 w6) (∀p1 w7,New w6 (.cells #[(vi r5)] 3) p1 w7→∃s1:Sl,∃w8:World,(Builtin.append_ #[50,50] 50 #[places1.v,(Sl.mk (some p1) 1 1).v]).run prog w7=.ok s1.v w8∧Kept Hl1 w7 w8∧Kc1 s1 Hl1 w8)))) (∀p2 w9,New w4 (.cells #[(vi 0)] 3) p2 w9→zT w9 p2∧¬ Hl1 p2.block∧∀w10,w10=w9.setCell p2 (vi 0)→Calls prog 22 #[(vp r1)] w10 (fun e w11=>∃r7,e=.returned (vi r7)∧Kept Hl1 w10 w11∧Calls prog 139 #[(vp r1),(vi r7)] w11 (fun e w12=>∃r8:Value,e=.returned r8∧Kept Hl1 w11 w12∧∃(f1:FuncId) (cs1:Array Value),r8=.func (.func f1) #[] cs1∧(∀args w,(callFunc f1 args).run prog w=.ok (.enter f1 args) w)∧∃(xs1:List (Int)) (Rd1:WP),jQD prog f1 cs1 (fun (z2:Int)=>#[(vi z2)]) xs1 Rd1 w12∧∃(I2 Ix1:List (Int)→NP→WP),RngI w0 Rd1 I2 Ix1 (fun _ _ _=>False)∧I2 [] Hl1 w12∧(∀(pre1:List (Int)) (z2:Int) (Y1:NP) (A1:World),I2 pre1 Y1 A1→Hst w0 Y1 A1 Y1 A1→(∃post,xs1=pre1++z2 :: post)→∃v1,A1.cell? p2=some (vi v1)∧Br (z2 != (q6.wrap (v1+1))) (Kept Y1 A1 A1∧Ix1 (pre1++[z2]) Y1 A1) (∃v2,A1.cell? p2=some (vi v2)∧zT A1 p2∧¬ None p2.block∧∀w14,w14=A1.setCell p2 (vi (q6.wrap (v2+1)))→Kept Y1 A1 w14∧I2 (pre1++[z2]) Y1 w14))∧∀H1 w15,Hst w0 H1 w15 H1 w15→(∀b,Hl1 b→H1 b)→Kept Hl1 w12 w15→(I2 xs1 H1 w15∨∃pre,Ix1 pre H1 w15)→∃v3,w15.cell? p2=some (vi v3)∧Br (decide (v3<(places1.len:Int))) (∀w16,Hst w0 H1 w15 H1 w16→∃v4,w16.cell? p2=some (vi v4)∧∃a1:Addr,At places1 v4 1 a1∧∃v5,w16.cell? a1=some (vi v5)∧∀w17,Hst w0 H1 w16 H1 w17→K none 73 v5 w17) (∀w18,Hst w0 H1 w15 H1 w18→K r1 0 0 w18)))))
def m_T1 (b1:Sl) (w0:World) (K:(Option Addr)→Int→Int→WP):Prop :=Br (decide ((b1.len:Int)>4096)) (K none 1 0 w0) (Br (((b1.len:Int):Int) == 0) (K none 3 0 w0) (Calls prog 11 #[] w0 (fun e w1=>∃r1,e=.returned (vp r1)∧Kept None w0 w1∧Calls prog 163 #[b1.v] w1 (fun e w2=>∃r2,e=.returned (vp r2)∧Kept None w1 w2∧Calls prog 138 #[] w2 (fun e w3=>∃r3:Option Nat,e=.returned (.map r3)∧Kept None w2 w3∧∃(I1:Sl→NP→WP) (mu1:Sl→World→Nat),I1 Sl.nil None w3∧∀(places1:Sl) (Hl1:NP) (wl1:World),Hst w0 Hl1 wl1 Hl1 wl1→I1 places1 Hl1 wl1→m_T1_l1 r1 r2 r3 places1 w0 Hl1 wl1 (fun y'0 H' w'=>I1 y'0 H' w'∧mu1 y'0 w'<mu1 places1 wl1) K)))))
theorem w_T1 (b1 w0 K) (h:m_T1 b1 w0 K):
  Calls prog 121 #[b1.v] w0 (fun e w'=>∃r9 r10 r11,e=.returned (.tuple #[(vp r9),(vi r10),(vi r11)])∧K r9 r10 r11 w'):=by
 refine cw (args:=[b1.v]) func121 ntmps121 ?_
 obtain ⟨hs,hb⟩:=st0 w0
 refine eg (qc (ln (jGZ rfl (fun _ _ _ h=>h) (zB (zL (eg (qd (ln (cbr h ?_ ?_)))))))))<;>intro h
 refine eg (qc (ln (er (yC (vA (jMH (.inl rfl) results121 (v:=(vp none)) (by kernel_rfl) (v':=(vi 1)) (by kernel_rfl) (v'':=(vi 0)) (by kernel_rfl) ⟨none,1,0,rfl,h⟩))))))
 refine eg (qd (ln (cbr h ?_ ?_)))<;>intro h
 refine eg (qc (ln (er (yC (vA (jMH (.inl rfl) results121 (v:=(vp none)) (by kernel_rfl) (v':=(vi 3)) (by kernel_rfl) (v'':=(vi 0)) (by kernel_rfl) ⟨none,3,0,rfl,h⟩))))))
 refine zD (xE (zN (eg (sc call11 (h.mono fun e w1 ⟨r1,k,hk,h⟩=>have ⟨hs,hb⟩:=hk.hh hs hb;⟨_,k,?_⟩)))))
 refine q (ln (eg (q (sc call163 (h.mono fun e w2 ⟨r2,k,hk,h⟩=>have ⟨hs,hb⟩:=hk.hh hs hb;⟨_,k,?_⟩)))))
 refine q (ln (eg (sc call138 (h.mono fun e w3 ⟨r3,k,hk,h⟩=>have ⟨hs,hb⟩:=hk.hh hs hb;⟨_,k,?_⟩))))
 refine q (ln (eg (q (ln (zB (zL ?_))))))
 obtain ⟨I1,mu1,h0,hr⟩:=h
 refine vU (σ:=Sl×NP×World) (fun s ρ w=>w=s.2.2∧Has ρ [(5,(vp r1)),(6,(vp r2)),(7,(.map r3)),(8,s.1.v)]∧Hst w0 s.2.1 w s.2.1 w∧HB s.2.1 w []∧I1 s.1 s.2.1 s.2.2) (fun s=>mu1 s.1 s.2.2) (Sl.nil,None,w3) ⟨rfl,hm,hs,hb,h0⟩ ?_
 rintro ⟨places1,Hl1,wl1⟩ ρ w ⟨hw,hH,hs,hb,hI⟩
 dsimp only at hw hH hs hb;subst w
 have h:=hr places1 Hl1 wl1 hs hI
 refine zQ hH (zB (eg (q (sc call164 (h.mono fun e w4 ⟨r4,k,hk,h⟩=>have ⟨hs,hb⟩:=hk.hh hs hb;⟨_,k,?_⟩)))))
 refine q (ln (cbr h ?_ ?_))<;>intro h
 refine zD (zN (zL (eg (q (sc call165 (h.mono fun e w5 ⟨r5,k,hk,h⟩=>have ⟨hs,hb⟩:=hk.hh hs hb;⟨_,k,?_⟩))))))
 refine q (ln (zB (eg (qc (sc call166 (h.mono fun e w6 ⟨r6,k,hk,h⟩=>have ⟨hs,hb⟩:=hk.hh hs hb;⟨_,k,?_⟩))))))
 refine q (ln (eg (qb (ln (cbr h ?_ ?_)))))<;>intro h
 refine eg (q (qd (ln (er (vA (yC (vA (yC (vA (jMH (.inl rfl) results121 (v:=(vp none)) (by kernel_rfl) (v':=(vi r6)) (by kernel_rfl) (v'':=(vi r5)) (by kernel_rfl) ⟨none,r6,r5,rfl,h⟩))))))))))
 refine zD (zN (rg (qb (nw5 (fun p=>(Sl.mk (some p) 1 1).v) hs hb h fun p1 w7 hs hb h=>?_))))
 obtain ⟨s1,w8,hv1,hk,h⟩:=h
 refine st (v:=s1.v) (zJ rfl) (vC (args:=#[places1.v,(Sl.mk (some p1) 1 1).v]) (by kernel_rfl) (fun _=>rfl) hv1) ?_
 obtain ⟨hs,hb⟩:=hk.hh hs hb
 refine q (zC (xE (zN ⟨(s1,Hl1,w8),⟨rfl,hm,hs,hb,h.1⟩,h.2⟩)))
 refine vQ (xG (xG (xA (zN (eg (sn (O:=(.cells #[(vi 0)] 3)) (zI (zeroValue3 _) rfl) ?_))))))
 intro p2 w9 hn4
 have h:=h p2 w9 hn4
 obtain ⟨hs,hb⟩:=hs.nw hb hn4
 refine st2 (sizeOf3 _) hs hb h fun w10 hs hb h=>ln (zB (jHA (zN (jFX (rg (q0 (vp r1) (q0 (vp r1) (sc call22 (h.mono fun e w11 ⟨r7,k,hk,h⟩=>have ⟨hs,hb⟩:=hk.hh hs hb;⟨_,k,?_⟩)))))))))
 refine sc call139 (h.mono fun e w12 ⟨r8,k,hk,h⟩=>have ⟨hs,hb⟩:=hk.hh hs hb;⟨_,k,?_⟩)
 refine ln ?_
 obtain ⟨f1,cs1,hv2,hf1,h⟩:=h
 obtain ⟨xs1,Rd1,hit,I2,Ix1,hRI,h0,hbody,h⟩:=h
 refine jDO (encs:=(fun (z2:Int)=>#[(vi z2)])) (Eq.trans (b:=r8) (by kernel_rfl) hv2) hf1 hit (fun _=>rfl) (by decide) hs I2 Ix1 (fun _ _ _=>False) hRI h0 ?ha ?hr ?ht
 case ha =>
  intro l z2 w19
  refine rg (q (ln ⟨rfl,?_⟩))
  intro pre1 Y1 A1 hi hY hpost
  have h:=hbody pre1 z2 Y1 A1 hi hY hpost
  obtain ⟨hs,hb⟩:=st0 A1
  refine zL (zB (eg (q (ql (isAgg3 _) h fun v1 h=>qb (ln (cbr h ?_ ?_))))))<;>intro h
  refine vQ (xG (bl_ne rfl ?_))
  exact rd_x h
  refine zD (zN (rg (ql (isAgg3 _) h fun v2 h=>q (st2 (sizeOf3 _) hs hb h fun w14 hs hb h=>zC (xE ?_)))))
  exact rd_n h
 case hr =>
  intro D1 H1 w15 hs' hD hDe dA hk1 hio1
  have hb':=hb.behind hk1 dA hD hDe
  have hs:=hs'
  have hb:=hb'
  have h:=h H1 w15 hs dA hk1 hio1
  refine zB (eg (ql (isAgg3 _) h fun v3 h=>qc (ln (cbr h ?_ ?_))))<;>intro h
  refine zB (qC (by kernel_rfl) (by kernel_rfl) (by kernel_rfl) (by kernel_rfl) ?_)
  intro w16 hw16
  have hs:Hst w0 H1 w15 H1 w16:=by rw [hw16];exact hs.drew
  have hb:HBZ [(D1,.deferred (some []))] H1 w16 []:=by rw [hw16];exact hb.drew
  refine qq 0 places1.v Kp0 (qg 1 ?_)
  have ⟨h,hs⟩:=hs.hr (h w16)
  obtain ⟨v4,hv7,h⟩:=h
  refine sxQ Kp1 (zJ rfl) rfl (xl (isAgg3 _) hv7) (qg 2 ?_)
  obtain ⟨a1,hv6,h⟩:=h
  refine sxQ Kp2 (zJ rfl) rfl (xi (runUnderlying50 _) (sizeOf3 _) hv6) (qg 3 ?_)
  obtain ⟨v5,hv5,h⟩:=h
  refine sxQ Kp3 (zJ rfl) rfl (xl (isAgg3 _) hv5) (qq 4 (vp none) Kp4 (qq 5 (vi 73) Kp5 (qq 6 (vi v5) Kp6 (wn (zN (er (vA (af_r hb.dead ?_))))))))
  intro w17 hw'
  have hl:=hb.leave hs hw'
  obtain ⟨hs,hb⟩:=hl
  -- behind the loop
  have ⟨h,hs⟩:=hs.hr (h w17)
  refine jMH (.inl rfl) results121 (v:=(vp none)) (by kernel_rfl) (v':=(vi 73)) (by kernel_rfl) (v'':=(vi v5)) (by kernel_rfl) ⟨none,73,v5,rfl,h⟩
  refine zD (zN (eg (qd (ln (er (af_r hb.dead ?_))))))
  intro w18 hw'
  have hl:=hb.leave hs hw'
  obtain ⟨hs,hb⟩:=hl
  -- behind the loop
  have ⟨h,hs⟩:=hs.hr (h w18)
  refine jMH (.inl rfl) results121 (v:=(vp r1)) (by kernel_rfl) (v':=(vi 0)) (by kernel_rfl) (v'':=(vi 0)) (by kernel_rfl) ⟨r1,0,0,rfl,h⟩
 case ht =>
  intro _ _ _ _ _ _ _ h
  exact h.elim
def m_G4 (p1:Option Addr) (b1:Sl) (w0:World) (K:Int→Int→Int→WP):Prop :=Br (Option.isNone p1) (K 0 2 0 w0) (Calls prog 121 #[b1.v] w0 (fun e w1=>∃r1 r2 r3,e=.returned (.tuple #[(vp r1),(vi r2),(vi r3)])∧Br (r2 != 0) (K 0 r2 r3 w1) (Calls prog 22 #[(vp r1)] w1 (fun e w2=>∃r4,e=.returned (vi r4)∧Calls prog 122 #[(vp p1),(vp r1),(vi r4)] w2 (fun e w3=>∃r5 r6,e=.returned (.tuple #[(vi r5),(vi r6)])∧K r5 r6 0 w3)))))
theorem w_G4 (p1 b1 w0 K) (h:m_G4 p1 b1 w0 K):
  Calls prog 68 #[(vp p1),b1.v] w0 (fun e w'=>∃r7 r8 r9,e=.returned (.tuple #[(vi r7),(vi r8),(vi r9)])∧K r7 r8 r9 w'):=by
 refine cw (args:=[(vp p1),b1.v]) func68 ntmps68 (eg (q0 (vi 0) (q0 (vi 0) (q0 (vi 0) (ln (zB (eg (q0 (vp p1) ?_))))))))
 refine q2 (vb (Option.isNone p1)) (uF (by kernel_rfl) rfl underlying29) (ln (cbr h ?_ ?_))<;>intro h
 refine eg (qc (ln (er (vA (jMH (.inl rfl) results68 (v:=(vi 0)) (by kernel_rfl) (v':=(vi 2)) (by kernel_rfl) (v'':=(vi 0)) (by kernel_rfl) ⟨0,2,0,rfl,h⟩)))))
 refine zD (zN (eg (q (sc call121 (h.mono fun e w1 ⟨r1,r2,r3,k,h⟩=>⟨_,k,?_⟩)))))
 refine qc (qd (ln (zB (eg (qb (ln (cbr h ?_ ?_)))))))<;>intro h
 refine eg (q (qd (ln (er (vA (jMH (.inl rfl) results68 (v:=(vi 0)) (by kernel_rfl) (v':=(vi r2)) (by kernel_rfl) (v'':=(vi r3)) (by kernel_rfl) ⟨0,r2,r3,rfl,h⟩))))))
 refine zD (zN (eg (qc (sc call22 (h.mono fun e w2 ⟨r4,k,h⟩=>⟨_,k,?_⟩)))))
 refine sc call122 (h.mono fun e w3 ⟨r5,r6,k,h⟩=>⟨_,k,?_⟩)
 refine q (qd (ln (eg (qc (qb (ln (er (jMH (.inl rfl) results68 (v:=(vi r5)) (by kernel_rfl) (v':=(vi r6)) (by kernel_rfl) (v'':=(vi 0)) (by kernel_rfl) ⟨r5,r6,0,rfl,h⟩))))))))
def m_H4 (r1:Option Addr) (e1 at1:Int) (w0:World) (K:WP):Prop :=∃a1,r1=some a1∧∃v1,w0.cell? (a1.add 2)=some (vi v1)∧Br (v1 == 0) (∃a2,r1=some a2∧zT w0 (a2.add 2)∧∀w1,w1=w0.setCell (a2.add 2) (vi e1)→∃a3,r1=some a3∧zT w1 (a3.add 3)∧∀w2,w2=w1.setCell (a3.add 3) (vi at1)→K w2) (K w0)
theorem w_H4 (r1 e1 at1 w0 K) (h:m_H4 r1 e1 at1 w0 K):
  Calls prog 242 #[(vp r1),(vi e1),(vi at1)] w0 (fun e w'=>e=.returned (.tuple #[])∧K  w'):=by
 refine cw (args:=[(vp r1),(vi e1),(vi at1)]) func242 ntmps242 (eg (q0 (vp r1) ?_))
 refine qm h fun a1 h=>q (ql (isAgg3 _) h fun v1 h=>q (ln (cbr h ?_ ?_)))<;>intro h
 refine eg (qb (qm h fun a2 h=>q (st1 (sizeOf3 _) h fun w1 h=>ln (rg (qb (qm h fun a3 h=>q (st1 (sizeOf3 _) h fun w2 h=>zC (jFH (.inr rfl) results242 ⟨rfl,h⟩))))))))
 refine zD (jFH (.inr rfl) results242 ⟨rfl,h⟩)
def s_H1 (kind1:Int):Bool :=(((((kind1 == 1) || (kind1 == 6)) || (kind1 == 7)) || (kind1 == 8)) || (kind1 == 9))
theorem pw_H1 (kind1:Int) (w0:World) :
  Calls prog 171 #[(vi kind1)] w0 (fun e w'=>(e=.returned (vb (((((kind1 == 1) || (kind1 == 6)) || (kind1 == 7)) || (kind1 == 8)) || (kind1 == 9))))∧Pure w0 w'):=by
 refine cw (args:=[(vi kind1)]) func171 ntmps171 (eg (q0 (vb false) (ln (zB ?_))))
 refine vJ (fun ρ wJ=>w0=wJ∧Has ρ [(2,(vb (((((kind1 == 1) || (kind1 == 6)) || (kind1 == 7)) || (kind1 == 8)) || (kind1 == 9))))]) ?_ ?_
 refine rg (qc (zK 3 (fun ρ wJ=>∃b6'0:Bool,((kind1 == 1)=b6'0)∧w0=wJ∧Has ρ [(0,(vi kind1)),(8,(vb (b6'0 || (kind1 == 6))))]) ?_ ?_))
 rintro ρ w6 ⟨b6'0,he0,hw,hH⟩
 subst he0
 subst hw
 refine zP hH (q (zK 3 (fun ρ wJ=>∃b7'0:Bool,(((kind1 == 1) || (kind1 == 6))=b7'0)∧w0=wJ∧Has ρ [(0,(vi kind1)),(12,(vb (b7'0 || (kind1 == 7))))]) ?_ ?_))
 rintro ρ w7 ⟨b7'0,he0,hw,hH⟩
 subst he0
 subst hw
 refine zP hH (q (zK 3 (fun ρ wJ=>∃b8'0:Bool,((((kind1 == 1) || (kind1 == 6)) || (kind1 == 7))=b8'0)∧w0=wJ∧Has ρ [(0,(vi kind1)),(16,(vb (b8'0 || (kind1 == 8))))]) ?_ ?_))
 rintro ρ w8 ⟨b8'0,he0,hw,hH⟩
 subst he0
 subst hw
 refine zP hH (q (zK 3 (fun ρ wJ=>∃b9'0:Bool,(((((kind1 == 1) || (kind1 == 6)) || (kind1 == 7)) || (kind1 == 8))=b9'0)∧w0=wJ∧Has ρ [(20,(vb (b9'0 || (kind1 == 9))))]) ?_ ?_))
 rintro ρ w9 ⟨b9'0,he0,hw,hH⟩
 subst he0
 subst hw
 refine zP hH (q (ln ⟨rfl,hm⟩))
 rcases bte ((((kind1 == 1) || (kind1 == 6)) || (kind1 == 7)) || (kind1 == 8)) with hg16 | hg16
 refine sj2 17 hg16 (q2 (vb true) (xT hg16) (zC ⟨true,hg16,rfl,hm⟩))
 refine qk 17 hg16 (qk 17 hg16 (q2 (vb (kind1 == 9)) (xF hg16) (zC ⟨false,hg16,rfl,hm⟩)))
 rcases bte (((kind1 == 1) || (kind1 == 6)) || (kind1 == 7)) with hg14 | hg14
 refine sj2 13 hg14 (q2 (vb true) (xT hg14) (zC ⟨true,hg14,rfl,hm⟩))
 refine qk 13 hg14 (qk 13 hg14 (q2 (vb (kind1 == 8)) (xF hg14) (zC ⟨false,hg14,rfl,hm⟩)))
 rcases bte ((kind1 == 1) || (kind1 == 6)) with hg12 | hg12
 refine sj2 9 hg12 (q2 (vb true) (xT hg12) (zC ⟨true,hg12,rfl,hm⟩))
 refine qk 9 hg12 (qk 9 hg12 (q2 (vb (kind1 == 7)) (xF hg12) (zC ⟨false,hg12,rfl,hm⟩)))
 rcases bte (kind1 == 1) with hg10 | hg10
 refine sj2 5 hg10 (q2 (vb true) (xT hg10) (zC ⟨true,hg10,rfl,hm⟩))
 refine qk 5 hg10 (qk 5 hg10 (q2 (vb (kind1 == 6)) (xF hg10) (zC ⟨false,hg10,rfl,hm⟩)))
 rintro ρ w5 ⟨hw,hH⟩
 subst hw
 refine zW hH (zN (er (rs1 results171 (v:=(vb (((((kind1 == 1) || (kind1 == 6)) || (kind1 == 7)) || (kind1 == 8)) || (kind1 == 9)))) ⟨by kernel_rfl,Ext.refl _⟩)))
theorem p_H1 (kind1:Int) (w0:World):Calls prog 171 #[(.int .i64 kind1)] w0 (fun e w'=>e=.returned (.bool (s_H1 kind1))∧Pure w0 w'):=pw_H1 kind1 w0
def m_U1_l1 (r1:Option Addr) (n1 i1:Int) (w0:World) (Hl1:NP) (wl1:World) (Kc1:Int→Int→NP→WP) (K:Int→WP):Prop :=∃a2,r1=some a2∧∀w1,Hst w0 Hl1 wl1 Hl1 w1→∃v2,w1.cell? (a2.add 1)=some (vi v2)∧∃a3,r1=some a3∧∃v3:Sl,w1.cell? a3=some v3.v∧Br (decide ((q6.wrap (v2+i1))≥(v3.len:Int))) (∃a4,r1=some a4∧∃v4,w1.cell? (a4.add 1)=some (vi v4)∧Calls prog 242 #[(vp r1),(vi 3),(vi v4)] w1 (fun e w2=>e=.returned (.tuple #[])∧Kept Hl1 w1 w2∧K 0 w2)) (∃a5,r1=some a5∧∀w3,Hst w0 Hl1 w1 Hl1 w3→∃v5:Sl,w3.cell? a5=some v5.v∧∃a6,r1=some a6∧∃v6,w3.cell? (a6.add 1)=some (vi v6)∧∃a7:Addr,At v5 (q6.wrap (v6+i1)) 1 a7∧∃v7:Int,w3.cell? a7=some (.int .u8 v7)∧Br ((i1 == 9) && (decide (v7>1))) (∃a8,r1=some a8∧∀H1 w4,Hst w0 Hl1 w3 H1 w4→∃v8,w4.cell? (a8.add 1)=some (vi v8)∧Calls prog 242 #[(vp r1),(vi 11),(vi v8)] w4 (fun e w5=>e=.returned (.tuple #[])∧Kept H1 w4 w5∧K 0 w5)) (∀H1 w4,Hst w0 Hl1 w3 H1 w4→∃z1:Int,(Go.binOp .rem 5 (.int .u8 v7) (.int .u8 128)).run prog w4=.ok (.int .u8 z1) w4∧∃z2,(Go.binOp .shl 26 (vu (IntKind.u64.wrap z1)) (vu (IntKind.u64.wrap (q6.wrap (7*i1))))).run prog w4=.ok (vu z2) w4∧Br (decide (v7≥128)) (Kc1 (IntKind.u64.wrap (n1+z2)) (q6.wrap (i1+1)) H1 w4) (Br ((v7 == 0) && (decide (i1>0))) (∃a9,r1=some a9∧∀H2 w6,Hst w0 H1 w4 H2 w6→∃v9,w6.cell? (a9.add 1)=some (vi v9)∧Calls prog 242 #[(vp r1),(vi 10),(vi v9)] w6 (fun e w7=>e=.returned (.tuple #[])∧Kept H2 w6 w7∧K 0 w7)) (∃a10,r1=some a10∧∀H2 w6,Hst w0 H1 w4 H2 w6→∃v10,w6.cell? (a10.add 1)=some (vi v10)∧∃a11,r1=some a11∧zT w6 (a11.add 1)∧¬ H2 (a11.add 1).block∧∀w8,w8=w6.setCell (a11.add 1) (vi (q6.wrap ((q6.wrap (v10+i1))+1)))→K (IntKind.u64.wrap (n1+z2)) w8))))
def m_U1 (r1:Option Addr) (w0:World) (K:Int→WP):Prop :=∃a1,r1=some a1∧∃v1,w0.cell? (a1.add 2)=some (vi v1)∧Br (v1 != 0) (K 0 w0) (∃(I1:Int→Int→NP→WP) (mu1:Int→Int→World→Nat),I1 0 0 None w0∧∀(n1 i1:Int) (Hl1:NP) (wl1:World),Hst w0 Hl1 wl1 Hl1 wl1→I1 n1 i1 Hl1 wl1→m_U1_l1 r1 n1 i1 w0 Hl1 wl1 (fun y'0 y'1 H' w'=>I1 y'0 y'1 H' w'∧mu1 y'0 y'1 w'<mu1 n1 i1 wl1) K)
theorem w_U1 (r1 w0 K) (h:m_U1 r1 w0 K):
  Calls prog 219 #[(vp r1)] w0 (fun e w'=>∃r2,e=.returned (vu r2)∧K r2 w'):=by
 refine cw (args:=[(vp r1)]) func219 ntmps219 ?_
 obtain ⟨hs,hb⟩:=st0 w0
 refine eg (q (ln (zB (eg (q (qm h fun a1 h=>q (ql (isAgg3 _) h fun v1 h=>q (ln (cbr h ?_ ?_)))))))))<;>intro h
 refine eg (q (ln (er (vA (rs1 results219 ⟨0,rfl,h⟩)))))
 refine zD (zN (eg (q (ln (eg (q (ln (zL ?_))))))))
 obtain ⟨I1,mu1,h0,hr⟩:=h
 refine vU (σ:=Int×Int×NP×World) (fun s ρ w=>w=s.2.2.2∧Has ρ [(0,(vp r1)),(3,(vu s.1)),(4,(vi s.2.1))]∧Hst w0 s.2.2.1 w s.2.2.1 w∧HB s.2.2.1 w []∧I1 s.1 s.2.1 s.2.2.1 s.2.2.2) (fun s=>mu1 s.1 s.2.1 s.2.2.2) (0,0,None,w0) ⟨rfl,hm,hs,hb,h0⟩ ?_
 rintro ⟨n1,i1,Hl1,wl1⟩ ρ w ⟨hw,hH,hs,hb,hI⟩
 dsimp only at hw hH hs hb;subst w
 have h:=hr n1 i1 Hl1 wl1 hs hI
 refine zQ hH (zB (zL (zB (zB (qC (by kernel_rfl) (by kernel_rfl) (by kernel_rfl) (by kernel_rfl) ?_)))))
 intro w1 hw1
 have hs:Hst w0 Hl1 wl1 Hl1 w1:=by rw [hw1];exact hs.drew
 have hb:HB Hl1 w1 []:=by rw [hw1];exact hb.drew
 refine qq 0 (vp r1) Kp0 (qg 1 ?_)
 obtain ⟨a2,hp2,h⟩:=h
 refine sxQ Kp1 (zJ rfl) rfl (xn hp2) (qq 2 (vp (some (a2.add 1))) Kp2 (qg 3 ?_))
 have ⟨h,hs⟩:=hs.hr (h w1)
 obtain ⟨v2,hv12,h⟩:=h
 refine sxQ Kp3 (zJ rfl) rfl (xl (isAgg3 _) hv12) (qq 4 (vi i1) Kp4 (qq 5 (vi (q6.wrap (v2+i1))) Kp5 (qq 6 (vp r1) Kp6 (qg 7 ?_))))
 obtain ⟨a3,hp3,h⟩:=h
 refine sxQ Kp7 (zJ rfl) rfl (xn hp3) (qq 8 (vp (some a3)) Kp8 (qg 9 ?_))
 obtain ⟨v3,hv11,h⟩:=h
 refine sxQ Kp9 (zJ rfl) rfl (xl (isAgg54 _) hv11) (qq 10 (vi (v3.len:Int)) (zG (S8 (zA (zA zF)))) (qq 11 (vb (decide ((q6.wrap (v2+i1))≥(v3.len:Int)))) (zG (S8 (zA (zA (zA zF))))) (wn (zN (cbr h ?_ ?_)))))<;>intro h
 refine eg (qb (qm h fun a4 h=>q (ql (isAgg3 _) h fun v4 h=>sc call242 (h.mono fun e w2 ⟨k,hk,h⟩=>have ⟨hs,hb⟩:=hk.hh hs hb;⟨_,k,?_⟩))))
 refine ln (eg (q (ln (er (vA (yC (vA (vA (yC (rs1 results219 ⟨0,rfl,h⟩))))))))))
 refine zD (zN (zB (qC (by kernel_rfl) (by kernel_rfl) (by kernel_rfl) (by kernel_rfl) ?_)))
 intro w3 hw3
 have hs:Hst w0 Hl1 w1 Hl1 w3:=by rw [hw3];exact hs.drew
 have hb:HB Hl1 w3 []:=by rw [hw3];exact hb.drew
 refine qq 0 (vp r1) Kp0 (qg 1 ?_)
 obtain ⟨a5,hp5,h⟩:=h
 refine sxQ Kp1 (zJ rfl) rfl (xn hp5) (qq 2 (vp (some a5)) Kp2 (qg 3 ?_))
 have ⟨h,hs⟩:=hs.hr (h w3)
 obtain ⟨v5,hv10,h⟩:=h
 refine sxQ Kp3 (zJ rfl) rfl (xl (isAgg54 _) hv10) (qq 4 (vp r1) Kp4 (qg 5 ?_))
 obtain ⟨a6,hp6,h⟩:=h
 refine sxQ Kp5 (zJ rfl) rfl (xn hp6) (qq 6 (vp (some (a6.add 1))) Kp6 (qg 7 ?_))
 obtain ⟨v6,hv9,h⟩:=h
 refine sxQ Kp7 (zJ rfl) rfl (xl (isAgg3 _) hv9) (qq 8 (vi i1) Kp8 (qq 9 (vi (q6.wrap (v6+i1))) Kp9 (qg 10 ?_)))
 obtain ⟨a7,hv8,h⟩:=h
 refine sxQ (zG (S8 (zA (zA zF)))) (zJ rfl) rfl (xi (runUnderlying54 _) (sizeOf5 _) hv8) (qg 11 ?_)
 obtain ⟨v7,hv7,h⟩:=h
 refine sxQ (zG (S8 (zA (zA (zA zF))))) (zJ rfl) rfl (xl (isAgg5 _) hv7) (qq 12 (.int .u8 v7) (zG (S8 (S4 zF))) (wn (zN (zB (zB (vJ (fun ρ wJ=>∃b1'0:Bool,∃HJ:NP,((i1 == 9)=b1'0)∧Hst w0 Hl1 w3 HJ wJ∧HB HJ wJ []∧Has ρ [(0,(vp r1)),(3,(vu n1)),(4,(vi i1)),(5,(.int .u8 v7)),(48,(vb (b1'0 && (decide (v7>1)))))]) ?_ ?_))))))
 refine rg (qc ?_)
 rcases bte (i1 == 9) with hg2 | hg2
 refine qk 45 hg2 (qk 45 hg2 (q2 (vb (decide (v7>1))) (xT hg2) (ln ⟨true,_,hg2,hs,hb,hm⟩)))
 refine sj2 45 hg2 (q2 (vb false) (xF hg2) (ln ⟨false,_,hg2,hs,hb,hm⟩))
 rintro ρ w4 ⟨b1'0,H1,he0,hs,hb,hH⟩
 subst he0
 refine zW hH (zN (cbr h ?_ ?_))<;>intro h
 refine eg (qb (qm h fun a8 h=>q ?_))
 have ⟨h,hs⟩:=hs.hr (h H1 w4)
 refine ql (isAgg3 _) h fun v8 h=>sc call242 (h.mono fun e w5 ⟨k,hk,h⟩=>have ⟨hs,hb⟩:=hk.hh hs hb;⟨_,k,?_⟩)
 refine ln (eg (q (ln (er (vA (yC (vA (vA (yC (rs1 results219 ⟨0,rfl,h⟩))))))))))
 refine zD (zN (eg (qb ?_)))
 have ⟨h,hs⟩:=hs.hr (h H1 w4)
 obtain ⟨z1,hv6,h⟩:=h
 refine q2 (.int .u8 z1) (qN (by kernel_rfl) (by kernel_rfl) (by kernel_rfl) hv6) (qd ?_)
 obtain ⟨z2,hv5,h⟩:=h
 refine q2 (vu z2) (qN (by kernel_rfl) (by kernel_rfl) (by kernel_rfl) hv5) (qb (ln (zB (eg (qb (ln (cbr h ?_ ?_)))))))<;>intro h
 refine vQ (xG (xA (zN (rg (q0 (vi i1) (q0 (vi (q6.wrap (i1+1))) (q0 (vi (q6.wrap (i1+1))) (ln ⟨((IntKind.u64.wrap (n1+z2)),(q6.wrap (i1+1)),H1,w4),⟨rfl,hm,hs,hb,h.1⟩,h.2⟩))))))))
 refine zD (zN (zB (zB (vJ (fun ρ wJ=>∃b2'0:Bool,∃HJ:NP,((v7 == 0)=b2'0)∧Hst w0 H1 w4 HJ wJ∧HB HJ wJ []∧Has ρ [(0,(vp r1)),(3,(vu (IntKind.u64.wrap (n1+z2)))),(4,(vi i1)),(71,(vb (b2'0 && (decide (i1>0)))))]) ?_ ?_))))
 refine rg (qc ?_)
 rcases bte (v7 == 0) with hg4 | hg4
 refine qk 68 hg4 (qk 68 hg4 (q2 (vb (decide (i1>0))) (xT hg4) (ln ⟨true,_,hg4,hs,hb,hm⟩)))
 refine sj2 68 hg4 (q2 (vb false) (xF hg4) (ln ⟨false,_,hg4,hs,hb,hm⟩))
 rintro ρ w6 ⟨b2'0,H2,he0,hs,hb,hH⟩
 subst he0
 refine zW hH (zN (cbr h ?_ ?_))<;>intro h
 refine eg (qb (qm h fun a9 h=>q ?_))
 have ⟨h,hs⟩:=hs.hr (h H2 w6)
 refine ql (isAgg3 _) h fun v9 h=>sc call242 (h.mono fun e w7 ⟨k,hk,h⟩=>have ⟨hs,hb⟩:=hk.hh hs hb;⟨_,k,?_⟩)
 refine ln (eg (q (ln (er (vA (yC (vA (vA (yC (rs1 results219 ⟨0,rfl,h⟩))))))))))
 refine zD (zN (eg (qb (qm h fun a10 h=>q ?_))))
 have ⟨h,hs⟩:=hs.hr (h H2 w6)
 refine ql (isAgg3 _) h fun v10 h=>qc (qm h fun a11 h=>q (st2 (sizeOf3 _) hs hb h fun w8 hs hb h=>ln (eg (qb (ln (er (yC (vA (vA (yC (rs1 results219 ⟨(IntKind.u64.wrap (n1+z2)),rfl,h⟩)))))))))))
def m_V1_l1 (n2:Int) (out1:Sl) (wl1:World) (Kc1:Int→Sl→WP) (K:Sl→WP):Prop :=Br (decide (n2≥128)) (∃z1,(Go.binOp .rem 26 (vu n2) (vu 128)).run prog wl1=.ok (vu z1) wl1∧∀p2 w3,New wl1 (.cells #[(.int .u8 (IntKind.u8.wrap (IntKind.u64.wrap (z1+128))))] 5) p2 w3→∃s2:Sl,∃w4:World,(Builtin.append_ #[54,54] 54 #[out1.v,(Sl.mk (some p2) 1 1).v]).run prog w3=.ok s2.v w4∧∃z2,(Go.binOp .quo 26 (vu n2) (vu 128)).run prog w4=.ok (vu z2) w4∧Kc1 z2 s2 w4) (∀p3 w5,New wl1 (.cells #[(.int .u8 (IntKind.u8.wrap n2))] 5) p3 w5→∃s3:Sl,∃w6:World,(Builtin.append_ #[54,54] 54 #[out1.v,(Sl.mk (some p3) 1 1).v]).run prog w5=.ok s3.v w6∧K s3 w6)
def m_V1 (b1:Sl) (n1:Int) (w0:World) (K:Sl→WP):Prop :=∀p1 w1,New w0 (.cells #[] 5) p1 w1→∃s1:Sl,∃w2:World,(Builtin.append_ #[54,54] 54 #[(Sl.mk (some p1) 0 0).v,b1.v]).run prog w1=.ok s1.v w2∧∃(I1:Int→Sl→WP) (mu1:Int→Sl→World→Nat),I1 n1 s1 w2∧∀(n2:Int) (out1:Sl) (wl1:World),I1 n2 out1 wl1→m_V1_l1 n2 out1 wl1 (fun y'0 y'1 w'=>I1 y'0 y'1 w'∧mu1 y'0 y'1 w'<mu1 n2 out1 wl1) K
theorem w_V1 (b1 n1 w0 K) (h:m_V1 b1 n1 w0 K):
  Calls prog 172 #[b1.v,(vu n1)] w0 (fun e w'=>∃r1:Sl,e=.returned r1.v∧K r1 w'):=by
 refine cw (args:=[b1.v,(vu n1)]) func172 ntmps172 (eg (q0 Sl.nil.v (ln (eg (yX (O:=(.cells #[] 5)) (fun p=>(Sl.mk (some p) 0 0).v) (zJ rfl) (vD (vs:=#[]) (by kernel_rfl) (by kernel_rfl)) ?_)))))
 intro p1 w1 hn3
 have h:=h p1 w1 hn3
 refine q ?_
 obtain ⟨s1,w2,hv5,h⟩:=h
 refine st (v:=s1.v) (zJ rfl) (vC (args:=#[(Sl.mk (some p1) 0 0).v,b1.v]) (by kernel_rfl) (fun _=>rfl) hv5) (q0 s1.v (ln (zB (zL ?_))))
 obtain ⟨I1,mu1,h0,hr⟩:=h
 refine vU (σ:=Int×Sl×World) (fun s ρ w=>w=s.2.2∧Has ρ [(1,(vu s.1)),(5,s.2.1.v)]∧I1 s.1 s.2.1 s.2.2) (fun s=>mu1 s.1 s.2.1 s.2.2) (n1,s1,w2) ⟨rfl,hm,h0⟩ ?_
 rintro ⟨n2,out1,wl1⟩ ρ w ⟨hw,hH,hI⟩
 dsimp only at hw hH;subst w
 have h:=hr n2 out1 wl1 hI
 refine zQ hH (zB (eg (qb (ln (cbr h ?_ ?_)))))<;>intro h
 refine zD (zN (zL (eg (qb ?_))))
 obtain ⟨z1,hv3,h⟩:=h
 refine q2 (vu z1) (qN (by kernel_rfl) (by kernel_rfl) (by kernel_rfl) hv3) (qb (nw4 (fun p=>(Sl.mk (some p) 1 1).v) h fun p2 w3 h=>?_))
 obtain ⟨s2,w4,hv2,h⟩:=h
 refine st (v:=s2.v) (zJ rfl) (vC (args:=#[out1.v,(Sl.mk (some p2) 1 1).v]) (by kernel_rfl) (fun _=>rfl) hv2) (q0 s2.v (ln (rg (q0 (vu n2) ?_))))
 obtain ⟨z2,hv1,h⟩:=h
 refine q2 (vu z2) (qN (by kernel_rfl) (by kernel_rfl) (by kernel_rfl) hv1) (q (zC (xE (zN ⟨(z2,s2,w4),⟨rfl,hm,h.1⟩,h.2⟩))))
 refine vQ (xG (xG (xA (zN (eg (q0 out1.v (q0 (vu n2) (q0 (.int .u8 (IntKind.u8.wrap n2)) (yX (O:=(.cells #[(.int .u8 (IntKind.u8.wrap n2))] 5)) (fun p=>(Sl.mk (some p) 1 1).v) (zJ rfl) (vD (vs:=#[(0,(.int .u8 (IntKind.u8.wrap n2)))]) (by kernel_rfl) (by kernel_rfl)) ?_)))))))))
 intro p3 w5 hn2
 have h:=h p3 w5 hn2
 obtain ⟨s3,w6,hv4,h⟩:=h
 refine st (v:=s3.v) (zJ rfl) (vC (args:=#[out1.v,(Sl.mk (some p3) 1 1).v]) (by kernel_rfl) (fun _=>rfl) hv4) (q0 s3.v (ln (er (rs1 results172 ⟨s3,rfl,h⟩))))
def m_I4 (b1:Sl) (s1:ByteArray) (w0:World) (K:Sl→WP):Prop :=Calls prog 172 #[b1.v,(vu (IntKind.u64.wrap (s1.size:Int)))] w0 (fun e w1=>∃r1:Sl,e=.returned r1.v∧∃s2:Sl,∃w2:World,(Builtin.append_ #[54,9] 54 #[r1.v,(vs s1)]).run prog w1=.ok s2.v w2∧K s2 w2)
theorem w_I4 (b1 s1 w0 K) (h:m_I4 b1 s1 w0 K):
  Calls prog 173 #[b1.v,(vs s1)] w0 (fun e w'=>∃r2:Sl,e=.returned r2.v∧K r2 w'):=by
 refine cw (args:=[b1.v,(vs s1)]) func173 ntmps173 (eg (q0 Sl.nil.v (ln (eg (q0 b1.v (q0 (vs s1) (q0 (vi (s1.size:Int)) (q0 (vu (IntKind.u64.wrap (s1.size:Int))) ?_))))))))
 refine sc call172 (h.mono fun e w1 ⟨r1,k,h⟩=>⟨_,k,?_⟩)
 refine q ?_
 obtain ⟨s2,w2,hv1,h⟩:=h
 refine st (v:=s2.v) (zJ rfl) (vC (args:=#[r1.v,(vs s1)]) (by kernel_rfl) (fun _=>rfl) hv1) (q0 s2.v (ln (er (rs1 results173 ⟨s2,rfl,h⟩))))
def m_G_j6 (s1:Sl) (i1 aD aL:Int) (b8:Sl) (w0:World) (H:NP) (w:World) (Kc1:Sl→Int→NP→WP) (_K:Sl→WP):Prop :=Br (((s_A aD):Int) == 2) (∃a7:Addr,At s1 aL 1 a7∧∀w15,Hst w0 H w H w15→∃v5,w15.cell? a7=some (vi v5)∧Calls prog 172 #[b8.v,(vu (IntKind.u64.wrap v5))] w15 (fun e w16=>∃r2:Sl,e=.returned r2.v∧Kept H w15 w16∧Kc1 r2 (q6.wrap (i1+1)) H w16)) (∀w15,Hst w0 H w H w15→Kc1 b8 (q6.wrap (i1+1)) H w15)
def m_G_j5 (s1:Sl) (i1 aD:Int) (aM aL:Int) (b7:Sl) (w0:World) (H:NP) (w:World) (Kc1:Sl→Int→NP→WP) (K:Sl→WP):Prop :=Br (decide ((s_A aD)≥1)) (∃a8:Addr,At s1 aM 1 a8∧∀w14,Hst w0 H w H w14→∃v6,w14.cell? a8=some (vi v6)∧Calls prog 172 #[b7.v,(vu (IntKind.u64.wrap v6))] w14 (fun e w17=>∃r3:Sl,e=.returned r3.v∧Kept H w14 w17∧m_G_j6 s1 i1 aD aL r3 w0 H w17 Kc1 K)) (∀w14,Hst w0 H w H w14→m_G_j6 s1 i1 aD aL b7 w0 H w14 Kc1 K)
def m_G_j4 (s1:Sl) (i1 aD:Int) (aN:ByteArray) (aM aL:Int) (b6:Sl) (w0:World) (H:NP) (w:World) (Kc1:Sl→Int→NP→WP) (K:Sl→WP):Prop :=Br (aD == 3) (Calls prog 173 #[b6.v,(vs aN)] w (fun e w18=>∃r4:Sl,e=.returned r4.v∧Kept H w w18∧m_G_j5 s1 i1 aD aM aL r4 w0 H w18 Kc1 K)) (m_G_j5 s1 i1 aD aM aL b6 w0 H w Kc1 K)
def m_G_j3 (s1:Sl) (i1 aD aU:Int) (aN:ByteArray) (aM aL:Int) (b5:Sl) (w0:World) (H:NP) (w:World) (Kc1:Sl→Int→NP→WP) (K:Sl→WP):Prop :=Br (aD == 2) (Calls prog 172 #[b5.v,(vu aU)] w (fun e w19=>∃r5:Sl,e=.returned r5.v∧Kept H w w19∧m_G_j4 s1 i1 aD aN aM aL r5 w0 H w19 Kc1 K)) (m_G_j4 s1 i1 aD aN aM aL b5 w0 H w Kc1 K)
def m_G_j2 (s1:Sl) (i1 aD:Int) (aV aU:Int) (aN:ByteArray) (aM aL:Int) (b3:Sl) (w0:World) (H:NP) (w:World) (Kc1:Sl→Int→NP→WP) (K:Sl→WP):Prop :=Br ((aD == 8) || (aD == 9)) (∀H4 w13,Hst w0 H w H4 w13→Calls prog 172 #[b3.v,(vu (IntKind.u64.wrap aV))] w13 (fun e w20=>∃r6:Sl,e=.returned r6.v∧Kept H4 w13 w20∧m_G_j3 s1 i1 aD aU aN aM aL r6 w0 H4 w20 Kc1 K)) (∀H4 w13,Hst w0 H w H4 w13→m_G_j3 s1 i1 aD aU aN aM aL b3 w0 H4 w13 Kc1 K)
def m_G_l1 (p1:Option Addr) (r1 s1 b1:Sl) (i1:Int) (w0:World) (Hl1:NP) (wl1:World) (Kc1:Sl→Int→NP→WP) (K:Sl→WP):Prop :=Br (decide (i1<(r1.len:Int))) (∃a2,p1=some a2∧∃v2:Sl,wl1.cell? a2=some v2.v∧¬ Hl1 a2.block∧∃a3:Addr,At r1 i1 1 a3∧∃v3,wl1.cell? a3=some (vi v3)∧¬ Hl1 a3.block∧∃a4:Addr,At v2 (q6.wrap (v3 - 1)) 7 a4∧∃aD bC aV aU aN aM aL,Row wl1 a4 (Ac aD bC aV aU aN aM aL)∧¬ Hl1 a4.block∧∃a5:Addr,At r1 i1 1 a5∧∀H2 w6,Hst w0 Hl1 wl1 H2 w6→∃v4,w6.cell? a5=some (vi v4)∧∃a6:Addr,At s1 v4 1 a6∧zT w6 a6∧¬ H2 a6.block∧∀w9,w9=w6.setCell a6 (vi i1)→∀p5 w10,New w9 (.cells #[(.int .u8 (IntKind.u8.wrap aD))] 5) p5 w10→∃s2:Sl,∃w11:World,(Builtin.append_ #[54,54] 54 #[b1.v,(Sl.mk (some p5) 1 1).v]).run prog w10=.ok s2.v w11∧Kept H2 w10 w11∧Br (s_H1 aD) (∀w12,Hst w0 H2 w11 H2 w12→Calls prog 172 #[s2.v,(vu (IntKind.u64.wrap bC))] w12 (fun e w21=>∃r7:Sl,e=.returned r7.v∧Kept H2 w12 w21∧m_G_j2 s1 i1 aD aV aU aN aM aL r7 w0 H2 w21 Kc1 K)) (∀w12,Hst w0 H2 w11 H2 w12→m_G_j2 s1 i1 aD aV aU aN aM aL s2 w0 H2 w12 Kc1 K)) (K b1 wl1)
def m_G (p1:Option Addr) (t1:Int) (w0:World) (K:Sl→WP):Prop :=Calls prog 170 #[(vp p1),(vi t1)] w0 (fun e w1=>∃r1:Sl,e=.returned r1.v∧Kept None w0 w1∧∃a1,p1=some a1∧∃v1:Sl,w1.cell? a1=some v1.v∧∃s1:Sl,∃w2:World,(Instr.makeSlice 50 (vi (q6.wrap ((v1.len:Int)+1))) (vi (q6.wrap ((v1.len:Int)+1)))).run prog w1=.ok s1.v w2∧Kept None w1 w2∧∃(I1:Sl→Int→NP→WP) (mu1:Sl→Int→World→Nat),I1 Sl.nil 0 None w2∧∀(b1:Sl) (i1:Int) (Hl1:NP) (wl1:World),Hst w0 Hl1 wl1 Hl1 wl1→I1 b1 i1 Hl1 wl1→m_G_l1 p1 r1 s1 b1 i1 w0 Hl1 wl1 (fun y'0 y'1 H' w'=>I1 y'0 y'1 H' w'∧mu1 y'0 y'1 w'<mu1 b1 i1 wl1) K)
theorem w_G (p1 t1 w0 K) (h:m_G p1 t1 w0 K):
  Calls prog 132 #[(vp p1),(vi t1)] w0 (fun e w'=>∃r8:Sl,e=.returned r8.v∧K r8 w'):=by
 refine cw (args:=[(vp p1),(vi t1)]) func132 ntmps132 ?_
 obtain ⟨hs,hb⟩:=st0 w0
 refine eg (q (ln (eg (qb (sc call170 (h.mono fun e w1 ⟨r1,k,hk,h⟩=>have ⟨hs,hb⟩:=hk.hh hs hb;⟨_,k,?_⟩))))))
 refine q (ln (eg (q (qm h fun a1 h=>q (ql (isAgg49 _) h fun v1 h=>qb ?_)))))
 obtain ⟨s1,w2,hv14,hk,h⟩:=h
 refine st (v:=s1.v) (zJ rfl) (jDJ (by kernel_rfl) (by kernel_rfl) hv14) ?_
 obtain ⟨hs,hb⟩:=hk.hh hs hb
 refine q (ln (eg (q (ln (zB (eg (q (ln (zL ?_)))))))))
 obtain ⟨I1,mu1,h0,hr⟩:=h
 refine vU (σ:=Sl×Int×NP×World) (fun s ρ w=>w=s.2.2.2∧Has ρ [(0,(vp p1)),(5,r1.v),(6,s1.v),(7,s.1.v),(8,(vi s.2.1))]∧Hst w0 s.2.2.1 w s.2.2.1 w∧HB s.2.2.1 w []∧I1 s.1 s.2.1 s.2.2.1 s.2.2.2) (fun s=>mu1 s.1 s.2.1 s.2.2.2) (Sl.nil,0,None,w2) ⟨rfl,hm,hs,hb,h0⟩ ?_
 rintro ⟨b1,i1,Hl1,wl1⟩ ρ w ⟨hw,hH,hs,hb,hI⟩
 dsimp only at hw hH hs hb;subst w
 have h:=hr b1 i1 Hl1 wl1 hs hI
 refine zQ hH (zB (eg (qd (ln (cbr h ?_ ?_)))))<;>intro h
 refine zD (zN (zB (zL (zB (tY (fun x=>∃H',Hst w0 Hl1 wl1 H' x∧HB H' x []) [11,12] [12] (by kernel_rfl) (by kernel_rfl) (by kernel_rfl) (by kernel_rfl) ⟨_,hs.drew,hb.drew⟩ ?_)))))
 intro w3 hw3
 have hs:Hst w0 Hl1 wl1 Hl1 w3:=by rw [hw3];exact hs.drew
 have hb:HB Hl1 w3 []:=by rw [hw3];exact hb.drew
 refine qx 0 (vp p1) Kp0 (qg 1 ?_)
 obtain ⟨a2,hp2,h⟩:=h
 refine sy Kp1 (fun _ _=>xn hp2) (qx 2 (vp (some a2)) Kp2 (qg 3 ?_))
 obtain ⟨v2,hv13,hnh,h⟩:=h
 refine sy (v:=v2.v) Kp3 (fun w' hw'=>by obtain ⟨H',hs',hb'⟩:=hw';exact (xl (isAgg49 _) (jLM hv13 hnh hs'))) (qx 4 r1.v Kp4 (qx 5 (vi i1) Kp5 (qg 6 ?_)))
 obtain ⟨a3,hv12,h⟩:=h
 refine sy Kp6 (fun _ _=>xi (runUnderlying137 _) (sizeOf23 _) hv12) (qg 7 ?_)
 obtain ⟨v3,hv11,hnh,h⟩:=h
 refine sy (v:=(vi v3)) Kp7 (fun w' hw'=>by obtain ⟨H',hs',hb'⟩:=hw';exact (xl (isAgg23 _) (jLM hv11 hnh hs'))) (qx 8 (vi (q6.wrap (v3 - 1))) Kp8 (qg 9 ?_))
 obtain ⟨a4,hv10,h⟩:=h
 refine sy Kp9 (fun _ _=>xi (runUnderlying49 _) (sizeOf103 _) hv10) (qg 10 ?_)
 obtain ⟨aD,bC,aV,aU,aN,aM,aL,hv9,hnh,h⟩:=h
 refine sy (v:=(Ae aD bC aV aU aN aM aL)) (zG (S8 (zA (zA zF)))) (fun w' hw'=>by obtain ⟨H',hs',hb'⟩:=hw';exact (xa a4 (Ac aD bC aV aU aN aM aL) (isAgg103 _) (sizeOf103 _) (jTR hv9 hnh hs'))) (jTJ (fun ρ wJ=>∃p3:Addr,∃HJ:NP,Hst w0 Hl1 wl1 HJ wJ∧HB HJ wJ [(p3,(Ac aD bC aV aU aN aM aL),103)]∧Has ρ [(0,(vp p1)),(5,r1.v),(6,s1.v),(7,b1.v),(8,(vi i1)),(9,(vp (some p3)))]) ?_ ?_)
 refine lg 11 (qL (O:=(.cells #[(vi 0),(vi 0),(vi 0),(vu 0),ve,(vi 0),(vi 0)] 103)) (fun p=>.pointer (some p)) (zG (S8 (zA (zA (zA zF))))) (zJ rfl) (by kernel_rfl) (zI (zeroValue103 _) rfl) ?_)
 intro p4 w7 hn3
 obtain ⟨H3,hs,hb⟩:=hs.alloc hb hn3
 refine ⟨.inr ⟨_,hs,hb.drop 1⟩,?_⟩
 refine lg 12 (tP (zG (S8 (S4 zF))) (zJ rfl) (by kernel_rfl) (xo p4 (Ac aD bC aV aU aN aM aL) (sizeOf103 _) (hb.k0 0 7 gZ)) ?_)
 intro w8 hn4
 obtain ⟨hs,hb⟩:=hb.st1 0 hs hn4 gZ
 refine ⟨.inl (by kernel_rfl),?_⟩
 refine wn ⟨p4,_,hs,hb,hm⟩
 rintro ρ w6 ⟨p3,H2,hs,hb,hH⟩
 refine q_has hH (zN (eg (qc (qi (runUnderlying137 _) (sizeOf23 _) h fun a5 h=>?_))))
 have ⟨h,hs⟩:=hs.hr (h H2 w6)
 refine ql (isAgg23 _) h fun v4 h=>q (qi (runUnderlying50 _) (sizeOf3 _) h fun a6 h=>st2 (sizeOf3 _) hs hb h fun w9 hs hb h=>ln (eg (qb (q3 (xl (isAgg3 _) (hb.d0 0 gZ)) (q (nw5 (fun p=>(Sl.mk (some p) 1 1).v) hs hb h fun p5 w10 hs hb h=>?_))))))
 obtain ⟨s2,w11,hv5,hk,h⟩:=h
 refine st (v:=s2.v) (zJ rfl) (vC (args:=#[b1.v,(Sl.mk (some p5) 1 1).v]) (by kernel_rfl) (fun _=>rfl) hv5) ?_
 obtain ⟨hs,hb⟩:=hk.hh hs hb
 refine q (ln (zB (eg (q (q3 (xl (isAgg3 _) (hb.d0 0 gZ)) (sc call171 ((p_H1 aD w11).mono ?_)))))))
 rintro e w12 ⟨he,hE⟩
 refine ⟨_,he,?_⟩
 obtain ⟨hs,hb⟩:=hs.pp hb hE
 refine ln (zY (fun ρ w=>∃b3:Sl,∃H:NP,Has ρ [(0,(vp p1)),(5,r1.v),(6,s1.v),(7,b3.v),(8,(vi i1)),(9,(vp (some p3)))]∧Hst w0 H w H w∧HB H w [(p3,(Ac aD bC aV aU aN aM aL),103)]∧m_G_j2 s1 i1 aD aV aU aN aM aL b3 w0 H w (fun y'0 y'1 H' w'=>I1 y'0 y'1 H' w'∧mu1 y'0 y'1 w'<mu1 b1 i1 wl1) K) ?_ ?_)
 rintro ρ w ⟨b3,H,hH,hs,hb,h⟩
 refine zQ hH (zB (zB (vJ (fun ρ wJ=>∃b4'0:Bool,∃HJ:NP,((aD == 8)=b4'0)∧Hst w0 H w HJ wJ∧HB HJ wJ [(p3,(Ac aD bC aV aU aN aM aL),103)]∧Has ρ [(0,(vp p1)),(5,r1.v),(6,s1.v),(7,b3.v),(8,(vi i1)),(9,(vp (some p3))),(65,(vb (b4'0 || (aD == 9))))]) ?_ ?_)))
 refine rg (q (q3 (xl (isAgg3 _) (hb.d0 0 gZ)) (qb ?_)))
 rcases bte (aD == 8) with hg2 | hg2
 refine sj3 61 hg2 (q2 (vb true) (xT hg2) (ln ⟨true,_,hg2,hs,hb,hm⟩))
 refine qk 61 hg2 (q4 61 hg2 (xl (isAgg3 _) (hb.d0 0 gZ)) (qk 61 hg2 (q2 (vb (aD == 9)) (xF hg2) (ln ⟨false,_,hg2,hs,hb,hm⟩))))
 rintro ρ w13 ⟨b4'0,H4,he0,hs,hb,hH⟩
 subst he0
 refine zW hH (zN (zY (fun ρ w=>∃b5:Sl,∃H:NP,Has ρ [(0,(vp p1)),(5,r1.v),(6,s1.v),(7,b5.v),(8,(vi i1)),(9,(vp (some p3)))]∧Hst w0 H w H w∧HB H w [(p3,(Ac aD bC aV aU aN aM aL),103)]∧m_G_j3 s1 i1 aD aU aN aM aL b5 w0 H w (fun y'0 y'1 H' w'=>I1 y'0 y'1 H' w'∧mu1 y'0 y'1 w'<mu1 b1 i1 wl1) K) ?_ ?_))
 rintro ρ w ⟨b5,H,hH,hs,hb,h⟩
 refine zQ hH (zB (eg (q (q3 (xl (isAgg3 _) (hb.d0 0 gZ)) (q (ln (zY (fun ρ w=>∃b6:Sl,∃H:NP,Has ρ [(0,(vp p1)),(5,r1.v),(6,s1.v),(7,b6.v),(8,(vi i1)),(9,(vp (some p3)))]∧Hst w0 H w H w∧HB H w [(p3,(Ac aD bC aV aU aN aM aL),103)]∧m_G_j4 s1 i1 aD aN aM aL b6 w0 H w (fun y'0 y'1 H' w'=>I1 y'0 y'1 H' w'∧mu1 y'0 y'1 w'<mu1 b1 i1 wl1) K) ?_ ?_)))))))
 rintro ρ w ⟨b6,H,hH,hs,hb,h⟩
 refine zQ hH (zB (eg (q (q3 (xl (isAgg3 _) (hb.d0 0 gZ)) (q (ln (zY (fun ρ w=>∃b7:Sl,∃H:NP,Has ρ [(0,(vp p1)),(5,r1.v),(6,s1.v),(7,b7.v),(8,(vi i1)),(9,(vp (some p3)))]∧Hst w0 H w H w∧HB H w [(p3,(Ac aD bC aV aU aN aM aL),103)]∧m_G_j5 s1 i1 aD aM aL b7 w0 H w (fun y'0 y'1 H' w'=>I1 y'0 y'1 H' w'∧mu1 y'0 y'1 w'<mu1 b1 i1 wl1) K) ?_ ?_)))))))
 rintro ρ w ⟨b7,H,hH,hs,hb,h⟩
 refine zQ hH (zB (eg (q (q3 (xl (isAgg3 _) (hb.d0 0 gZ)) (sc call64 ((p_A aD w).mono ?_))))))
 rintro e w14 ⟨he,hE⟩
 refine ⟨_,he,?_⟩
 obtain ⟨hs,hb⟩:=hs.pp hb hE
 refine q (ln (zY (fun ρ w=>∃b8:Sl,∃H:NP,Has ρ [(0,(vp p1)),(5,r1.v),(6,s1.v),(7,b8.v),(8,(vi i1)),(9,(vp (some p3)))]∧Hst w0 H w H w∧HB H w [(p3,(Ac aD bC aV aU aN aM aL),103)]∧m_G_j6 s1 i1 aD aL b8 w0 H w (fun y'0 y'1 H' w'=>I1 y'0 y'1 H' w'∧mu1 y'0 y'1 w'<mu1 b1 i1 wl1) K) ?_ ?_))
 rintro ρ w ⟨b8,H,hH,hs,hb,h⟩
 refine zQ hH (eg (q (q3 (xl (isAgg3 _) (hb.d0 0 gZ)) (sc call64 ((p_A aD w).mono ?_)))))
 rintro e w15 ⟨he,hE⟩
 refine ⟨_,he,?_⟩
 obtain ⟨hs,hb⟩:=hs.pp hb hE
 refine q (ln (cbr h ?_ ?_))<;>intro h
 refine rg (qc (q3 (xl (isAgg23 _) (hb.d 0 6 gZ)) (qi (runUnderlying50 _) (sizeOf3 _) h fun a7 h=>?_)))
 have ⟨h,hs⟩:=hs.hr (h w15)
 refine ql (isAgg3 _) h fun v5 h=>q (sc call172 (h.mono fun e w16 ⟨r2,k,hk,h⟩=>have ⟨hs,hb⟩:=hk.hh hs hb;⟨_,k,?_⟩))
 refine q (zC (xE (zN (rg (qc (ln ⟨(r2,(q6.wrap (i1+1)),H,w16),⟨rfl,hm,hs,hb.drop 1,h.1⟩,h.2⟩))))))
 refine zD (xE (zN (rg (qc (zC ?_)))))
 have ⟨h,hs⟩:=hs.hr (h w15)
 refine zN ⟨(b8,(q6.wrap (i1+1)),H,w15),⟨rfl,hm,hs,hb.drop 1,h.1⟩,h.2⟩
 refine cbr h ?_ ?_<;>intro h
 refine rg (qc (q3 (xl (isAgg23 _) (hb.d 0 5 gZ)) (qi (runUnderlying50 _) (sizeOf3 _) h fun a8 h=>?_)))
 have ⟨h,hs⟩:=hs.hr (h w14)
 refine ql (isAgg3 _) h fun v6 h=>q (sc call172 (h.mono fun e w17 ⟨r3,k,hk,h⟩=>have ⟨hs,hb⟩:=hk.hh hs hb;⟨_,k,?_⟩))
 refine q (ln ⟨r3,H,hm,hs,hb,h⟩)
 refine zD ?_
 have ⟨h,hs⟩:=hs.hr (h w14)
 refine zN ⟨b7,H,hm,hs,hb,h⟩
 refine cbr h ?_ ?_<;>intro h
 refine rg (qb (q3 (xl (isAgg9 _) (hb.d 0 4 gZ)) (sc call173 (h.mono fun e w18 ⟨r4,k,hk,h⟩=>have ⟨hs,hb⟩:=hk.hh hs hb;⟨_,k,?_⟩))))
 refine q (ln ⟨r4,H,hm,hs,hb,h⟩)
 refine zD (zN ⟨b6,H,hm,hs,hb,h⟩)
 refine cbr h ?_ ?_<;>intro h
 refine rg (qb (q3 (xl (isAgg26 _) (hb.d 0 3 gZ)) (sc call172 (h.mono fun e w19 ⟨r5,k,hk,h⟩=>have ⟨hs,hb⟩:=hk.hh hs hb;⟨_,k,?_⟩))))
 refine q (ln ⟨r5,H,hm,hs,hb,h⟩)
 refine zD (zN ⟨b5,H,hm,hs,hb,h⟩)
 refine cbr h ?_ ?_<;>intro h
 refine rg (qb (q3 (xl (isAgg3 _) (hb.d 0 2 gZ)) (q ?_)))
 have ⟨h,hs⟩:=hs.hr (h H4 w13)
 refine sc call172 (h.mono fun e w20 ⟨r6,k,hk,h⟩=>have ⟨hs,hb⟩:=hk.hh hs hb;⟨_,k,?_⟩)
 refine q (ln ⟨r6,H4,hm,hs,hb,h⟩)
 refine zD ?_
 have ⟨h,hs⟩:=hs.hr (h H4 w13)
 refine zN ⟨b3,H4,hm,hs,hb,h⟩
 refine cbr h ?_ ?_<;>intro h
 refine rg (qb (q3 (xl (isAgg3 _) (hb.d 0 1 gZ)) (q ?_)))
 have ⟨h,hs⟩:=hs.hr (h w12)
 refine sc call172 (h.mono fun e w21 ⟨r7,k,hk,h⟩=>have ⟨hs,hb⟩:=hk.hh hs hb;⟨_,k,?_⟩)
 refine q (ln ⟨r7,H2,hm,hs,hb,h⟩)
 refine zD ?_
 have ⟨h,hs⟩:=hs.hr (h w12)
 refine zN ⟨s2,H2,hm,hs,hb,h⟩
 refine vQ (xG (xG (xA (zN (eg (q0 b1.v (q0 b1.v (ln (er (rs1 results132 ⟨b1,rfl,h⟩))))))))))
def m_J4 (p1:Option Addr) (t1:Int) (w0:World) (K:Sl→Int→WP):Prop :=Calls prog 19 #[(vp p1),(vi t1)] w0 (fun e w1=>∃r1,e=.returned (vb r1)∧Br (!r1) (K Sl.nil 51 w1) (Calls prog 132 #[(vp p1),(vi t1)] w1 (fun e w2=>∃r2:Sl,e=.returned r2.v∧Br (decide ((r2.len:Int)>4096)) (K Sl.nil 1 w2) (K r2 0 w2))))
theorem w_J4 (p1 t1 w0 K) (h:m_J4 p1 t1 w0 K):
  Calls prog 72 #[(vp p1),(vi t1)] w0 (fun e w'=>∃r3:Sl,∃r4,e=.returned (.tuple #[r3.v,(vi r4)])∧K r3 r4 w'):=by
 refine cw (args:=[(vp p1),(vi t1)]) func72 ntmps72 (eg (q0 Sl.nil.v (q0 (vi 0) (ln (zB (eg (q0 (vp p1) (q0 (vi t1) ?_))))))))
 refine sc call19 (h.mono fun e w1 ⟨r1,k,h⟩=>⟨_,k,?_⟩)
 refine q (ln (cbr h ?_ ?_))<;>intro h
 refine eg (qb (ln (er (vA (xC (.inl rfl) results72 (v:=Sl.nil.v) (by kernel_rfl) (v':=(vi 51)) (by kernel_rfl) ⟨Sl.nil,51,rfl,h⟩)))))
 refine zD (zN (eg (qb (sc call132 (h.mono fun e w2 ⟨r2,k,h⟩=>⟨_,k,?_⟩)))))
 refine q (ln (zB (eg (qc (ln (cbr h ?_ ?_))))))<;>intro h
 refine eg (qb (ln (er (vA (xC (.inl rfl) results72 (v:=Sl.nil.v) (by kernel_rfl) (v':=(vi 1)) (by kernel_rfl) ⟨Sl.nil,1,rfl,h⟩)))))
 refine zD (zN (eg (qc (ln (er (xC (.inl rfl) results72 (v:=r2.v) (by kernel_rfl) (v':=(vi 0)) (by kernel_rfl) ⟨r2,0,rfl,h⟩))))))
def m_W1_l1 (b2:Sl) (n2:Int) (wl1:World) (Kc1:Sl→Int→WP) (K:Sl→WP):Prop :=Br (decide (n2≥128)) (∃z1:Int,(Go.binOp .or 5 (.int .u8 (IntKind.u8.wrap n2)) (.int .u8 128)).run prog wl1=.ok (.int .u8 z1) wl1∧∀p1 w2,New wl1 (.cells #[(.int .u8 z1)] 5) p1 w2→∃s1:Sl,∃w3:World,(Builtin.append_ #[54,54] 54 #[b2.v,(Sl.mk (some p1) 1 1).v]).run prog w2=.ok s1.v w3∧∃z2,(Go.binOp .shr 26 (vu n2) (vu 7)).run prog w3=.ok (vu z2) w3∧Kc1 s1 z2 w3) (∀p2 w4,New wl1 (.cells #[(.int .u8 (IntKind.u8.wrap n2))] 5) p2 w4→∃s2:Sl,∃w5:World,(Builtin.append_ #[54,54] 54 #[b2.v,(Sl.mk (some p2) 1 1).v]).run prog w4=.ok s2.v w5∧K s2 w5)
def m_W1 (b1:Sl) (n1:Int) (w0:World) (K:Sl→WP):Prop :=Calls prog 211 #[b1.v] w0 (fun e w1=>∃r1:Sl,e=.returned r1.v∧∃(I1:Sl→Int→WP) (mu1:Sl→Int→World→Nat),I1 r1 n1 w1∧∀(b2:Sl) (n2:Int) (wl1:World),I1 b2 n2 wl1→m_W1_l1 b2 n2 wl1 (fun y'0 y'1 w'=>I1 y'0 y'1 w'∧mu1 y'0 y'1 w'<mu1 b2 n2 wl1) K)
theorem w_W1 (b1 n1 w0 K) (h:m_W1 b1 n1 w0 K):
  Calls prog 183 #[b1.v,(vu n1)] w0 (fun e w'=>∃r2:Sl,e=.returned r2.v∧K r2 w'):=by
 refine cw (args:=[b1.v,(vu n1)]) func183 ntmps183 (eg (q0 Sl.nil.v (ln (eg (q0 b1.v ?_)))))
 refine sc call211 (h.mono fun e w1 ⟨r1,k,h⟩=>⟨_,k,?_⟩)
 refine q (ln (zB (zL ?_)))
 obtain ⟨I1,mu1,h0,hr⟩:=h
 refine vU (σ:=Sl×Int×World) (fun s ρ w=>w=s.2.2∧Has ρ [(0,s.1.v),(1,(vu s.2.1))]∧I1 s.1 s.2.1 s.2.2) (fun s=>mu1 s.1 s.2.1 s.2.2) (r1,n1,w1) ⟨rfl,hm,h0⟩ ?_
 rintro ⟨b2,n2,wl1⟩ ρ w ⟨hw,hH,hI⟩
 dsimp only at hw hH;subst w
 have h:=hr b2 n2 wl1 hI
 refine zQ hH (zB (eg (qb (ln (cbr h ?_ ?_)))))<;>intro h
 refine zD (zN (zL (eg (qc ?_))))
 obtain ⟨z1,hv3,h⟩:=h
 refine q2 (.int .u8 z1) (qN (by kernel_rfl) (by kernel_rfl) (by kernel_rfl) hv3) (nw4 (fun p=>(Sl.mk (some p) 1 1).v) h fun p1 w2 h=>?_)
 obtain ⟨s1,w3,hv2,h⟩:=h
 refine st (v:=s1.v) (zJ rfl) (vC (args:=#[b2.v,(Sl.mk (some p1) 1 1).v]) (by kernel_rfl) (fun _=>rfl) hv2) (q0 s1.v (ln (rg (q0 (vu n2) ?_))))
 obtain ⟨z2,hv1,h⟩:=h
 refine q2 (vu z2) (qN (by kernel_rfl) (by kernel_rfl) (by kernel_rfl) hv1) (q (zC (xE (zN ⟨(s1,z2,w3),⟨rfl,hm,h.1⟩,h.2⟩))))
 refine vQ (xG (xG (xA (zN (eg (q0 b2.v (q0 (vu n2) (q0 (.int .u8 (IntKind.u8.wrap n2)) (yX (O:=(.cells #[(.int .u8 (IntKind.u8.wrap n2))] 5)) (fun p=>(Sl.mk (some p) 1 1).v) (zJ rfl) (vD (vs:=#[(0,(.int .u8 (IntKind.u8.wrap n2)))]) (by kernel_rfl) (by kernel_rfl)) ?_)))))))))
 intro p2 w4 hn2
 have h:=h p2 w4 hn2
 obtain ⟨s2,w5,hv4,h⟩:=h
 refine st (v:=s2.v) (zJ rfl) (vC (args:=#[b2.v,(Sl.mk (some p2) 1 1).v]) (by kernel_rfl) (fun _=>rfl) hv4) (q0 s2.v (ln (er (rs1 results183 ⟨s2,rfl,h⟩))))
def m_K4 (b1:Sl) (aB aA:Int) (aC aE:Int) (aF:ByteArray) (aG aH:Int) (x1:Option Nat) (w0:World) (K:Sl→WP):Prop :=∀H1 w1,Hst w0 None w0 H1 w1→Calls prog 183 #[b1.v,(vu (IntKind.u64.wrap aA))] w1 (fun e w2=>∃r1:Sl,e=.returned r1.v∧Kept H1 w1 w2∧K r1 w2)
theorem w_K4 (b1 aB aA aC aE aF aG aH x1 w0 K) (h:m_K4 b1 aB aA aC aE aF aG aH x1 w0 K):
  Calls prog 182 #[b1.v,(.agg #[(vi aB),(vi aA),(vi aC),(vu aE),(vs aF),(vi aG),(vi aH)]),(.map x1)] w0 (fun e w'=>∃r2:Sl,e=.returned r2.v∧K r2 w'):=by
 refine cw (args:=[b1.v,(Ae aB aA aC aE aF aG aH),(.map x1)]) func182 ntmps182 ?_
 obtain ⟨hs,hb⟩:=st0 w0
 refine eg (nw3 (Ac aB aA aC aE aF aG aH) 103 hs hb xb fun p1 w1 H1 hs hb=>q (ln (eg (qb (q3 (xl (isAgg3 _) (hb.d 0 1 gZ)) (q ?_))))))
 have ⟨h,hs⟩:=hs.hr (h H1 w1)
 refine sc call183 (h.mono fun e w2 ⟨r1,k,hk,h⟩=>have ⟨hs,hb⟩:=hk.hh hs hb;⟨_,k,?_⟩)
 refine q (ln (er (rs1 results182 ⟨r1,rfl,h⟩)))
def m_L4 (r1:Option Addr) (w0:World) (K:Int→WP):Prop :=∀p1 w1,New w0 (.cells #[(vp r1)] 230) p1 w1→∀p2 w2,New w1 (.cells #[(vu 0)] 26) p2 w2→∃v1,w2.cell? p1=some (vp v1)∧Calls prog 227 #[(vp v1),(.func (.func 228) #[] #[(vp (some p1)),(vp (some p2))])] w2 (fun e w3=>e=.returned (.tuple #[])∧∃v2,w3.cell? p2=some (vu v2)∧zT w3 p2∧∀w4,w4=w3.setCell p2 (vu v2)→∃aK,w4.cell? p2=some (vu aK)∧K aK w4)
theorem w_L4 (r1 w0 K) (h:m_L4 r1 w0 K):
  Calls prog 185 #[(vp r1)] w0 (fun e w'=>∃r2,e=.returned (vu r2)∧K r2 w'):=by
 refine cw (args:=[(vp r1)]) func185 ntmps185 (eg (sn (O:=(.cells #[(vp r1)] 230)) xb ?_))
 intro p1 w1 hn3
 have h:=h p1 w1 hn3
 refine nw1 h (zI (zeroValue26 _) rfl) fun p2 w2 h=>ln (eg (ql (isAgg230 _) h fun v1 h=>q (sc call227 (h.mono fun e w3 ⟨k,h⟩=>⟨_,k,?_⟩))))
 refine ln (eg (ql (isAgg26 _) h fun v2 h=>st1 (sizeOf26 _) h fun w4 h=>ln (er ?_)))
 obtain ⟨aK,hv1,h⟩:=h
 refine gg1 results185 (RV.cell1 (A:=p2) (by kernel_rfl) (isAgg26 _) hv1) ⟨aK,rfl,h⟩
def m_M4 (r1:Option Addr) (n1:Option Addr) (w0:World) (K:WP):Prop :=Calls prog 185 #[(vp r1)] w0 (fun e w1=>∃r2,e=.returned (vu r2)∧∃a1,n1=some a1∧zT w1 (a1.add 7)∧∀w2,w2=w1.setCell (a1.add 7) (vu r2)→K w2)
theorem w_M4 (r1 n1 w0 K) (h:m_M4 r1 n1 w0 K):
  Calls prog 184 #[(vp r1),(vp n1)] w0 (fun e w'=>e=.returned (.tuple #[])∧K  w'):=by
 refine cw (args:=[(vp r1),(vp n1)]) func184 ntmps184 (rg (q0 (vp n1) (q0 (vp r1) ?_)))
 refine sc call185 (h.mono fun e w1 ⟨r2,k,h⟩=>⟨_,k,?_⟩)
 refine qm h fun a1 h=>q (st1 (sizeOf26 _) h fun w2 h=>zC (jFH (.inr rfl) results184 ⟨rfl,h⟩))
def m_N4 (b1:Sl) (aB aA:Int) (aC aE:Int) (aF:ByteArray) (aG aH:Int) (x1:Option Nat) (w0:World) (K:Sl→WP):Prop :=∀H1 w1,Hst w0 None w0 H1 w1→Calls prog 183 #[b1.v,(vu (IntKind.u64.wrap aC))] w1 (fun e w2=>∃r1:Sl,e=.returned r1.v∧Kept H1 w1 w2∧K r1 w2)
theorem w_N4 (b1 aB aA aC aE aF aG aH x1 w0 K) (h:m_N4 b1 aB aA aC aE aF aG aH x1 w0 K):
  Calls prog 186 #[b1.v,(.agg #[(vi aB),(vi aA),(vi aC),(vu aE),(vs aF),(vi aG),(vi aH)]),(.map x1)] w0 (fun e w'=>∃r2:Sl,e=.returned r2.v∧K r2 w'):=by
 refine cw (args:=[b1.v,(Ae aB aA aC aE aF aG aH),(.map x1)]) func186 ntmps186 ?_
 obtain ⟨hs,hb⟩:=st0 w0
 refine eg (nw3 (Ac aB aA aC aE aF aG aH) 103 hs hb xb fun p1 w1 H1 hs hb=>q (ln (eg (qb (q3 (xl (isAgg3 _) (hb.d 0 2 gZ)) (q ?_))))))
 have ⟨h,hs⟩:=hs.hr (h H1 w1)
 refine sc call183 (h.mono fun e w2 ⟨r1,k,hk,h⟩=>have ⟨hs,hb⟩:=hk.hh hs hb;⟨_,k,?_⟩)
 refine q (ln (er (rs1 results186 ⟨r1,rfl,h⟩)))
def m_O4 (r1:Option Addr) (n1:Option Addr) (w0:World) (K:WP):Prop :=Calls prog 185 #[(vp r1)] w0 (fun e w1=>∃r2,e=.returned (vu r2)∧∃a1,n1=some a1∧zT w1 (a1.add 8)∧∀w2,w2=w1.setCell (a1.add 8) (vu r2)→K w2)
theorem w_O4 (r1 n1 w0 K) (h:m_O4 r1 n1 w0 K):
  Calls prog 187 #[(vp r1),(vp n1)] w0 (fun e w'=>e=.returned (.tuple #[])∧K  w'):=by
 refine cw (args:=[(vp r1),(vp n1)]) func187 ntmps187 (rg (q0 (vp n1) (q0 (vp r1) ?_)))
 refine sc call185 (h.mono fun e w1 ⟨r2,k,h⟩=>⟨_,k,?_⟩)
 refine qm h fun a1 h=>q (st1 (sizeOf26 _) h fun w2 h=>zC (jFH (.inr rfl) results187 ⟨rfl,h⟩))
def m_P4 (b1:Sl) (aB aA:Int) (aC aE:Int) (aF:ByteArray) (aG aH:Int) (x1:Option Nat) (w0:World) (K:Sl→WP):Prop :=∀H1 w1,Hst w0 None w0 H1 w1→Calls prog 183 #[b1.v,(vu aE)] w1 (fun e w2=>∃r1:Sl,e=.returned r1.v∧Kept H1 w1 w2∧K r1 w2)
theorem w_P4 (b1 aB aA aC aE aF aG aH x1 w0 K) (h:m_P4 b1 aB aA aC aE aF aG aH x1 w0 K):
  Calls prog 188 #[b1.v,(.agg #[(vi aB),(vi aA),(vi aC),(vu aE),(vs aF),(vi aG),(vi aH)]),(.map x1)] w0 (fun e w'=>∃r2:Sl,e=.returned r2.v∧K r2 w'):=by
 refine cw (args:=[b1.v,(Ae aB aA aC aE aF aG aH),(.map x1)]) func188 ntmps188 ?_
 obtain ⟨hs,hb⟩:=st0 w0
 refine eg (nw3 (Ac aB aA aC aE aF aG aH) 103 hs hb xb fun p1 w1 H1 hs hb=>q (ln (eg (qb (q3 (xl (isAgg26 _) (hb.d 0 3 gZ)) ?_)))))
 have ⟨h,hs⟩:=hs.hr (h H1 w1)
 refine sc call183 (h.mono fun e w2 ⟨r1,k,hk,h⟩=>have ⟨hs,hb⟩:=hk.hh hs hb;⟨_,k,?_⟩)
 refine q (ln (er (rs1 results188 ⟨r1,rfl,h⟩)))
def m_Q4 (r1:Option Addr) (n1:Option Addr) (w0:World) (K:WP):Prop :=Calls prog 185 #[(vp r1)] w0 (fun e w1=>∃r2,e=.returned (vu r2)∧∃a1,n1=some a1∧zT w1 (a1.add 3)∧∀w2,w2=w1.setCell (a1.add 3) (vu r2)→K w2)
theorem w_Q4 (r1 n1 w0 K) (h:m_Q4 r1 n1 w0 K):
  Calls prog 189 #[(vp r1),(vp n1)] w0 (fun e w'=>e=.returned (.tuple #[])∧K  w'):=by
 refine cw (args:=[(vp r1),(vp n1)]) func189 ntmps189 (rg (q0 (vp n1) (q0 (vp r1) ?_)))
 refine sc call185 (h.mono fun e w1 ⟨r2,k,h⟩=>⟨_,k,?_⟩)
 refine qm h fun a1 h=>qb (st1 (sizeOf26 _) h fun w2 h=>zC (jFH (.inr rfl) results189 ⟨rfl,h⟩))
def m_R4 (b1:Sl) (s1:ByteArray) (w0:World) (K:Sl→WP):Prop :=Calls prog 183 #[b1.v,(vu (IntKind.u64.wrap (s1.size:Int)))] w0 (fun e w1=>∃r1:Sl,e=.returned r1.v∧∃s2:Sl,∃w2:World,(Builtin.append_ #[54,9] 54 #[r1.v,(vs s1)]).run prog w1=.ok s2.v w2∧K s2 w2)
theorem w_R4 (b1 s1 w0 K) (h:m_R4 b1 s1 w0 K):
  Calls prog 191 #[b1.v,(vs s1)] w0 (fun e w'=>∃r2:Sl,e=.returned r2.v∧K r2 w'):=by
 refine cw (args:=[b1.v,(vs s1)]) func191 ntmps191 (eg (q0 Sl.nil.v (ln (eg (q0 b1.v (q0 (vs s1) (q0 (vi (s1.size:Int)) (q0 (vu (IntKind.u64.wrap (s1.size:Int))) ?_))))))))
 refine sc call183 (h.mono fun e w1 ⟨r1,k,h⟩=>⟨_,k,?_⟩)
 refine q ?_
 obtain ⟨s2,w2,hv1,h⟩:=h
 refine st (v:=s2.v) (zJ rfl) (vC (args:=#[r1.v,(vs s1)]) (by kernel_rfl) (fun _=>rfl) hv1) (q0 s2.v (ln (er (rs1 results191 ⟨s2,rfl,h⟩))))
def m_S4 (b1:Sl) (aB aA:Int) (aC aE:Int) (aF:ByteArray) (aG aH:Int) (x1:Option Nat) (w0:World) (K:Sl→WP):Prop :=∀H1 w1,Hst w0 None w0 H1 w1→Calls prog 191 #[b1.v,(vs aF)] w1 (fun e w2=>∃r1:Sl,e=.returned r1.v∧Kept H1 w1 w2∧K r1 w2)
theorem w_S4 (b1 aB aA aC aE aF aG aH x1 w0 K) (h:m_S4 b1 aB aA aC aE aF aG aH x1 w0 K):
  Calls prog 190 #[b1.v,(.agg #[(vi aB),(vi aA),(vi aC),(vu aE),(vs aF),(vi aG),(vi aH)]),(.map x1)] w0 (fun e w'=>∃r2:Sl,e=.returned r2.v∧K r2 w'):=by
 refine cw (args:=[b1.v,(Ae aB aA aC aE aF aG aH),(.map x1)]) func190 ntmps190 ?_
 obtain ⟨hs,hb⟩:=st0 w0
 refine eg (nw3 (Ac aB aA aC aE aF aG aH) 103 hs hb xb fun p1 w1 H1 hs hb=>q (ln (eg (qb (q3 (xl (isAgg9 _) (hb.d 0 4 gZ)) ?_)))))
 have ⟨h,hs⟩:=hs.hr (h H1 w1)
 refine sc call191 (h.mono fun e w2 ⟨r1,k,hk,h⟩=>have ⟨hs,hb⟩:=hk.hh hs hb;⟨_,k,?_⟩)
 refine q (ln (er (rs1 results190 ⟨r1,rfl,h⟩)))
def m_T4 (r1:Option Addr) (most1:Int) (w0:World) (K:ByteArray→WP):Prop :=∀p1 w1,New w0 (.cells #[(vp r1)] 230) p1 w1→∀p2 w2,New w1 (.cells #[(vi most1)] 3) p2 w2→∀p3 w3,New w2 (.cells #[ve] 9) p3 w3→∃v1,w3.cell? p1=some (vp v1)∧Calls prog 227 #[(vp v1),(.func (.func 230) #[] #[(vp (some p1)),(vp (some p2)),(vp (some p3))])] w3 (fun e w4=>e=.returned (.tuple #[])∧∃v2,w4.cell? p3=some (vs v2)∧zT w4 p3∧∀w5,w5=w4.setCell p3 (vs v2)→∃aK,w5.cell? p3=some (vs aK)∧K aK w5)
theorem w_T4 (r1 most1 w0 K) (h:m_T4 r1 most1 w0 K):
  Calls prog 193 #[(vp r1),(vi most1)] w0 (fun e w'=>∃r2,e=.returned (vs r2)∧K r2 w'):=by
 refine cw (args:=[(vp r1),(vi most1)]) func193 ntmps193 (eg (sn (O:=(.cells #[(vp r1)] 230)) xb ?_))
 intro p1 w1 hn4
 have h:=h p1 w1 hn4
 refine nw1 h xb fun p2 w2 h=>nw1 h (zI (zeroValue9 _) rfl) fun p3 w3 h=>ln (eg (ql (isAgg230 _) h fun v1 h=>q (sc call227 (h.mono fun e w4 ⟨k,h⟩=>⟨_,k,?_⟩))))
 refine ln (eg (ql (isAgg9 _) h fun v2 h=>st1 (sizeOf9 _) h fun w5 h=>ln (er ?_)))
 obtain ⟨aK,hv1,h⟩:=h
 refine gg1 results193 (RV.cell1 (A:=p3) (by kernel_rfl) (isAgg9 _) hv1) ⟨aK,rfl,h⟩
def m_U4 (r1:Option Addr) (n1:Option Addr) (w0:World) (K:WP):Prop :=Calls prog 193 #[(vp r1),(vi 64)] w0 (fun e w1=>∃r2,e=.returned (vs r2)∧∃a1,n1=some a1∧zT w1 (a1.add 4)∧∀w2,w2=w1.setCell (a1.add 4) (vs r2)→K w2)
theorem w_U4 (r1 n1 w0 K) (h:m_U4 r1 n1 w0 K):
  Calls prog 192 #[(vp r1),(vp n1)] w0 (fun e w'=>e=.returned (.tuple #[])∧K  w'):=by
 refine cw (args:=[(vp r1),(vp n1)]) func192 ntmps192 (rg (q0 (vp n1) (q0 (vp r1) ?_)))
 refine sc call193 (h.mono fun e w1 ⟨r2,k,h⟩=>⟨_,k,?_⟩)
 refine qm h fun a1 h=>qb (st1 (sizeOf9 _) h fun w2 h=>zC (jFH (.inr rfl) results192 ⟨rfl,h⟩))
def m_V4 (b1:Sl) (aB aA:Int) (aC aE:Int) (aF:ByteArray) (aG aH:Int) (number1:Option Nat) (w0:World) (K:Sl→WP):Prop :=∀H1 w1,Hst w0 None w0 H1 w1→∃v1,(Instr.lookup 205 (.map number1) (vi aG) false).run prog w1=.ok (vi v1) w1∧Calls prog 183 #[b1.v,(vu (IntKind.u64.wrap v1))] w1 (fun e w2=>∃r1:Sl,e=.returned r1.v∧Kept H1 w1 w2∧K r1 w2)
theorem w_V4 (b1 aB aA aC aE aF aG aH number1 w0 K) (h:m_V4 b1 aB aA aC aE aF aG aH number1 w0 K):
  Calls prog 194 #[b1.v,(.agg #[(vi aB),(vi aA),(vi aC),(vu aE),(vs aF),(vi aG),(vi aH)]),(.map number1)] w0 (fun e w'=>∃r2:Sl,e=.returned r2.v∧K r2 w'):=by
 refine cw (args:=[b1.v,(Ae aB aA aC aE aF aG aH),(.map number1)]) func194 ntmps194 ?_
 obtain ⟨hs,hb⟩:=st0 w0
 refine eg (nw3 (Ac aB aA aC aE aF aG aH) 103 hs hb xb fun p1 w1 H1 hs hb=>q (ln (eg (qc (q3 (xl (isAgg23 _) (hb.d 0 5 gZ)) ?_)))))
 have ⟨h,hs⟩:=hs.hr (h H1 w1)
 obtain ⟨v1,hv1,h⟩:=h
 refine q2 (vi v1) (yU (by kernel_rfl) (by kernel_rfl) hv1) (q (sc call183 (h.mono fun e w2 ⟨r1,k,hk,h⟩=>have ⟨hs,hb⟩:=hk.hh hs hb;⟨_,k,?_⟩)))
 refine q (ln (er (rs1 results194 ⟨r1,rfl,h⟩)))
def m_W4 (r1:Option Addr) (n1:Option Addr) (w0:World) (K:WP):Prop :=Calls prog 185 #[(vp r1)] w0 (fun e w1=>∃r2,e=.returned (vu r2)∧∃a1,n1=some a1∧zT w1 (a1.add 9)∧∀w2,w2=w1.setCell (a1.add 9) (vu r2)→∃a2,n1=some a2∧zT w2 (a2.add 11)∧∀w3,w3=w2.setCell (a2.add 11) (vi 1)→K w3)
theorem w_W4 (r1 n1 w0 K) (h:m_W4 r1 n1 w0 K):
  Calls prog 195 #[(vp r1),(vp n1)] w0 (fun e w'=>e=.returned (.tuple #[])∧K  w'):=by
 refine cw (args:=[(vp r1),(vp n1)]) func195 ntmps195 (rg (q0 (vp n1) (q0 (vp n1) (q0 (vp r1) ?_))))
 refine sc call185 (h.mono fun e w1 ⟨r2,k,h⟩=>⟨_,k,?_⟩)
 refine qm h fun a1 h=>q (st1 (sizeOf26 _) h fun w2 h=>qm h fun a2 h=>q (st1 (sizeOf3 _) h fun w3 h=>zC (jFH (.inr rfl) results195 ⟨rfl,h⟩)))
def m_X4 (b1:Sl) (aB aA:Int) (aC aE:Int) (aF:ByteArray) (aG aH:Int) (number1:Option Nat) (w0:World) (K:Sl→WP):Prop :=∀H1 w1,Hst w0 None w0 H1 w1→∃v1,(Instr.lookup 205 (.map number1) (vi aH) false).run prog w1=.ok (vi v1) w1∧Calls prog 183 #[b1.v,(vu (IntKind.u64.wrap v1))] w1 (fun e w2=>∃r1:Sl,e=.returned r1.v∧Kept H1 w1 w2∧K r1 w2)
theorem w_X4 (b1 aB aA aC aE aF aG aH number1 w0 K) (h:m_X4 b1 aB aA aC aE aF aG aH number1 w0 K):
  Calls prog 196 #[b1.v,(.agg #[(vi aB),(vi aA),(vi aC),(vu aE),(vs aF),(vi aG),(vi aH)]),(.map number1)] w0 (fun e w'=>∃r2:Sl,e=.returned r2.v∧K r2 w'):=by
 refine cw (args:=[b1.v,(Ae aB aA aC aE aF aG aH),(.map number1)]) func196 ntmps196 ?_
 obtain ⟨hs,hb⟩:=st0 w0
 refine eg (nw3 (Ac aB aA aC aE aF aG aH) 103 hs hb xb fun p1 w1 H1 hs hb=>q (ln (eg (qc (q3 (xl (isAgg23 _) (hb.d 0 6 gZ)) ?_)))))
 have ⟨h,hs⟩:=hs.hr (h H1 w1)
 obtain ⟨v1,hv1,h⟩:=h
 refine q2 (vi v1) (yU (by kernel_rfl) (by kernel_rfl) hv1) (q (sc call183 (h.mono fun e w2 ⟨r1,k,hk,h⟩=>have ⟨hs,hb⟩:=hk.hh hs hb;⟨_,k,?_⟩)))
 refine q (ln (er (rs1 results196 ⟨r1,rfl,h⟩)))
def m_Y4 (r1:Option Addr) (n1:Option Addr) (w0:World) (K:WP):Prop :=Calls prog 185 #[(vp r1)] w0 (fun e w1=>∃r2,e=.returned (vu r2)∧∃a1,n1=some a1∧zT w1 (a1.add 10)∧∀w2,w2=w1.setCell (a1.add 10) (vu r2)→∃a2,n1=some a2∧zT w2 (a2.add 11)∧∀w3,w3=w2.setCell (a2.add 11) (vi 2)→K w3)
theorem w_Y4 (r1 n1 w0 K) (h:m_Y4 r1 n1 w0 K):
  Calls prog 197 #[(vp r1),(vp n1)] w0 (fun e w'=>e=.returned (.tuple #[])∧K  w'):=by
 refine cw (args:=[(vp r1),(vp n1)]) func197 ntmps197 (rg (q0 (vp n1) (q0 (vp n1) (q0 (vp r1) ?_))))
 refine sc call185 (h.mono fun e w1 ⟨r2,k,h⟩=>⟨_,k,?_⟩)
 refine qm h fun a1 h=>q (st1 (sizeOf26 _) h fun w2 h=>qm h fun a2 h=>q (st1 (sizeOf3 _) h fun w3 h=>zC (jFH (.inr rfl) results197 ⟨rfl,h⟩)))
def m_Q1_j1 (r1:Option Addr) (w0:World) (H:NP) (w:World) (K:Option (List PanicEntry)→Int→WP):Prop :=∃a3,r1=some a3∧∃v3,w.cell? (a3.add 1)=some (vi v3)∧∃a4,r1=some a4∧zT w (a4.add 1)∧¬ H (a4.add 1).block∧∀w2,w2=w.setCell (a4.add 1) (vi (q6.wrap (v3+1)))→∃a5,r1=some a5∧∀w3,Hst w0 H w2 H w3→∃v4:Sl,w3.cell? a5=some v4.v∧∃a6,r1=some a6∧∃v5,w3.cell? (a6.add 1)=some (vi v5)∧∃a7:Addr,At v4 (q6.wrap (v5 - 1)) 1 a7∧∃v6:Int,w3.cell? a7=some (.int .u8 v6)∧K none v6 w3
def m_Q1 (r1:Option Addr) (w0:World) (K:Option (List PanicEntry)→Int→WP):Prop :=∃a1,r1=some a1∧∀w1,Hst w0 None w0 None w1→∃v1,w1.cell? (a1.add 1)=some (vi v1)∧∃a2,r1=some a2∧∃v2:Sl,w1.cell? a2=some v2.v∧Br (v1 == (v2.len:Int)) (K (some [{ v:=(.iface 274 (vi 3)),recovered:=false }]) 0 w1) (m_Q1_j1 r1 w0 None w1 K)
theorem w_Q1 (r1 w0 K) (h:m_Q1 r1 w0 K):
  Calls prog 241 #[(vp r1)] w0 (fun e w'=>(∃r2:Int,e=.returned (.int .u8 r2)∧K none r2 w')∨∃ch,e=.panicked ch∧K (some ch) 0 w'):=by
 refine uB (args:=[(vp r1)]) func241 rfl ntmps241 (Nat.le_of_ble_eq_true rfl) ?_
 obtain ⟨hs,hb⟩:=st0 w0
 refine eg (q (ln (zB (zB (qC (by kernel_rfl) (by kernel_rfl) (by kernel_rfl) (by kernel_rfl) ?_)))))
 intro w1 hw1
 have hs:Hst w0 None w0 None w1:=by rw [hw1];exact hs.drew
 have hb:HB None w1 []:=by rw [hw1];exact hb.drew
 refine qq 0 (vp r1) Kp0 (qg 1 ?_)
 obtain ⟨a1,hp1,h⟩:=h
 refine sxQ Kp1 (zJ rfl) rfl (xn hp1) (qq 2 (vp (some (a1.add 1))) Kp2 (qg 3 ?_))
 have ⟨h,hs⟩:=hs.hr (h w1)
 obtain ⟨v1,hv7,h⟩:=h
 refine sxQ Kp3 (zJ rfl) rfl (xl (isAgg3 _) hv7) (qq 4 (vp r1) Kp4 (qg 5 ?_))
 obtain ⟨a2,hp2,h⟩:=h
 refine sxQ Kp5 (zJ rfl) rfl (xn hp2) (qq 6 (vp (some a2)) Kp6 (qg 7 ?_))
 obtain ⟨v2,hv6,h⟩:=h
 refine sxQ Kp7 (zJ rfl) rfl (xl (isAgg54 _) hv6) (qq 8 (vi (v2.len:Int)) Kp8 (qq 9 (vb (v1 == (v2.len:Int))) Kp9 (wn (zN (zY (fun ρ w=>∃H:NP,Has ρ [(0,(vp r1))]∧Hst w0 H w H w∧HB H w []∧m_Q1_j1 r1 w0 H w K) ?_ ?_)))))
 rintro ρ w ⟨H,hH,hs,hb,h⟩
 refine zQ hH (eg (q (qm h fun a3 h=>q (ql (isAgg3 _) h fun v3 h=>q (qm h fun a4 h=>q (st2 (sizeOf3 _) hs hb h fun w2 hs hb h=>ln (zB (qC (by kernel_rfl) (by kernel_rfl) (by kernel_rfl) (by kernel_rfl) ?_))))))))
 intro w3 hw3
 have hs:Hst w0 H w2 H w3:=by rw [hw3];exact hs.drew
 have hb:HB H w3 []:=by rw [hw3];exact hb.drew
 refine qq 0 (vp r1) Kp0 (qg 1 ?_)
 obtain ⟨a5,hp6,h⟩:=h
 refine sxQ Kp1 (zJ rfl) rfl (xn hp6) (qq 2 (vp (some a5)) Kp2 (qg 3 ?_))
 have ⟨h,hs⟩:=hs.hr (h w3)
 obtain ⟨v4,hv4,h⟩:=h
 refine sxQ Kp3 (zJ rfl) rfl (xl (isAgg54 _) hv4) (qq 4 (vp r1) Kp4 (qg 5 ?_))
 obtain ⟨a6,hp7,h⟩:=h
 refine sxQ Kp5 (zJ rfl) rfl (xn hp7) (qq 6 (vp (some (a6.add 1))) Kp6 (qg 7 ?_))
 obtain ⟨v5,hv3,h⟩:=h
 refine sxQ Kp7 (zJ rfl) rfl (xl (isAgg3 _) hv3) (qq 8 (vi (q6.wrap (v5 - 1))) Kp8 (qg 9 ?_))
 obtain ⟨a7,hv2,h⟩:=h
 refine sxQ Kp9 (zJ rfl) rfl (xi (runUnderlying54 _) (sizeOf5 _) hv2) (qg 10 ?_)
 obtain ⟨v6,hv1,h⟩:=h
 refine sxQ (zG (S8 (zA (zA zF)))) (zJ rfl) rfl (xl (isAgg5 _) hv1) (qq 11 (.int .u8 v6) (zG (S8 (zA (zA (zA zF))))) (wn (zN (er (ep (rs1 results241 (v:=(.int .u8 v6)) ?_))))))
 exact .inl ⟨v6,rfl,h⟩
 refine cbr h ?_ ?_<;>intro h
 refine qJ (by kernel_rfl) (qB 1 (q0 (.iface 274 (vi 3)) (zC (jBF (zJ rfl) (by intro c hc;cases hc) (jDI (by kernel_rfl)) (fun ρ'=>.inr ⟨_,rfl,h⟩)))))
 refine zD (zN ⟨None,hm,hs,hb,h⟩)
def m_Z_j2 (n1 i1 r2:Int) (w:World) (Kc1:Int→Int→WP) (K:Option (List PanicEntry)→Int→WP):Prop :=∃z1:Int,(Go.binOp .and 5 (.int .u8 r2) (.int .u8 127)).run prog w=.ok (.int .u8 z1) w∧∃z2,(Go.binOp .shl 26 (vu (IntKind.u64.wrap z1)) (vi (q6.wrap (7*i1)))).run prog w=.ok (vu z2) w∧∃z3,(Go.binOp .or 26 (vu n1) (vu z2)).run prog w=.ok (vu z3) w∧Br (decide (r2<128)) (Br ((r2 == 0) && (decide (i1>0))) (K (some [{ v:=(.iface 274 (vi 10)),recovered:=false }]) 0 w) (K none z3 w)) (Kc1 z3 (q6.wrap (i1+1)) w)
def m_Z_l1 (r1:Option Addr) (n1 i1:Int) (wl1:World) (Kc1:Int→Int→WP) (K:Option (List PanicEntry)→Int→WP):Prop :=Calls prog 241 #[(vp r1)] wl1 (fun e w1=>(∃r2:Int,e=.returned (.int .u8 r2)∧Br ((i1 == 9) && (decide (r2>1))) (K (some [{ v:=(.iface 274 (vi 11)),recovered:=false }]) 0 w1) (m_Z_j2 n1 i1 r2 w1 Kc1 K))∨∃ch,e=.panicked ch∧K (some ch) 0 w1)
def m_Z (r1:Option Addr) (w0:World) (K:Option (List PanicEntry)→Int→WP):Prop :=∃(I1:Int→Int→WP) (mu1:Int→Int→World→Nat),I1 0 0 w0∧∀(n1 i1:Int) (wl1:World),I1 n1 i1 wl1→m_Z_l1 r1 n1 i1 wl1 (fun y'0 y'1 w'=>I1 y'0 y'1 w'∧mu1 y'0 y'1 w'<mu1 n1 i1 wl1) K
theorem w_Z (r1 w0 K) (h:m_Z r1 w0 K):
  Calls prog 229 #[(vp r1)] w0 (fun e w'=>(∃r3,e=.returned (vu r3)∧K none r3 w')∨∃ch,e=.panicked ch∧K (some ch) 0 w'):=by
 refine uB (args:=[(vp r1)]) func229 rfl ntmps229 (Nat.le_of_ble_eq_true rfl) (eg (q0 (vu 0) (ln (eg (q0 (vu 0) (ln (zB (rg (q (ln (zL ?_)))))))))))
 obtain ⟨I1,mu1,h0,hr⟩:=h
 refine vU (σ:=Int×Int×World) (fun s ρ w=>w=s.2.2∧Has ρ [(0,(vp r1)),(3,(vu s.1)),(4,(vi s.2.1))]∧I1 s.1 s.2.1 s.2.2) (fun s=>mu1 s.1 s.2.1 s.2.2) (0,0,w0) ⟨rfl,hm,h0⟩ ?_
 rintro ⟨n1,i1,wl1⟩ ρ w ⟨hw,hH,hI⟩
 dsimp only at hw hH;subst w
 have h:=hr n1 i1 wl1 hI
 refine zQ hH (zB (zL (zB (qJ (by kernel_rfl) (qB 1 (q0 (vp r1) (zC (jDS (zJ rfl) (by intro c hc;cases hc) (xc call241) (h.mono ?_)))))))))
 rintro e w1 (⟨r2,rfl,h⟩ | ⟨ch,rfl,h⟩)
 rotate_left
 exact .inr ⟨ch,rfl,fun ρ'=>.inr ⟨ch,rfl,h⟩⟩
 refine .inl ⟨_,rfl,?_⟩
 refine jBA (q0 (.int .u8 r2) (ln (zB (zB (vJ (fun ρ wJ=>∃b1'0:Bool,((i1 == 9)=b1'0)∧w1=wJ∧Has ρ [(0,(vp r1)),(3,(vu n1)),(4,(vi i1)),(5,(.int .u8 r2)),(15,(vb (b1'0 && (decide (r2>1)))))]) ?_ ?_)))))
 refine rg (qc ?_)
 rcases bte (i1 == 9) with hg2 | hg2
 refine qk 12 hg2 (qk 12 hg2 (q2 (vb (decide (r2>1))) (xT hg2) (ln ⟨true,hg2,rfl,hm⟩)))
 refine sj2 12 hg2 (q2 (vb false) (xF hg2) (ln ⟨false,hg2,rfl,hm⟩))
 rintro ρ w2 ⟨b1'0,he0,hw,hH⟩
 subst he0
 subst hw
 refine zW hH (zN (zY (fun ρ w=>Has ρ [(0,(vp r1)),(3,(vu n1)),(4,(vi i1)),(5,(.int .u8 r2))]∧m_Z_j2 n1 i1 r2 w (fun y'0 y'1 w'=>I1 y'0 y'1 w'∧mu1 y'0 y'1 w'<mu1 n1 i1 wl1) K) ?_ ?_))
 rintro ρ w ⟨hH,h⟩
 refine zQ hH (eg (qb ?_))
 obtain ⟨z1,hv3,h⟩:=h
 refine q2 (.int .u8 z1) (qN (by kernel_rfl) (by kernel_rfl) (by kernel_rfl) hv3) (qc ?_)
 obtain ⟨z2,hv2,h⟩:=h
 refine q2 (vu z2) (qN (by kernel_rfl) (by kernel_rfl) (by kernel_rfl) hv2) ?_
 obtain ⟨z3,hv1,h⟩:=h
 refine q2 (vu z3) (qN (by kernel_rfl) (by kernel_rfl) (by kernel_rfl) hv1) (q (ln (eg (qb (ln (cbr h ?_ ?_))))))<;>intro h
 refine zB (zB (vJ (fun ρ wJ=>∃b2'0:Bool,((r2 == 0)=b2'0)∧w=wJ∧Has ρ [(3,(vu z3)),(32,(vb (b2'0 && (decide (i1>0)))))]) ?_ ?_))
 refine rg (qc ?_)
 rcases bte (r2 == 0) with hg4 | hg4
 refine qk 29 hg4 (qk 29 hg4 (q2 (vb (decide (i1>0))) (xT hg4) (ln ⟨true,hg4,rfl,hm⟩)))
 refine sj2 29 hg4 (q2 (vb false) (xF hg4) (ln ⟨false,hg4,rfl,hm⟩))
 rintro ρ w3 ⟨b2'0,he0,hw,hH⟩
 subst he0
 subst hw
 refine zW hH (zN (cbr h ?_ ?_))<;>intro h
 refine qJ (by kernel_rfl) (qB 1 (q0 (.iface 274 (vi 10)) (zC (jBF (zJ rfl) (by intro c hc;cases hc) (jDI (by kernel_rfl)) (fun ρ'=>.inr ⟨_,rfl,h⟩)))))
 refine zD (zN (eg (qb (ln (er (yC (vA (vA (yC (ep (rs1 results229 (v:=(vu z3)) ?_)))))))))))
 exact .inl ⟨z3,rfl,h⟩
 refine zD (xE (zN (rg (qc (ln ⟨(z3,(q6.wrap (i1+1)),w),⟨rfl,hm,h.1⟩,h.2⟩)))))
 refine cbr h ?_ ?_<;>intro h
 refine qJ (by kernel_rfl) (qB 1 (q0 (.iface 274 (vi 11)) (zC (jBF (zJ rfl) (by intro c hc;cases hc) (jDI (by kernel_rfl)) (fun ρ'=>.inr ⟨_,rfl,h⟩)))))
 refine zD (zN ⟨hm,h⟩)
def m_Z4 (cap1 cap2:Addr) (w0:World) (K:Option (List PanicEntry)→WP):Prop :=∃v1,w0.cell? cap1=some (vp v1)∧Calls prog 229 #[(vp v1)] w0 (fun e w1=>(∃r1,e=.returned (vu r1)∧zT w1 cap2∧∀w2,w2=w1.setCell cap2 (vu r1)→K none w2)∨∃ch,e=.panicked ch∧K (some ch)  w1)
theorem w_Z4 (cap1 cap2 w0 K) (h:m_Z4 cap1 cap2 w0 K):
  Calls prog 228 #[(vp (some cap1)),(vp (some cap2))] w0 (fun e w'=>(e=.returned (.tuple #[])∧K none  w')∨∃ch,e=.panicked ch∧K (some ch)  w'):=by
 refine uB (args:=[(vp (some cap1)),(vp (some cap2))]) func228 rfl ntmps228 (Nat.le_of_ble_eq_true rfl) (qJ (by kernel_rfl) (qB 1 (ql (isAgg230 _) h fun v1 h=>zC (jDS (zJ rfl) (by intro c hc;cases hc) (xc call229) (h.mono ?_)))))
 rintro e w1 (⟨r1,rfl,h⟩ | ⟨ch,rfl,h⟩)
 rotate_left
 exact .inr ⟨ch,rfl,fun ρ'=>.inr ⟨ch,rfl,h⟩⟩
 refine .inl ⟨_,rfl,?_⟩
 refine jBA (st1 (sizeOf26 _) h fun w2 h=>zC (ep (jFH (.inr rfl) results228 ?_)))
 exact .inl ⟨rfl,h⟩
def m_S_j3 (cap1 cap3:Addr) (r1:Int) (H:NP) (w:World) (K:Option (List PanicEntry)→WP):Prop :=∃C1:WP,C1 w.drew∧∀w3,w3=w.drew→∃v6,w3.cell? cap1=some (vp v6)∧∃a3,v6=some a3∧∃v7:Sl,w3.cell? a3=some v7.v∧∃v8,w3.cell? cap1=some (vp v8)∧∃a4,v8=some a4∧∃v9,w3.cell? (a4.add 1)=some (vi v9)∧∃v10,w3.cell? cap1=some (vp v10)∧∃a5,v10=some a5∧∃v11,w3.cell? (a5.add 1)=some (vi v11)∧∃s1:Sl,(Instr.sliceAt 54 v7.v (some (vi v9)) (some (vi (q6.wrap (v11+(q6.wrap r1))))) none).run prog w3=.ok s1.v w3∧∃c1,(convert 54 9 s1.v).run prog w3=.ok (vs c1) w3∧zT w3 cap3∧¬ H cap3.block∧∀w4,w4=w3.setCell cap3 (vs c1)→∃v12,w4.cell? cap1=some (vp v12)∧∃a6,v12=some a6∧∃v13,w4.cell? (a6.add 1)=some (vi v13)∧∃a7,v12=some a7∧zT w4 (a7.add 1)∧¬ H (a7.add 1).block∧∀w5,w5=w4.setCell (a7.add 1) (vi (q6.wrap (v13+(q6.wrap r1))))→K none w5
def m_S_j2 (cap1 cap3:Addr) (r1:Int) (w0:World) (H:NP) (w:World) (K:Option (List PanicEntry)→WP):Prop :=∀w2,Hst w0 H w H w2→∃v2,w2.cell? cap1=some (vp v2)∧∃a1,v2=some a1∧∃v3:Sl,w2.cell? a1=some v3.v∧∃v4,w2.cell? cap1=some (vp v4)∧∃a2,v4=some a2∧∃v5,w2.cell? (a2.add 1)=some (vi v5)∧Br (decide (r1>(IntKind.u64.wrap (q6.wrap ((v3.len:Int) - v5))))) (K (some [{ v:=(.iface 274 (vi 3)),recovered:=false }])  w2) (m_S_j3 cap1 cap3 r1 H w2 K)
def m_S_j1 (cap1 cap3:Addr) (r1:Int) (x1:Bool) (w0:World) (H:NP) (w:World) (K:Option (List PanicEntry)→WP):Prop :=Br x1 (K (some [{ v:=(.iface 274 (vi 1)),recovered:=false }])  w) (m_S_j2 cap1 cap3 r1 w0 H w K)
def m_S (cap1 cap2 cap3:Addr) (w0:World) (K:Option (List PanicEntry)→WP):Prop :=∃v1,w0.cell? cap1=some (vp v1)∧Calls prog 229 #[(vp v1)] w0 (fun e w1=>(∃r1,e=.returned (vu r1)∧Kept None w0 w1∧∃v14,w1.cell? cap2=some (vi v14)∧Br (decide (v14<0)) (m_S_j1 cap1 cap3 r1 true w0 None w1 K) (∃v15,w1.cell? cap2=some (vi v15)∧m_S_j1 cap1 cap3 r1 (decide (r1>(IntKind.u64.wrap v15))) w0 None w1 K))∨∃ch,e=.panicked ch∧K (some ch)  w1)
theorem w_S (cap1 cap2 cap3 w0 K) (h:m_S cap1 cap2 cap3 w0 K):
  Calls prog 230 #[(vp (some cap1)),(vp (some cap2)),(vp (some cap3))] w0 (fun e w'=>(e=.returned (.tuple #[])∧K none  w')∨∃ch,e=.panicked ch∧K (some ch)  w'):=by
 refine uB (args:=[(vp (some cap1)),(vp (some cap2)),(vp (some cap3))]) func230 rfl ntmps230 (Nat.le_of_ble_eq_true rfl) ?_
 obtain ⟨hs,hb⟩:=st0 w0
 refine zB (qJ (by kernel_rfl) (qB 1 (ql (isAgg230 _) h fun v1 h=>zC (jDS (zJ rfl) (by intro c hc;cases hc) (xc call229) (h.mono ?_)))))
 rintro e w1 (⟨r1,rfl,hk,h⟩ | ⟨ch,rfl,h⟩)
 rotate_left
 exact .inr ⟨ch,rfl,fun ρ'=>.inr ⟨ch,rfl,h⟩⟩
 refine .inl ⟨_,rfl,?_⟩
 obtain ⟨hs,hb⟩:=hk.hh hs hb
 refine jBA (q0 (vu r1) (ln (zB (zB (zY (fun ρ w=>∃x1,∃H:NP,Has ρ [(0,(vp (some cap1))),(2,(vp (some cap3))),(3,(vu r1)),(13,(vb x1))]∧Hst w0 H w H w∧HB H w []∧m_S_j1 cap1 cap3 r1 x1 w0 H w K) ?_ ?_)))))
 rintro ρ w ⟨x1,H,hH,hs,hb,h⟩
 refine zQ hH (zY (fun ρ w=>∃H:NP,Has ρ [(0,(vp (some cap1))),(2,(vp (some cap3))),(3,(vu r1))]∧Hst w0 H w H w∧HB H w []∧m_S_j2 cap1 cap3 r1 w0 H w K) ?_ ?_)
 rintro ρ w ⟨H,hH,hs,hb,h⟩
 refine zQ hH (zB (zB (qC (by kernel_rfl) (by kernel_rfl) (by kernel_rfl) (by kernel_rfl) ?_)))
 intro w2 hw2
 have hs:Hst w0 H w H w2:=by rw [hw2];exact hs.drew
 have hb:HB H w2 []:=by rw [hw2];exact hb.drew
 refine qq 0 (vu r1) Kp0 (qg 1 ?_)
 have ⟨h,hs⟩:=hs.hr (h w2)
 obtain ⟨v2,hv14,h⟩:=h
 refine sxQ Kp1 (zJ rfl) rfl (xl (isAgg230 _) hv14) (qg 2 ?_)
 obtain ⟨a1,hp1,h⟩:=h
 refine sxQ Kp2 (zJ rfl) rfl (xn hp1) (qq 3 (vp (some a1)) Kp3 (qg 4 ?_))
 obtain ⟨v3,hv13,h⟩:=h
 refine sxQ Kp4 (zJ rfl) rfl (xl (isAgg54 _) hv13) (qq 5 (vi (v3.len:Int)) Kp5 (qg 6 ?_))
 obtain ⟨v4,hv12,h⟩:=h
 refine sxQ Kp6 (zJ rfl) rfl (xl (isAgg230 _) hv12) (qg 7 ?_)
 obtain ⟨a2,hp2,h⟩:=h
 refine sxQ Kp7 (zJ rfl) rfl (xn hp2) (qq 8 (vp (some (a2.add 1))) Kp8 (qg 9 ?_))
 obtain ⟨v5,hv11,h⟩:=h
 refine sxQ Kp9 (zJ rfl) rfl (xl (isAgg3 _) hv11) (qq 10 (vi (q6.wrap ((v3.len:Int) - v5))) (zG (S8 (zA (zA zF)))) (qq 11 (vu (IntKind.u64.wrap (q6.wrap ((v3.len:Int) - v5)))) (zG (S8 (zA (zA (zA zF))))) (qq 12 (vb (decide (r1>(IntKind.u64.wrap (q6.wrap ((v3.len:Int) - v5)))))) (zG (S8 (S4 zF))) (wn (zN (zY (fun ρ w=>∃H:NP,Has ρ [(0,(vp (some cap1))),(2,(vp (some cap3))),(3,(vu r1))]∧Hst w0 H w H w∧HB H w []∧m_S_j3 cap1 cap3 r1 H w K) ?_ ?_))))))
 rintro ρ w ⟨H,hH,hs,hb,h⟩
 refine zQ hH (zB ?_)
 obtain ⟨C1,hC,h⟩:=h
 refine dr2 C1 [17] [17] hC h hs hb fun w3 hs hb h=>?_
 have hs:=hs.here
 refine qg 0 ?_
 obtain ⟨v6,hv10,h⟩:=h
 refine sye Kp0 (xl (isAgg230 _) hv10) (qg 1 ?_)
 obtain ⟨a3,hp3,h⟩:=h
 refine sy Kp1 (fun _ _=>xn hp3) (qx 2 (vp (some a3)) Kp2 (qg 3 ?_))
 obtain ⟨v7,hv9,h⟩:=h
 refine sye Kp3 (xl (isAgg54 _) hv9) (qg 4 ?_)
 obtain ⟨v8,hv8,h⟩:=h
 refine sye Kp4 (xl (isAgg230 _) hv8) (qg 5 ?_)
 obtain ⟨a4,hp4,h⟩:=h
 refine sy Kp5 (fun _ _=>xn hp4) (qx 6 (vp (some (a4.add 1))) Kp6 (qg 7 ?_))
 obtain ⟨v9,hv7,h⟩:=h
 refine sye Kp7 (xl (isAgg3 _) hv7) (qg 8 ?_)
 obtain ⟨v10,hv6,h⟩:=h
 refine sye Kp8 (xl (isAgg230 _) hv6) (qg 9 ?_)
 obtain ⟨a5,hp5,h⟩:=h
 refine sy Kp9 (fun _ _=>xn hp5) (qx 10 (vp (some (a5.add 1))) (zG (S8 (zA (zA zF)))) (qg 11 ?_))
 obtain ⟨v11,hv5,h⟩:=h
 refine sye (zG (S8 (zA (zA (zA zF))))) (xl (isAgg3 _) hv5) (qx 12 (vu r1) (zG (S8 (S4 zF))) (qx 13 (vi (q6.wrap r1)) (zG (S8 (S4 (zA zF)))) (qx 14 (vi (q6.wrap (v11+(q6.wrap r1)))) (zG (S8 (S4 (zA (zA zF))))) (qg 15 ?_))))
 obtain ⟨s1,hv4,h⟩:=h
 refine sye (v:=s1.v) (zG (S8 (S4 (zA (zA (zA zF)))))) (qU (by kernel_rfl) (by kernel_rfl) (by kernel_rfl) (by kernel_rfl) hv4) (qg 16 ?_)
 obtain ⟨c1,hv3,h⟩:=h
 refine sye (v:=(vs c1)) (zG (S8 (S8 zF))) (xS (by kernel_rfl) hv3) (lg 17 ?_)
 obtain ⟨hp6,hnh,h⟩:=h
 refine jQE (zG (S8 (S8 (zA zF)))) (xs (v:=(vs c1)) (sizeOf9 _) hp6) ?_
 intro w4 hn1
 have h:=h w4 hn1
 refine ⟨.inl (by kernel_rfl),?_⟩
 have hk:=Kept.sc hnh hn1
 obtain ⟨hs,hb⟩:=hk.hh hs hb
 refine wn (zN (rg (ql (isAgg230 _) h fun v12 h=>qm h fun a6 h=>q (ql (isAgg3 _) h fun v13 h=>qc (qm h fun a7 h=>q (st2 (sizeOf3 _) hs hb h fun w5 hs hb h=>zC (ep (jFH (.inr rfl) results230 ?_))))))))
 exact .inl ⟨rfl,h⟩
 refine cbr h ?_ ?_<;>intro h
 refine qJ (by kernel_rfl) (qB 1 (q0 (.iface 274 (vi 3)) (zC (jBF (zJ rfl) (by intro c hc;cases hc) (jDI (by kernel_rfl)) (fun ρ'=>.inr ⟨_,rfl,h⟩)))))
 refine zD (zN ⟨H,hm,hs,hb,h⟩)
 refine cbr h ?_ ?_<;>intro h
 refine qJ (by kernel_rfl) (qB 1 (q0 (.iface 274 (vi 1)) (zC (jBF (zJ rfl) (by intro c hc;cases hc) (jDI (by kernel_rfl)) (fun ρ'=>.inr ⟨_,rfl,h⟩)))))
 refine zD (zN ⟨H,hm,hs,hb,h⟩)
 refine rg (ql (isAgg3 _) h fun v14 h=>qb ?_)
 obtain ⟨hg1,h⟩|⟨hg1,h⟩:=h.br
 refine sj4 8 hg1 (q2 (vb true) (xT hg1) (ln ⟨true,None,hm,hs,hb,h⟩))
 refine qk 8 hg1 ?_
 obtain ⟨v15,hv15,h⟩:=h
 refine q4 8 hg1 (xl (isAgg3 _) hv15) (qk 8 hg1 (qk 8 hg1 (q2 (vb (decide (r1>(IntKind.u64.wrap v15)))) (xF hg1) (ln ⟨(decide (r1>(IntKind.u64.wrap v15))),None,hm,hs,hb,h⟩))))
def m_A5 (cap1 cap2:Addr) (w0:World) (K:Option (List PanicEntry)→WP):Prop :=∃v1,w0.cell? cap1=some (vp v1)∧Calls prog 241 #[(vp v1)] w0 (fun e w1=>(∃r1:Int,e=.returned (.int .u8 r1)∧zT w1 cap2∧∀w2,w2=w1.setCell cap2 (.int .u8 r1)→K none w2)∨∃ch,e=.panicked ch∧K (some ch)  w1)
theorem w_A5 (cap1 cap2 w0 K) (h:m_A5 cap1 cap2 w0 K):
  Calls prog 240 #[(vp (some cap1)),(vp (some cap2))] w0 (fun e w'=>(e=.returned (.tuple #[])∧K none  w')∨∃ch,e=.panicked ch∧K (some ch)  w'):=by
 refine uB (args:=[(vp (some cap1)),(vp (some cap2))]) func240 rfl ntmps240 (Nat.le_of_ble_eq_true rfl) (qJ (by kernel_rfl) (qB 1 (ql (isAgg230 _) h fun v1 h=>zC (jDS (zJ rfl) (by intro c hc;cases hc) (xc call241) (h.mono ?_)))))
 rintro e w1 (⟨r1,rfl,h⟩ | ⟨ch,rfl,h⟩)
 rotate_left
 exact .inr ⟨ch,rfl,fun ρ'=>.inr ⟨ch,rfl,h⟩⟩
 refine .inl ⟨_,rfl,?_⟩
 refine jBA (st1 (sizeOf5 _) h fun w2 h=>zC (ep (jFH (.inr rfl) results240 ?_)))
 exact .inl ⟨rfl,h⟩
end Go.Proofs
end
section
open Go Go.SE
namespace Go.SE
def byr (bs:List UInt8):List (List Value):=bs.map fun b=>[.int .u8 (b.toNat:Int)]
theorem vR (bs:List UInt8):(byr bs).length=bs.length:=by simp [byr]
theorem jPZ (bs:List UInt8):∀q∈byr bs,q.all vY=true:=by intro q hq;obtain ⟨t,_,rfl⟩:=List.mem_map.1 hq;rfl
theorem jET (bs:List UInt8):∀q∈byr bs,q.length=1:=by intro q hq;obtain ⟨t,_,rfl⟩:=List.mem_map.1 hq;rfl
theorem jGR (bs:List UInt8):(byr bs).flatten=bs.map fun b=>Value.int .u8 (b.toNat:Int):=by
 induction bs with
 | nil=>rfl
 | cons b bs ih=>simp only [byr,List.map_cons,List.flatten_cons] at ih ⊢;rw [ih];rfl
theorem jGS (a b:List UInt8):byr (a++b)=byr a++byr b:=by simp [byr]
theorem jLS {S:NP} {w:World} {s:Sl} {bs:List UInt8} (h:Lst S w 1 s (byr bs)) {j:Nat} (hj:j<bs.length):∃a,At s j 1 a∧S a.block∧w.cell? a=some (.int .u8 (bs[j].toNat:Int)):=by
 obtain ⟨a,h1,h2,h3⟩:=h.at_ j (by simpa [byr] using hj);exact ⟨a,h1,h2,jBI (by simpa [byr] using h3)⟩
theorem tE (n:Nat):IntKind.u8.wrap (n:Int)=((UInt8.ofNat n).toNat:Int):=by
 rw [UInt8.toNat_ofNat'];simp [IntKind.wrap,IntKind.bits,IntKind.signed]
theorem jOD {P:Program} {src dst e:TypeId} (hs:P.underlying src=some (.slice e)) (he:P.underlying e=some (.int .u8)) (hd:P.underlying dst=some .string) {S:NP} {w:World} {s:Sl} {bs:List UInt8} (h:Lst S w 1 s (byr bs)) :
  (convert src dst s.v).run P w=.ok (.string ⟨bs.toArray⟩) w:=by
 have hl:s.len=bs.length:=by rw [h.len,vR]
 cases ha:s.a with
 | none =>
  have hb:bs=[]:=by
   cases bs with
   | nil=>rfl
   | cons b bs=>obtain ⟨_,⟨_,_,p,hp,_⟩,_⟩:=jLS h (j:=0) (by simp);rw [ha] at hp;cases hp
  subst hb
  have:s.v=.slice none 0 s.cap:=by unfold Sl.v;rw [ha,hl];rfl
  rw [this,run_convert_bytes_string w src dst e none 0 s.cap hs he hd];rfl
 | some p =>
  have:s.v=.slice (some p) bs.length s.cap:=by unfold Sl.v;rw [ha,hl]
  rw [this]
  refine run_convert_bytes_back w src dst e p s.cap bs hs he hd fun j hj=>?_
  obtain ⟨a,⟨_,_,b,hb,rfl⟩,_,hc⟩:=jLS h hj
  rw [ha] at hb;cases hb
  simpa using hc
section
variable {P:Program} {t u e ty:TypeId} {w:World}
theorem jAL (b:ByteArray):(Builtin.firstCells 1 b.size (.string b)).run P w=.ok (b.data.map fun x=>Value.int .u8 (x.toNat:Int)) w:=by
 have hx:(Array.map (fun b:UInt8=>Value.int IntKind.u8 (b.toNat:Int)) b.data).extract 0 b.size=Array.map (fun b:UInt8=>Value.int IntKind.u8 (b.toNat:Int)) b.data:=by
  have hs:b.size=(Array.map (fun b:UInt8=>Value.int IntKind.u8 (b.toNat:Int)) b.data).size:=by rw [Array.size_map];rfl
  rw [hs,Array.extract_size]
 simp [Builtin.firstCells,hx]
theorem jAR (T:SlType P t e 1 1) (hu:P.underlying u=some .string) (s:Sl) (hc:s.len≤s.cap) (b:ByteArray) (hb:b.size=0):(Builtin.append_ #[t,u] ty #[s.v,.string b]).run P w=.ok s.v w:=by
 obtain ⟨a,n,c⟩:=s;simp only at hc;have hbd:b=⟨#[]⟩:=by cases b;simp only [ByteArray.size] at hb;congr;exact Array.eq_empty_of_size_eq_zero hb
 subst hbd;cases a <;> simp [Builtin.append_,Sl.v,run_underlying T.ht,run_underlying hu,T.sizeOf,Builtin.lenOf,Builtin.firstCells,storeCells,hc,ByteArray.size]
theorem Rws.appendStr (T:SlType P t e 1 1) (hu:P.underlying u=some .string) {s:Sl} {rs:List (List Value)} (h:Rws w e 1 s rs) (b:ByteArray) (hb:rs.length+b.size≤140737488355328) (hm:rs.length+b.size≤maxLen) :
  ∃s' w',(Builtin.append_ #[t,u] ty #[s.v,.string b]).run P w=.ok s'.v w'∧Rws w' e 1 s' (rs++byr b.data.toList)∧Ext s.blk w w'∧(∀b,s'.blk b→s.blk b∨w.heap.size≤b):=by
 obtain ⟨i,z,hi,hz,hsz,hby,hzs⟩:=T.hi
 have hbl:b.data.toList.length=b.size:=by rw [Array.length_toList];rfl
 by_cases h0:b.size=0
 ·have hc : s.len ≤ s.cap := by
   rcases h.own with ⟨rfl,_⟩ | ⟨g,cur,_,_,hc,_⟩
   ·exact Nat.le_refl _
   ·rw [h.len];exact hc
  have:b.data.toList=[]:=List.length_eq_zero_iff.1 (by omega)
  rw [this]
  exact ⟨s,w,jAR T hu s hc b h0,by simpa [byr] using h,Ext.refl w,fun b hb=>.inl hb⟩
 have hml:rs.length+b.size≤9223372036854775807:=by simp only [maxLen] at hm;omega
 have hfl:=vL h.each
 have hql:(byr b.data.toList).length=b.size:=by rw [vR,hbl]
 have heach:∀q∈rs++byr b.data.toList,q.length=1:=fun q hq=>(List.mem_append.1 hq).elim (h.each q) (jET _ q)
 have hfq:(b.data.map (fun x=>Value.int .u8 (x.toNat:Int))).toList=(byr b.data.toList).flatten:=by rw [jGR];simp
 have hsv:(b.data.map (fun x=>Value.int .u8 (x.toNat:Int))).size=b.size:=by rw [Array.size_map];rfl
 rcases h.own with ⟨rfl,rfl⟩ | ⟨g,cur,ha,hg,hcap,hcm,hcs,htake⟩
 ·simp only [List.length_nil,Nat.zero_add] at hb hml hm
  have hrun:=run_append_nil_string (P:=P) w t u ty e i z T.ht hu hi hz b (by omega) (by omega) (by rw [hby];omega)
  have hgr:=Rws.grown (w:=w) (e:=e) (sz:=1) (rs:=byr b.data.toList) (jET _) (cur:=b.data.map (fun x=>Value.int .u8 (x.toNat:Int))) (by rw [hzs]) hfq (cap:=grownCap w b.size 0 e) (by rw [hql];exact grownCap_ge w _ 0 e) (grownCap_le_maxLen w _ 0 e hm)
  rw [hql] at hgr
  exact ⟨⟨some ⟨w.heap.size,0,none⟩,b.size,grownCap w b.size 0 e⟩,_,hrun,by simpa using hgr,⟨rfl,rfl,rfl,(by first | exact Nat.le_refl _ | exact Nat.le_succ _),by simp,fun b hb _=>tB w.drew _ b hb⟩,fun b hb=>by obtain ⟨a,ha,rfl⟩:=hb;cases ha;right;exact Nat.le_refl _⟩
 ·have hs':s.v=.slice (some ⟨g,0,none⟩) rs.length s.cap:=by unfold Sl.v;rw [ha,h.len]
  by_cases hroom:rs.length+b.size≤s.cap
  ·have hfit:rs.length+(byr b.data.toList).flatten.length≤cur.size:=by rw [vL (jET _),hql,hcs];omega
   have h1':∀u∈(byr b.data.toList).flatten,u.oneCell'=true:=fun u hu=>by
    rw [jGR] at hu;obtain ⟨x,_,rfl⟩:=List.mem_map.1 hu;rfl
   have hst:=run_storeCells_at P g rs.length e (byr b.data.toList).flatten 0 cur w hg (by simpa using hfit) h1'
   have hrun:(Builtin.append_ #[t,u] ty #[s.v,.string b]).run P w=.ok (.slice (some ⟨g,0,none⟩) (rs.length+b.size) s.cap) (w.setRow g (cur.toList.take rs.length++(byr b.data.toList).flatten++cur.toList.drop (rs.length+(byr b.data.toList).flatten.length)).toArray):=by
    rw [hs'];simp only [Nat.add_zero] at hst;have hf:=jAL (P:=P) (w:=w) b;rw [jGR] at hst ⊢;simp [Builtin.append_,run_underlying T.ht,run_underlying hu,T.sizeOf,Builtin.lenOf,hroom,hf,Addr.add_lit,hst]
   refine ⟨⟨some ⟨g,0,none⟩,rs.length+b.size,s.cap⟩,_,hrun,⟨heach,by simp [hql],.inr ⟨g,_,rfl,setRow_heap w g cur _ e _ hg,by simpa [hql] using hroom,hcm,?_,?_⟩⟩,⟨rfl,rfl,rfl,(by first | exact Nat.le_refl _ | exact Nat.le_succ _),by simp,fun b hb hf=>setRow_other w g b _ (fun e=>hf ⟨_,ha,e.symm⟩)⟩,fun b hb=>by obtain ⟨a,ha',rfl⟩:=hb;cases ha';exact .inl ⟨_,ha,rfl⟩⟩
   ·simp only [List.size_toArray,List.length_append,List.length_take,List.length_drop,Array.length_toList]
    omega
   ·simp only [Nat.mul_one] at htake hfl ⊢
    rw [htake,List.flatten_append,List.length_append,hql]
    rw [vL (jET _),hql,← hfl]
    simp only [Nat.mul_one]
    rw [show rs.flatten.length+b.size=(rs.flatten++(byr b.data.toList).flatten).length by rw [List.length_append,vL (jET _),hql];omega]
    exact List.take_left
  ·have holds : ∀ j u, rs.flatten[j]? = some u → w.cell? ((⟨g, 0, none⟩ : Addr).add j) = some u := fun j u hu => by
    have hadd:(⟨g,0,none⟩:Addr).add j=⟨g,j,none⟩:=by unfold Addr.add;split <;> simp_all
    rw [hadd,cell_of_row w g j cur e (0,0) hg];rw [← htake,List.getElem?_take] at hu;split at hu
    ·simpa using hu
    ·cases hu
   have hfit:=growslice_fits (need:=rs.length+b.size) (old:=s.cap) (bytes:=1) (by omega) (by omega)
   have hgr:=Rws.grown (w:=w) (e:=e) (sz:=1) (rs:=rs++byr b.data.toList) heach (cur:=rs.flatten.toArray++b.data.map (fun x=>Value.int .u8 (x.toNat:Int))) (by rw [hzs]) (by simp [← hfq]) (cap:=grownCap w (rs.length+b.size) s.cap e) (by rw [List.length_append,hql];exact grownCap_ge w _ s.cap e) (grownCap_le_maxLen w _ _ e hm)
   have hrun:(Builtin.append_ #[t,u] ty #[s.v,.string b]).run P w=.ok (.slice (some ⟨w.heap.size,0,none⟩) (rs.length+b.size) (grownCap w (rs.length+b.size) s.cap e)) (w.drew.alloc (.cells (rs.flatten.toArray++b.data.map (fun x=>Value.int .u8 (x.toNat:Int))++Builtin.zeroCells z.cells (grownCap w (rs.length+b.size) s.cap e - (rs.length+b.size))) e)):=by
    rw [hs'];have hn:¬ (rs.length+b.size≤s.cap):=by omega
    have h63':¬ (9223372036854775807<((rs.length:Int)+(b.size:Int))):=by omega
    have h48':¬ (281474976710656<Builtin.nextslicecap (rs.length+b.size) s.cap*i.bytes):=by rw [hby];omega
    have hfo:=run_firstCells_some (P:=P) w.drew i.size rs.length ⟨g,0,none⟩ rs.length s.cap rs.flatten (by rw [hsz];exact hfl) (by simpa using holds);have hf:=jAL (P:=P) (w:=w.drew) b;rw [hsz] at hfo;simp [Builtin.append_,run_underlying T.ht,run_underlying hu,sizeOf,typeInfo,zeroValue,hi,hz,Builtin.lenOf,hn,h63',h48',Question.forced,hf,hfo,newRow,grownCap,hsz]
    try (congr 2;apply Array.ext';simp [List.append_assoc])
   rw [List.length_append,hql] at hgr
   exact ⟨⟨some ⟨w.heap.size,0,none⟩,rs.length+b.size,grownCap w (rs.length+b.size) s.cap e⟩,_,hrun,hgr,⟨rfl,rfl,rfl,(by first | exact Nat.le_refl _ | exact Nat.le_succ _),by simp,fun b hb _=>tB w.drew _ b hb⟩,fun b hb=>by obtain ⟨a,ha,rfl⟩:=hb;cases ha;right;exact Nat.le_refl _⟩
end
section
variable {P:Program} {w:World} {t:TypeId}
set_option maxRecDepth 4000 in
theorem or128:∀m:Fin 256,m.val ||| 128=m.val % 128+128:=by decide
theorem jOG (n:Nat):(Go.binOp .or t (.int .u8 (IntKind.u8.wrap (n:Int))) (.int .u8 128)).run P w=.ok (.int .u8 ((UInt8.ofNat (n % 128+128)).toNat:Int)) w:=by
 have h:IntKind.u8.wrap ((BitVec.ofInt IntKind.u8.bits (IntKind.u8.wrap (n:Int)) ||| BitVec.ofInt IntKind.u8.bits 128).toNat:Int)=((UInt8.ofNat (n % 128+128)).toNat:Int):=by
  have e1:(BitVec.ofInt IntKind.u8.bits (IntKind.u8.wrap (n:Int))).toNat=n % 256:=by
   rw [tE,UInt8.toNat_ofNat',BitVec.toNat_ofInt];simp [IntKind.bits];omega
  have e2:(BitVec.ofInt IntKind.u8.bits 128).toNat=128:=by decide
  rw [BitVec.toNat_or,e1,e2,or128 ⟨n % 256,Nat.mod_lt _ (by omega)⟩,tE];simp only [UInt8.toNat_ofNat'];omega
 show ((pure (Value.int .u8 _):Sem Value)).run P w=_;rw [h];rfl
theorem jQO (n:Nat):(Go.binOp .shr t (.int .u64 (n:Int)) (.int .u64 7)).run P w=.ok (.int .u64 ((n / 128:Nat):Int)) w:=by
 simp [Go.binOp,go_sem,IntKind.bits]
theorem jMF (n:Nat) (h:n<18446744073709551616):(Go.binOp .quo t (.int .u64 (n:Int)) (.int .u64 128)).run P w=.ok (.int .u64 ((n / 128:Nat):Int)) w:=by
 have:IntKind.u64.wrap ((n:Int).tdiv 128)=((n / 128:Nat):Int):=by
  rw [Int.tdiv_eq_ediv_of_nonneg (by omega)];simp only [IntKind.wrap,IntKind.bits,IntKind.signed];simp;omega
 show ((pure (Value.int .u64 (IntKind.u64.wrap ((n:Int).tdiv 128))):Sem Value)).run P w=_;rw [this];rfl
theorem jME (n:Nat):(Go.binOp .rem t (.int .u64 (n:Int)) (.int .u64 128)).run P w=.ok (.int .u64 ((n % 128:Nat):Int)) w:=by
 have:(n:Int).tmod 128=((n % 128:Nat):Int):=by
  rw [Int.tmod_eq_emod_of_nonneg (by omega)];simp
 simp [Go.binOp,Op.intDiv,this]
theorem jMG (c:Nat) (h:c<256):(Go.binOp .and t (.int .u8 (c:Int)) (.int .u8 127)).run P w=.ok (.int .u8 ((c % 128:Nat):Int)) w:=by
 have hr:IntKind.u8.wrap ((BitVec.ofInt IntKind.u8.bits (c:Int) &&& BitVec.ofInt IntKind.u8.bits 127).toNat:Int)=((c % 128:Nat):Int):=by
  have e1:(BitVec.ofInt IntKind.u8.bits (c:Int)).toNat=c:=by
   rw [BitVec.toNat_ofInt];simp [IntKind.bits];omega
  have e2:(BitVec.ofInt IntKind.u8.bits 127).toNat=2 ^ 7 - 1:=by decide
  rw [BitVec.toNat_and,e1,e2,Nat.and_two_pow_sub_one_eq_mod,tE];simp only [UInt8.toNat_ofNat'];omega
 show ((pure (Value.int .u8 _):Sem Value)).run P w=_;rw [hr];rfl
theorem vX {n:Nat} (h:n<18446744073709551616):IntKind.u64.wrap (n:Int)=(n:Int):=by
 simp [IntKind.wrap,IntKind.bits,IntKind.signed];omega
theorem jTO (x k:Nat) (hk:k<64) (h:x*2 ^ k<18446744073709551616):(Go.binOp .shl t (.int .u64 (x:Int)) (.int .i64 (k:Int))).run P w=.ok (.int .u64 ((x*2 ^ k:Nat):Int)) w:=by
 have hr:IntKind.u64.wrap ((x:Int)*2 ^ min (k:Int).toNat IntKind.u64.bits)=((x*2 ^ k:Nat):Int):=by
  have:min (k:Int).toNat IntKind.u64.bits=k:=by simp [IntKind.bits];omega
  rw [this,← vX h];simp
 have h0:¬ ((k:Int)<0):=by omega
 show (Op.shift .shl .u64 (x:Int) .i64 (k:Int)).run P w=_;unfold Op.shift;rw [if_neg h0];show ((pure (Value.int .u64 (IntKind.u64.wrap ((x:Int)*2 ^ min (k:Int).toNat IntKind.u64.bits))):Sem Value)).run P w=_;rw [hr];rfl
theorem jQR (x y:Nat) (hx:x<18446744073709551616) (hy:y<18446744073709551616):(Go.binOp .or t (.int .u64 (x:Int)) (.int .u64 (y:Int))).run P w=.ok (.int .u64 ((x ||| y:Nat):Int)) w:=by
 have hr:IntKind.u64.wrap ((BitVec.ofInt IntKind.u64.bits (x:Int) ||| BitVec.ofInt IntKind.u64.bits (y:Int)).toNat:Int)=((x ||| y:Nat):Int):=by
  have e (z:Nat) (hz:z<18446744073709551616):(BitVec.ofInt IntKind.u64.bits (z:Int)).toNat=z:=by
   rw [BitVec.toNat_ofInt];simp [IntKind.bits];omega
  rw [BitVec.toNat_or,e x hx,e y hy,vX (Nat.or_lt_two_pow (n:=64) hx hy)]
 show ((pure (Value.int .u64 _):Sem Value)).run P w=_;rw [hr];rfl
theorem jSM {x y k:Nat} (h:x<2 ^ k):x ||| (y*2 ^ k)=x+y*2 ^ k:=by
 have:=Nat.shiftLeft_add_eq_or_of_lt h y;rw [Nat.shiftLeft_eq] at this;rw [Nat.or_comm,← this,Nat.add_comm]
end
theorem Lst.sub {P:Program} {t e:TypeId} {sz bytes:Nat} {S:NP} (T:SlType P t e sz bytes) {w:World} {s:Sl} {rs:List (List Value)} (h:Lst S w sz s rs) (hcap:s.len≤s.cap) {k:IntKind} {lo n:Nat} (hn:lo+n≤rs.length) :
  ∃s':Sl,(Instr.sliceAt t s.v (some (.int k (lo:Int))) (some (.int k ((lo+n:Nat):Int))) none).run P w=.ok s'.v w∧Lst S w sz s' ((rs.drop lo).take n):=by
 have h1:((lo+n:Nat):Int)≤(s.cap:Int):=by rw [h.len] at hcap;omega
 have h2:(lo:Int)≤((lo+n:Nat):Int):=by omega
 refine ⟨⟨if s.cap=lo then s.a else s.a.map (·.add (lo*sz)),n,s.cap - lo⟩,?_,⟨by simp;omega,fun i hi=>?_⟩⟩
 ·simp [Instr.sliceAt,Instr.slice,Sl.v,run_underlying T.ht,Instr.sliceBounds,Instr.sliceBound,asIntOf,T.sizeOf]
  rw [if_pos (by omega),if_pos (by omega),show ((lo:Int)+(n:Int)).toNat - lo=n by omega]
 ·have hi':lo+i<rs.length:=by simp at hi;omega
  obtain ⟨a,⟨_,hlt,p,hp,rfl⟩,hS,hr⟩:=h.at_ (lo+i) hi'
  refine ⟨_,⟨by omega,by simp at hi ⊢;omega,p.add (lo*sz),?_,rfl⟩,?_,?_⟩
  ·rw [if_neg (by rw [h.len] at hcap;omega),hp];rfl
  ·simpa [zR] using hS
  ·have : (p.add (lo * sz)).add ((i : Int).toNat * sz) = p.add (((lo + i : Nat) : Int).toNat * sz) := by
    rw [xB,Int.toNat_natCast,Int.toNat_natCast,Nat.add_mul]
   rw [this,List.getElem_take,List.getElem_drop];exact hr
end Go.SE
end
section
open Go Go.SE
namespace Go.Proofs
attribute [local irreducible] wpL wpX opE wpE Calls
end Go.Proofs
end
section
open Go Go.SE
namespace Go.Proofs
open Tryz
attribute [local irreducible] Calls
def tmr (ts:List Int):List (List Value):=ts.map fun t=>[.int .i64 t]
theorem yW (ts:List Int):(tmr ts).length=ts.length:=by simp [tmr]
theorem jSI:SlType prog 137 23 1 8:=by
 refine ⟨underlying137,⟨t23,_,by kernel_rfl,(by kernel_rfl:t23.zero=some (.int .i64 0)),by kernel_rfl,by kernel_rfl,rfl⟩,by omega⟩
structure RetO (w:World) (e:TypeId) (sz:Nat) (rs:List (List Value)) (s:Sl) (w':World):Prop where
 rows:Rws w' e sz s rs
 own:∀b,s.blk b→w.heap.size≤b
 pure:Pure w w'
theorem RetO.kept {w:World} {H:NP} {e:TypeId} {sz:Nat} {rs:List (List Value)} {s:Sl} {w':World} (h:RetO w e sz rs s w'):Kept H w w':=h.pure.keptP
theorem jAJ {S:NP} {w:World} {s:Sl} {ts:List Int} (h:Lst S w 1 s (tmr ts)) {j:Nat} (hj:j<ts.length):∃a,At s j 1 a∧S a.block∧w.cell? a=some (.int .i64 ts[j]):=by
 obtain ⟨a,h1,h2,h3⟩:=h.at_ j (by simpa [tmr] using hj);exact ⟨a,h1,h2,jBI (by simpa [tmr] using h3)⟩
theorem jCD {P:Program} (w:World) (d:Nat) {t e:TypeId} (a:Option Addr) (l c:Nat) (h:P.underlying t=some (.slice e)):(Op.equalIn (d+1) t (.slice a l c) (.slice none 0 0)).run P w=.ok a.isNone w:=by
 cases a <;> simp [Op.equalIn,run_underlying h]
theorem jGE {P:Program} (w:World) {t e:TypeId} (a:Option Addr) (l c:Nat) (h:P.underlying t=some (.slice e)):(Go.binOp .eql t (.slice a l c) (.slice none 0 0)).run P w=.ok (.bool a.isNone) w:=by
 simp only [Go.binOp];simp [Op.equal,Op.maxDepth,jCD w 9999 a l c h]
end Go.Proofs
end
section
open Nat
namespace Go.Proofs
def vN (n:Nat):List UInt8:=if h:n<128 then [UInt8.ofNat n] else UInt8.ofNat (n % 128+128) :: vN (n / 128)
theorem uW {n:Nat} (h:n<128):vN n=[UInt8.ofNat n]:=by rw [vN,dif_pos h]
theorem tV {n:Nat} (h:128≤n):vN n=UInt8.ofNat (n % 128+128) :: vN (n / 128):=by rw [vN,dif_neg (by omega)]
theorem jLX (k:Nat):∀n,n<128 ^ (k+1)→(vN n).length≤k+1:=by
 induction k with
 | zero=>intro n h;rw [uW (by simpa using h)];simp
 | succ k ih =>
  intro n h
  by_cases h1:n<128
  ·rw [uW h1];simp
  ·rw [tV (by omega),List.length_cons]
   have:=ih (n / 128) (by rw [Nat.div_lt_iff_lt_mul (by omega)];rw [Nat.pow_succ] at h;exact h)
   omega
theorem vS {n:Nat} (h:n<18446744073709551616):(vN n).length≤10:=jLX 9 n (by omega)
def qH (s:ByteArray):List UInt8:=vN s.size++s.data.toList
def uX:Nat→Nat→List UInt8→Except Nat (Nat×Nat)
 | _,_,[]=>.error 3
 | i,n,c :: l =>
  if i=9∧1<c.toNat then .error 11
  else if c.toNat<128 then (if c.toNat=0∧0<i then .error 10 else .ok (n+c.toNat*128 ^ i,i+1))
  else uX (i+1) (n+c.toNat % 128*128 ^ i) l
theorem xX (i n:Nat) (c:UInt8) (l:List UInt8):uX i n (c :: l)=(if i=9∧1<c.toNat then .error 11
  else if c.toNat<128 then (if c.toNat=0∧0<i then .error 10 else .ok (n+c.toNat*128 ^ i,i+1))
  else uX (i+1) (n+c.toNat % 128*128 ^ i) l):=rfl
structure Rd where
 at_:Nat
 err:Nat
 spot:Nat
def qM (bs:List UInt8) (r:Rd):Nat×Rd :=
 if r.err=0 then match uX 0 0 (bs.drop r.at_) with
  | .ok (n,k)=>(n,⟨r.at_+k,0,r.spot⟩)
  | .error x=>(0,⟨r.at_,x,r.at_⟩)
 else (0,r)
def uD (bs:List UInt8) (r:Rd):Nat×Rd :=
 if r.err=0 then (if h:r.at_<bs.length then (bs[r.at_].toNat,⟨r.at_+1,0,r.spot⟩) else (0,⟨r.at_,3,r.at_⟩))
 else (0,r)
def qQ (bs:List UInt8) (most:Nat) (r:Rd):List UInt8×Rd :=
 if r.err=0 then match uX 0 0 (bs.drop r.at_) with
  | .ok (n,k)=>if most<n then ([],⟨r.at_,1,r.at_⟩) else if bs.length<r.at_+k+n then ([],⟨r.at_,3,r.at_⟩) else ((bs.drop (r.at_+k)).take n,⟨r.at_+k+n,0,r.spot⟩)
  | .error x=>([],⟨r.at_,x,r.at_⟩)
 else ([],r)
end Go.Proofs
end
section
open Go Go.SE
namespace Go.Proofs
open Tryz
attribute [local irreducible] Calls
theorem jBG:SlType prog 54 5 1 1:=by
 refine ⟨underlying54,⟨t5,_,by kernel_rfl,(by kernel_rfl:t5.zero=some (.int .u8 0)),by kernel_rfl,by kernel_rfl,rfl⟩,by omega⟩
theorem jJF {S:NP} (s:Sl) (bs:List UInt8) (w0:World) (hs:Lst S w0 1 s (byr bs)) (hz:s.a=none→s=Sl.nil) (hn:bs.length≤100000000000) :
  Calls prog 211 #[s.v] w0 (fun e w'=>∃r:Sl,e=.returned r.v∧RetO w0 5 1 (byr bs) r w'):=by
 refine w_R3 _ w0 (fun r w'=>RetO w0 5 1 (byr bs) r w') ?_
 unfold m_R3
 refine ⟨s.a.isNone,?_,fun h=>?_,fun h=>?_⟩
 ·exact jGE w0 s.a s.len s.cap underlying54
 ·have hs0:=hz (Option.isNone_iff_eq_none.1 h)
  subst hs0
  have:bs=[]:=by have:=hs.len;rw [vR] at this;exact List.length_eq_zero_iff.1 this.symm
  subst this
  exact ⟨Rws.nil _ _ _,fun b hb=>(by obtain ⟨a,ha,_⟩:=hb;cases ha),Ext.refl _⟩
 ·intro p1 w1 h1
  have E1:Pure w0 w1:=Ext.new h1
  obtain ⟨s2,w2,hr,hR,hE,hb⟩:=(Rws.empty (sz:=1) h1).appendL (P:=prog) (ty:=54) jBG (hs.pure E1) (jET _) (jPZ _) (by rw [vR];simp;omega) (by rw [vR];simp [maxLen];omega)
  have hp:=h1.at_size
  have hp':∀b,(Sl.mk (some p1) 0 0).blk b→w0.heap.size≤b:=fun b hb=>(by obtain ⟨a,ha,e⟩:=hb;cases ha;omega)
  exact ⟨s2,w2,hr,by simpa using hR,fun b h=>(hb b h).elim (hp' b) (fun h=>by have:=E1.size;omega),E1.trans' hE (fun i hi h=>by have:=hp' i h;omega)⟩
theorem RetO.put {w0 w w1:World} {s:Sl} {bs:List UInt8} {x:UInt8} {p:Addr} (h:RetO w0 5 1 (byr bs) s w) (hn:New w (.cells #[.int .u8 (x.toNat:Int)] 5) p w1) (hl:bs.length≤100000000000) :
  ∃s' w',(Builtin.append_ #[54,54] 54 #[s.v,(Sl.mk (some p) 1 1).v]).run prog w1=.ok s'.v w'∧RetO w0 5 1 (byr (bs++[x])) s' w':=by
 have E1:Pure w w1:=Ext.new hn
 have hrow:Row w1 p [.int .u8 (x.toNat:Int)]:=(Box.of_newA hn).row
 obtain ⟨s',w',hr,hR,hE,hb⟩:=(h.rows.pure E1).append (ty:=54) (c:=1) jBG hrow rfl rfl (by rw [vR];omega) (by rw [vR];simp [maxLen];omega)
 have h1:=(h.pure.trans E1)
 exact ⟨s',w',hr,by rw [jGS];exact hR,fun b hb'=>(hb b hb').elim (h.own b) (fun h2=>by have:=h1.size;omega),h1.trans' hE (fun i hi h2=>by have:=h.own i h2;omega)⟩
theorem RetO.text {w0 w:World} {s:Sl} {bs:List UInt8} {x:ByteArray} (h:RetO w0 5 1 (byr (bs++vN x.size)) s w) (hn:bs.length≤10000000000) (hN:x.size≤10000000000) :
  ∃s' w',(Builtin.append_ #[54,9] 54 #[s.v,.string x]).run prog w=.ok s'.v w'∧RetO w0 5 1 (byr (bs++qH x)) s' w':=by
 have hv:=vS (n:=x.size) (by omega)
 obtain ⟨s',w',hr,hR,hE,hb⟩:=h.rows.appendStr (ty:=54) jBG underlying9 x (by rw [vR,List.length_append];omega) (by rw [vR,List.length_append];simp [maxLen];omega)
 refine ⟨s',w',hr,?_,fun b hb'=>(hb b hb').elim (h.own b) (fun h2=>by have:=h.pure.size;omega),h.pure.trans' hE (fun i hi h2=>by have:=h.own i h2;omega)⟩
 rw [qH,← List.append_assoc,jGS];exact hR
theorem jAF {S:NP} (s:Sl) (bs:List UInt8) (n:Nat) (w0:World) (hs:Lst S w0 1 s (byr bs)) (hz:s.a=none→s=Sl.nil) (hn:bs.length≤10000000000) (hN:n<18446744073709551616) :
  Calls prog 183 #[s.v,.int .u64 (n:Int)] w0 (fun e w'=>∃r:Sl,e=.returned r.v∧RetO w0 5 1 (byr (bs++vN n)) r w'):=by
 refine w_W1 _ _ w0 (fun r w'=>RetO w0 5 1 (byr (bs++vN n)) r w') ?_
 unfold m_W1
 refine (jJF s bs w0 hs hz (by omega)).mono ?_
 rintro _ w1 ⟨r1,rfl,h1⟩
 refine ⟨r1,rfl,fun b m w=>∃k:Nat,∃xs:List UInt8,m=(k:Int)∧k<18446744073709551616∧xs++vN k=bs++vN n∧RetO w0 5 1 (byr xs) b w,fun _ m _=>m.toNat,⟨n,bs,rfl,hN,rfl,h1⟩,?_⟩
 rintro b _ w ⟨k,xs,rfl,hk,hx,hR⟩
 have hlen:xs.length≤10000000010:=by
  have:=congrArg List.length hx;have:=vS hN;simp only [List.length_append] at *;omega
 unfold m_W1_l1
 refine ⟨fun h=>?_,fun h=>?_⟩
 ·have h:=of_decide_eq_true h
  refine ⟨_,jOG k,fun p2 w2 h2=>?_⟩
  obtain ⟨s',w',hr,hR'⟩:=hR.put h2 (by omega)
  refine ⟨s',w',hr,_,jQO k,⟨k / 128,xs++[UInt8.ofNat (k % 128+128)],rfl,by omega,?_,hR'⟩,by show (((k / 128:Nat):Int)).toNat<((k:Int)).toNat;omega⟩
  rw [← hx,tV (n:=k) (by omega)];simp
 ·have h:=of_decide_eq_false h
  intro p2 w2 h2
  rw [tE] at h2
  obtain ⟨s',w',hr,hR'⟩:=hR.put h2 (by omega)
  refine ⟨s',w',hr,?_⟩
  rw [← hx,uW (n:=k) (by omega)];exact hR'
theorem tA {S:NP} (s:Sl) (bs:List UInt8) (n:Nat) (w0:World) (hs:Lst S w0 1 s (byr bs)) (hn:bs.length≤10000000000) (hN:n<18446744073709551616) :
  Calls prog 172 #[s.v,.int .u64 (n:Int)] w0 (fun e w'=>∃r:Sl,e=.returned r.v∧RetO w0 5 1 (byr (bs++vN n)) r w'):=by
 refine w_V1 _ _ w0 (fun r w'=>RetO w0 5 1 (byr (bs++vN n)) r w') ?_
 unfold m_V1
 intro p1 w1 h1
 have E1:Pure w0 w1:=Ext.new h1
 obtain ⟨s2,w2,hr,hR,hE,hb⟩:=(Rws.empty (sz:=1) h1).appendL (P:=prog) (ty:=54) jBG (hs.pure E1) (jET _) (jPZ _) (by rw [vR];simp;omega) (by rw [vR];simp [maxLen];omega)
 have hp:=h1.at_size
 have hp':∀b,(Sl.mk (some p1) 0 0).blk b→w0.heap.size≤b:=fun b hb=>(by obtain ⟨a,ha,e⟩:=hb;cases ha;omega)
 have hR0:RetO w0 5 1 (byr bs) s2 w2:=⟨by simpa using hR,fun b h=>(hb b h).elim (hp' b) (fun h=>by have:=E1.size;omega),E1.trans' hE (fun i hi h=>by have:=hp' i h;omega)⟩
 refine ⟨s2,w2,hr,fun m b w=>∃k:Nat,∃xs:List UInt8,m=(k:Int)∧k<18446744073709551616∧xs++vN k=bs++vN n∧RetO w0 5 1 (byr xs) b w,fun m _ _=>m.toNat,⟨n,bs,rfl,hN,rfl,hR0⟩,?_⟩
 rintro _ b w ⟨k,xs,rfl,hk,hx,hR⟩
 have hlen:xs.length≤10000000010:=by
  have:=congrArg List.length hx;have:=vS hN;simp only [List.length_append] at *;omega
 unfold m_V1_l1
 refine ⟨fun h=>?_,fun h=>?_⟩
 ·have h:=of_decide_eq_true h
  refine ⟨_,jME k,fun p2 w2 h2=>?_⟩
  rw [show IntKind.u64.wrap (((k % 128:Nat):Int)+128)=((k % 128+128:Nat):Int) by simp [IntKind.wrap,IntKind.bits,IntKind.signed];omega,tE] at h2
  obtain ⟨s',w',hr,hR'⟩:=hR.put h2 (by omega)
  refine ⟨s',w',hr,_,jMF k hk,⟨k / 128,xs++[UInt8.ofNat (k % 128+128)],rfl,by omega,?_,hR'⟩,by show (((k / 128:Nat):Int)).toNat<((k:Int)).toNat;omega⟩
  rw [← hx,tV (n:=k) (by omega)];simp
 ·have h:=of_decide_eq_false h
  intro p2 w2 h2
  rw [tE] at h2
  obtain ⟨s',w',hr,hR'⟩:=hR.put h2 (by omega)
  refine ⟨s',w',hr,?_⟩
  rw [← hx,uW (n:=k) (by omega)];exact hR'
theorem jPO {S:NP} (s:Sl) (bs:List UInt8) (x:ByteArray) (w0:World) (hs:Lst S w0 1 s (byr bs)) (hz:s.a=none→s=Sl.nil) (hn:bs.length≤10000000000) (hN:x.size≤10000000000) :
  Calls prog 191 #[s.v,.string x] w0 (fun e w'=>∃r:Sl,e=.returned r.v∧RetO w0 5 1 (byr (bs++qH x)) r w'):=by
 refine w_R4 _ _ w0 (fun r w'=>RetO w0 5 1 (byr (bs++qH x)) r w') ?_
 unfold m_R4
 rw [show IntKind.u64.wrap (x.size:Int)=(x.size:Int) by simp [IntKind.wrap,IntKind.bits,IntKind.signed];omega]
 refine (jAF s bs x.size w0 hs hz hn (by omega)).mono ?_
 rintro _ w1 ⟨r1,rfl,h1⟩
 exact ⟨r1,rfl,h1.text hn hN⟩
theorem jNC {S:NP} (s:Sl) (bs:List UInt8) (x:ByteArray) (w0:World) (hs:Lst S w0 1 s (byr bs)) (hn:bs.length≤10000000000) (hN:x.size≤10000000000) :
  Calls prog 173 #[s.v,.string x] w0 (fun e w'=>∃r:Sl,e=.returned r.v∧RetO w0 5 1 (byr (bs++qH x)) r w'):=by
 refine w_I4 _ _ w0 (fun r w'=>RetO w0 5 1 (byr (bs++qH x)) r w') ?_
 unfold m_I4
 rw [show IntKind.u64.wrap (x.size:Int)=(x.size:Int) by simp [IntKind.wrap,IntKind.bits,IntKind.signed];omega]
 refine (tA s bs x.size w0 hs hn (by omega)).mono ?_
 rintro _ w1 ⟨r1,rfl,h1⟩
 exact ⟨r1,rfl,h1.text hn hN⟩
end Go.Proofs
end
section
namespace Go.SE
section
variable {P:Program} {n:Nat} {ρ:Env} {w:World} {ds:List Deferred} {Q:Exit→Act→World→Prop} {a:Act}
theorem jDN {c1 c2:Code} (ha:Rep ds n ρ a)
  (h:wpE (x:=⟨none,ds⟩) P n c1 (fun e ρ' w'=>match e with | .normal=>∀a',Rep ds n ρ' a'→c2.wp P Q a' w' | .panic ch=>∀a',Rep ds n ρ' a'→Q (.panic ch) a' w' | _=>False) ρ w):(Code.seq c1 c2).wp P Q a w:=by
 refine wp_seq (wpIn_wide.1 (wpIn_mono (h a ha) ?_))
 rintro e a' w' ⟨ρ',⟨hr,hq⟩ | ⟨rfl,_,_,D,hr,hD,hq⟩⟩
 ·cases e <;> first | exact hq.elim | exact hq _ hr
 ·exact hq.elim
theorem jKT {c:Code} (ha:Rep ds n ρ a)
  (h:wpE (x:=⟨none,ds⟩) P n c (fun e ρ' w'=>match e with | .normal=>∀a',Rep ds n ρ' a'→Q .normal a' w' | .panic ch=>∀a',Rep ds n ρ' a'→Q (.panic ch) a' w' | _=>False) ρ w):c.wp P Q a w:=by
 refine wpIn_wide.1 (wpIn_mono (h a ha) ?_)
 rintro e a' w' ⟨ρ',⟨hr,hq⟩ | ⟨rfl,_,_,D,hr,hD,hq⟩⟩
 ·cases e <;> first | exact hq.elim | exact hq _ hr
 ·exact hq.elim
theorem jNP {id t:Nat} {f:FuncId} {caps:Array Operand} {ty ty':TypeId} {pos pos':String} {aft aft':Array Edge} {c2:Code} (ha:Rep ds n ρ a) (ht:t<n)
  (h:∀a',Rep (⟨.fn (.func f) (caps.map (evE ρ)),#[]⟩ :: ds) n (put ρ (some t) (.func (.func f) #[] (caps.map (evE ρ)))) a'→c2.wp P Q a' w) :
  (Code.seq (.region id #[⟨some t,.makeFunc (.func f) #[] caps,ty,pos,aft,none⟩,⟨none,.defer ⟨.value (.tmp t),#[],#[]⟩,ty',pos',aft',none⟩] false) c2).wp P Q a w:=by
 have h1:Rep ds n (put ρ (some t) (.func (.func f) #[] (caps.map (evE ρ)))) (a.put (some t) (.func (.func f) #[] (caps.map (evE ρ)))):=ha.put (fun k e=>by cases e;exact ht) _
 have h2:=h ({ (a.put (some t) (.func (.func f) #[] (caps.map (evE ρ)))) with defers:=⟨.fn (.func f) (caps.map (evE ρ)),#[]⟩ :: ds }.put none undef) ⟨rfl,h1.size,h1.get⟩
 refine wp_seq ((wpIn_wide (n:=0)).1 (wpIn_region_lit (l:=[_,_]) ?_))
 unfold wpListIn
 rw [if_pos (by simp [Region.wanted])]
 refine jCK (ro:=none) ⟨by simp,?_⟩
 rw [ha.eval]
 simp only [execOp,Instr.makeFunc]
 show wpListIn _ 0 P _ _ _ _ _
 unfold wpListIn
 rw [if_pos (by simp [Region.wanted])]
 refine ⟨fun f _=>trivial,?_⟩
 have hev:(a.put (some t) (.func (.func f) #[] (caps.map (evE ρ)))).eval (.tmp t)=.func (.func f) #[] (caps.map (evE ρ)):=by
  rw [h1.eval];simp [evE,put,upd]
 have hd:=h1.defers
 simp [Oper.semAt,Fence.wide,execOp,resolve,hev,Deferred.ofValue,Oper.uponIn,wpListIn,Exit.then,hd]
 exact h2
theorem jIN {f:FuncId} {fn:Func} {c:Code} {args:List Value} {R:Ending→World→Prop} (hf:P.funcs[f]?=some fn) (hb:fn.body=some c) (hn:fn.ntmps=n) (hl:args.length≤n)
  (h:∀a,Rep [] n (jGU args) a→c.wp P (bodyPostD P fn R) a w):Calls P f args.toArray w R:=by
 subst hn;exact calls_of_wp_defers hf hb (h _ (jDE args hl))
inductive Recov:FrameMode→Value→FrameMode→Prop
 | idle:Recov .returning .nilIface .returning
 | hit (v:Value) (older:List PanicEntry):Recov (.panicking ({ v:=v,recovered:=false } :: older)) v (.panicking ({ v:=v,recovered:=true } :: older))
def bodyEN (P:Program) (fn:Func) (n:Nat) (R:Ending→World→Prop):Exit→Env→World→Prop
 | .normal,ρ,w=>∃v,(∀ds a,Rep ds n ρ a→(results fn a.tmps).run P w=.ok v w)∧R (.returned v) w
 | .panic ch,_,w=>R (.panicked ch) w
 | _,_,_=>False
theorem jAN {id t t2:Nat} {f:FuncId} {fn:Func} {c:Code} {args:List Value} {v:Value} {u u':FrameMode} {R:Ending→World→Prop} {ty ty':TypeId} {pos pos':String} {aft aft':Array Edge}
  (hu:Recov u v u') (hf:P.funcs[f]?=some fn)
  (hb:fn.body=some (Code.seq (.region id #[⟨some t,.call ⟨.builtin .recover,#[],#[]⟩,ty,pos,aft,none⟩,⟨some t2,.assign (.tmp t),ty',pos',aft',none⟩] false) c))
  (hn:fn.ntmps=n) (hl:args.length≤n) (ht:t<n) (ht2:t2<n)
  (h:wpE (x:=⟨none,[]⟩) P n c (bodyEN P fn n R) (put (put (jGU args) (some t) v) (some t2) v) w) :
  CallsD P f args.toArray u w (fun e u1 w'=>u1=u'∧R e w'):=by
 subst hn
 refine callsD_of_wpS hf hb fun c₀ cs hm=>?_
 apply wpS_seq
 apply wpS_region
 have hr:=jDE args hl
 have h1:Rep [] fn.ntmps (put (jGU args) (some t) v) _:=hr.put (d:=some t) (fun k e=>by cases e;exact ht) v
 have h2:Rep [] fn.ntmps (put (put (jGU args) (some t) v) (some t2) v) _:=h1.put (d:=some t2) (fun k e=>by cases e;exact ht2) v
 have hv:((Act.mk (args.toArray++Array.replicate (fn.ntmps - args.toArray.size) undef) []).put (some t) v).eval (.tmp t)=v:=by
  rw [h1.eval];simp [evE,put,upd]
 have key:∀cs',cs'={ c₀ with mode:=u' } :: cs→c.wpS P (bodyPostS P fn c₀ cs fun e u1 w'=>u1=u'∧R e w') ((((Act.mk (args.toArray++Array.replicate (fn.ntmps - args.toArray.size) undef) []).put (some t) v)).put (some t2) v) cs' w:=by
  rintro cs' rfl;refine wpS_of_wp (jKT h2 (jDC ?_ h));intro e ρ' w' hq;cases e with
  | normal =>
   intro a' ha'
   obtain ⟨x,hx,hR⟩:=hq
   exact ⟨ha'.defers,u',rfl,x,hx _ a' ha',rfl,hR⟩
  | panic ch =>
   intro a' ha'
   exact ⟨ha'.defers,u',rfl,rfl,hq⟩
  | _=>exact hq.elim
 have h0:(execOp (Act.mk (args.toArray++Array.replicate (fn.ntmps - args.toArray.size) undef) []).eval ⟨some t,.call ⟨.builtin .recover,#[],#[]⟩,ty,pos,aft,none⟩).run P w=.ok .recover w:=by
  simp [execOp,resolve,invoke,builtin]
 show wpOpsS P _ _ [0,1] _ _ _
 cases hu with
 | idle =>
  have hrd:recoverD (c₀ :: cs)=none:=by simp [recoverD,hm]
  simp only [wpOpsS,List.getElem?_toArray,List.getElem?_cons_zero,List.getElem?_cons_succ]
  rw [if_pos (by simp [Region.wanted]),h0]
  simp only [hrd]
  rw [if_pos (by simp [Region.wanted])]
  simp only [execOp,hv,Oper.upon]
  exact key _ (by cases c₀;simp_all)
 | hit v older =>
  have hrd:recoverD (c₀ :: cs)=some (v,{ c₀ with mode:=.panicking ({ v:=v,recovered:=true } :: older) } :: cs):=by simp [recoverD,hm]
  simp only [wpOpsS,List.getElem?_toArray,List.getElem?_cons_zero,List.getElem?_cons_succ]
  rw [if_pos (by simp [Region.wanted]),h0]
  simp only [hrd]
  rw [if_pos (by simp [Region.wanted])]
  simp only [execOp,hv,Oper.upon]
  exact key _ rfl
end
end Go.SE
end
section
open Go Go.SE
namespace Go.Proofs
open Tryz
attribute [local irreducible] Calls CallsD
theorem jLT {P:Program} {ε:Operand→Value} {w:World} {d:Option Tmp} {ty:TypeId} {pos:String} {aft:Array Edge} {g:Option (Nat×Bool)} {x:Operand} {X T:TypeId} {v:Value} {td:TypeDesc} (hx:ε x=.iface T v) (ht:P.underlying T=some td) (hi:∀m,td≠.interface m) :
  (execOp ε ⟨d,.typeAssert x X T true,ty,pos,aft,g⟩).run P w=.ok (.value (.tuple #[v,.bool true])) w:=by
 simp only [execOp,hx]
 have:(Instr.typeAssert (.iface T v) X T true).run P w=.ok (.tuple #[v,.bool true]) w:=by
  unfold Instr.typeAssert;simp only [Sem.run_bind,run_underlying ht,Result.andThen];cases td <;> first | exact absurd rfl (hi _) | simp
 simp [this]
set_option maxRecDepth 100000 in
theorem jPN (pf pr:Addr) (w:World):CallsD prog 245 #[.pointer (some pf),.pointer (some pr)] .returning w (fun e u' w'=>u'=.returning∧(e=.returned (.tuple #[])∧w'=w)):=by
 refine jAN (args:=[.pointer (some pf),.pointer (some pr)]) (R:=fun e w'=>e=.returned (.tuple #[])∧w'=w) .idle func245 rfl ntmps245 (Nat.le_of_ble_eq_true rfl) (by decide) (by decide) ?_;refine zB ?_;refine rg ?_;refine q0 .nilIface ?_;refine q0 (.bool false) ?_;refine zC ?_;refine zN ?_;refine vI (t:=false) (by kernel_rfl) (fun hc1=>by cases hc1) (fun hc1=>?_);refine zD ?_;exact ⟨.tuple #[],fun ds a ha=>by rw [results_none results245],rfl,rfl⟩
set_option maxRecDepth 100000 in
theorem jSA (pf pr r:Addr) (from_ e:Int) (older:List PanicEntry) (w:World) (hf:w.cell? pf=some (.int .i64 from_)) (hr:w.cell? pr=some (.pointer (some r))) (h1:zT w (r.add 1)) (h2:zT w (r.add 2)) (h3:zT w (r.add 3)) :
  CallsD prog 245 #[.pointer (some pf),.pointer (some pr)] (.panicking ({ v:=.iface 274 (.int .i64 e),recovered:=false } :: older)) w (fun e' u' w'=>u'=.panicking ({ v:=.iface 274 (.int .i64 e),recovered:=true } :: older) ∧
   (e'=.returned (.tuple #[])∧w'=((w.setCell (r.add 1) (.int .i64 from_)).setCell (r.add 2) (.int .i64 e)).setCell (r.add 3) (.int .i64 from_))):=by
 refine jAN (args:=[.pointer (some pf),.pointer (some pr)]) (R:=fun e' w'=>e'=.returned (.tuple #[])∧w'=((w.setCell (r.add 1) (.int .i64 from_)).setCell (r.add 2) (.int .i64 e)).setCell (r.add 3) (.int .i64 from_)) (.hit _ older) func245 rfl ntmps245 (Nat.le_of_ble_eq_true rfl) (by decide) (by decide) ?_
 refine zB ?_
 refine rg ?_
 refine q0 (.iface 274 (.int .i64 e)) ?_
 refine q0 (.bool true) ?_
 refine zC ?_
 refine zN ?_
 refine vI (t:=true) (by kernel_rfl) (fun hc1=>?_) (fun hc1=>by cases hc1)
 refine zB ?_
 refine rg ?_
 refine q0 (.iface 274 (.int .i64 e)) ?_
 refine q2 (.tuple #[.int .i64 e,.bool true]) (jLT (by kernel_rfl) underlying274 (by intro m;simp)) ?_
 refine q0 (.tuple #[.int .i64 e,.bool true]) ?_
 refine q0 (.int .i64 e) ?_
 refine q0 (.bool true) ?_
 refine q0 (.int .i64 e) ?_
 refine q0 (.bool true) ?_
 refine zC ?_
 refine zN ?_
 refine zB ?_
 refine zB ?_
 refine rg ?_
 refine q0 (.bool true) ?_
 refine q0 (.bool false) ?_
 refine zC ?_
 refine zN ?_
 refine vI (t:=false) (by kernel_rfl) (fun hc1=>by cases hc1) (fun hc1=>?_)
 refine zD ?_
 refine zN ?_
 refine rg ?_
 refine q2 (.pointer (some r)) (uU (a:=pr) (by kernel_rfl) (isAgg230 _) hr) ?_
 refine q2 (.pointer (some r)) (uU (a:=pr) (by kernel_rfl) (isAgg230 _) hr) ?_
 refine q2 (.pointer (some r)) (uU (a:=pr) (by kernel_rfl) (isAgg230 _) hr) ?_
 refine q2 (.int .i64 from_) (uU (a:=pf) (by kernel_rfl) (isAgg3 _) hf) ?_
 refine q0 (.int .i64 e) ?_
 refine q2 (.int .i64 from_) (uU (a:=pf) (by kernel_rfl) (isAgg3 _) hf) ?_
 refine q0 (.pointer (some r)) ?_
 refine q0 (.pointer (some (r.add 1))) ?_
 refine yK (zJ rfl) (tC (a:=r.add 1) (v:=.int .i64 from_) (by kernel_rfl) (by kernel_rfl) rfl (sizeOf3 _) h1) ?_
 rintro w1 rfl
 refine q0 (.pointer (some r)) ?_
 refine q0 (.pointer (some (r.add 2))) ?_
 refine yK (zJ rfl) (tC (a:=r.add 2) (v:=.int .i64 e) (by kernel_rfl) (by kernel_rfl) rfl (sizeOf33 _) (zT.setCell h2)) ?_
 rintro w2 rfl
 refine q0 (.pointer (some r)) ?_
 refine q0 (.pointer (some (r.add 3))) ?_
 refine yK (zJ rfl) (tC (a:=r.add 3) (v:=.int .i64 from_) (by kernel_rfl) (by kernel_rfl) rfl (sizeOf3 _) (zT.setCell (zT.setCell h3))) ?_
 rintro w3 rfl
 refine zC ?_
 exact ⟨.tuple #[],fun ds a ha=>by rw [results_none results245],rfl,rfl⟩
theorem jSR {P:Program} {w:World} {f:FuncId} {cap args:Array Value} (hc:∀args w,(callFunc f args).run P w=.ok (.enter f args) w) (h:cap=args):(invoke (.fn (.func f) cap) #[]).run P w=.ok (.enter f args) w:=by
 subst h;simp [invoke,hc]
set_option maxRecDepth 100000 in
theorem jCI (r:Addr) (do_:Value) (e:Int) (w0:World) (he:w0.cell? (r.add 2)=some (.int .i64 e)) (h0:e≠0) :
  Calls prog 227 #[.pointer (some r),do_] w0 (fun e w'=>e=.returned (.tuple #[])∧Pure w0 w'):=by
 refine jCU (args:=[.pointer (some r),do_]) func227 rfl ntmps227 (Nat.le_of_ble_eq_true rfl) ?_
 refine zB ?_
 refine rg ?_
 refine yX (O:=(.cells #[(.pointer (some r))] 230)) (fun p=>.pointer (some p)) (zJ rfl) (jTI (cs:=#[(.pointer (some r))]) (by kernel_rfl)) ?_
 intro p1 w1 hn1
 have E1:Pure w0 w1:=Ext.new hn1
 have hp1:w1.cell? p1=some (.pointer (some r)):=(Box.of_newA hn1).cell0
 have he1:=E1.cell he id
 refine zC ?_
 refine zN ?_
 refine zB ?_
 refine zB ?_
 refine rg ?_
 refine q2 (.pointer (some r)) (uU (a:=p1) (by kernel_rfl) (isAgg230 _) hp1) ?_
 refine q2 (.bool false) (uF (x:=some r) (by kernel_rfl) rfl underlying230) ?_
 refine q0 (.bool false) ?_
 refine q2 (.pointer (some r)) (uU (a:=p1) (by kernel_rfl) (isAgg230 _) hp1) ?_
 refine q0 (.pointer (some r)) ?_
 refine q0 (.pointer (some (r.add 2))) ?_
 refine q2 (.int .i64 e) (uU (a:=r.add 2) (by kernel_rfl) (isAgg33 _) he1) ?_
 refine q0 (.bool ((e:Int) != 0)) ?_
 refine q0 (.bool ((e:Int) != 0)) ?_
 refine zC ?_
 refine zN ?_
 refine vI (t:=true) (by rw [show ((e:Int) != 0)=true by simpa using h0];kernel_rfl) (fun hc1=>?_) (fun hc1=>by cases hc1)
 refine jNO ?_
 refine vA ?_
 exact jFH (.inl rfl) results227 ⟨rfl,E1⟩
set_option maxRecDepth 100000 in
theorem jKO (r:Addr) (fd:FuncId) (caps:Array Value) (at_:Int) (w0:World) (K:WP) (h1:w0.cell? (r.add 1)=some (.int .i64 at_)) (h2:w0.cell? (r.add 2)=some (.int .i64 0))
  (hc:∀args w,(callFunc fd args).run prog w=.ok (.enter fd args) w)
  (hdo:∀w1 p pf,Pure w0 w1→w0.heap.size≤Addr.block p→w0.heap.size≤Addr.block pf→w1.cell? p=some (.pointer (some r))→w1.cell? pf=some (.int .i64 at_) →
   Calls prog fd caps w1 (fun e w2=>(e=.returned (.tuple #[])∧K w2)∨∃x,e=.panicked [{ v:=.iface 274 (.int .i64 x),recovered:=false }]∧w2.cell? p=some (.pointer (some r))∧w2.cell? pf=some (.int .i64 at_)∧zT w2 (r.add 1)∧zT w2 (r.add 2)∧zT w2 (r.add 3) ∧
    K (((w2.setCell (r.add 1) (.int .i64 at_)).setCell (r.add 2) (.int .i64 x)).setCell (r.add 3) (.int .i64 at_)))) :
  Calls prog 227 #[.pointer (some r),.func (.func fd) #[] caps] w0 (fun e w'=>e=.returned (.tuple #[])∧K w'):=by
 refine jIN (args:=[.pointer (some r),.func (.func fd) #[] caps]) func227 rfl ntmps227 (Nat.le_of_ble_eq_true rfl) ?_
 intro a ha
 refine jDN ha ?_
 refine rg ?_
 refine yX (O:=(.cells #[(.pointer (some r))] 230)) (fun p=>.pointer (some p)) (zJ rfl) (jTI (cs:=#[(.pointer (some r))]) (by kernel_rfl)) ?_
 intro p1 w1 hn1
 have E1:Pure w0 w1:=Ext.new hn1
 have hp1:w1.cell? p1=some (.pointer (some r)):=(Box.of_newA hn1).cell0
 have he1:=E1.cell h2 id
 have hb1:=hn1.at_size
 clear ha
 refine zC ?_
 intro a ha
 refine jDN ha ?_
 refine zB ?_
 refine rg ?_
 refine q2 (.pointer (some r)) (uU (a:=p1) (by kernel_rfl) (isAgg230 _) hp1) ?_
 refine q2 (.bool false) (uF (x:=some r) (by kernel_rfl) rfl underlying230) ?_
 refine q0 (.bool false) ?_
 refine q2 (.pointer (some r)) (uU (a:=p1) (by kernel_rfl) (isAgg230 _) hp1) ?_
 refine q0 (.pointer (some r)) ?_
 refine q0 (.pointer (some (r.add 2))) ?_
 refine q2 (.int .i64 0) (uU (a:=r.add 2) (by kernel_rfl) (isAgg33 _) he1) ?_
 refine q0 (.bool false) ?_
 refine q0 (.bool false) ?_
 refine zC ?_
 refine zN ?_
 refine vI (t:=false) (by kernel_rfl) (fun hc1=>by cases hc1) (fun hc1=>?_)
 refine zD ?_
 clear ha
 intro a ha
 refine jDN ha ?_
 refine rg ?_
 refine q2 (.pointer (some r)) (uU (a:=p1) (by kernel_rfl) (isAgg230 _) hp1) ?_
 refine q0 (.pointer (some r)) ?_
 refine q0 (.pointer (some (r.add 1))) ?_
 refine q2 (.int .i64 at_) (uU (a:=r.add 1) (by kernel_rfl) (isAgg3 _) (E1.cell h1 id)) ?_
 refine yX (O:=(.cells #[(.int .i64 0)] 3)) (fun p=>.pointer (some p)) (zJ rfl) (zI (zeroValue3 _) rfl) ?_
 intro p2 w2 hn2
 have E2:Pure w0 w2:=E1.trans (Ext.new hn2)
 have hb2:=hn2.at_size
 have B2:=Box.of_newA hn2
 refine yK (zJ rfl) (tC (a:=p2) (v:=.int .i64 at_) (by kernel_rfl) (by kernel_rfl) rfl (sizeOf3 _) (B2.canW0 (by simp))) ?_
 intro w3 hw3
 have hb3:=World.block_lt_of_cell? w1 p1 hp1
 have E3:Pure w0 w3:=E2.own (p:=p2) (by have:=E1.size;omega) (hw3▸Ext.setCell p2 _)
 have hp3:w3.cell? p1=some (.pointer (some r)):=by
  rw [hw3];exact (Ext.setCell p2 _).cell ((Ext.new (F:=None) hn2).cell hp1 id) (fun e=>by omega)
 have hf3:w3.cell? p2=some (.int .i64 at_):=by
  rw [hw3];exact (B2.set0).cell0
 refine zC ?_
 clear ha
 intro a ha
 refine jNP ha (by decide) ?_
 clear ha
 intro a ha
 refine jKT ha ?_
 refine qJ (by kernel_rfl) ?_
 refine qB 1 ?_
 refine q0 (.func (.func fd) #[] caps) ?_
 refine zC ?_
 refine jDS (zJ rfl) (by intro c hc;cases hc) (jNN (caps:=caps) (args:=#[]) (args':=caps) (by kernel_rfl) hc rfl (by simp)) ((hdo w3 p1 p2 E3 (by omega) (by have:=E1.size;omega) hp3 hf3).mono ?_)
 rintro e w4 (⟨rfl,hK⟩ | ⟨x,rfl,ha1,ha2,hw1,hw2,hw3',hK⟩)
 ·refine .inl ⟨_,rfl,?_⟩
  refine jQG ?_
  clear ha
  intro a ha
  show Leaves _ _ _ _ _ _ _
  rw [ha.defers]
  refine leaves_cons (f:=245) (args:=#[.pointer (some p2),.pointer (some p1)]) (by simp) (jSR call245 (by simp [evE,put,upd])) ?_
  refine (jPN p2 p1 w4).mono ?_
  rintro e u' w5 ⟨rfl,rfl,rfl⟩
  exact ⟨_,results_none results227 _ _ _,rfl,hK⟩
 ·refine .inr ⟨_,rfl,?_⟩
  intro ρ' 
  clear ha
  intro a ha
  show Leaves _ _ _ _ _ _ _
  rw [ha.defers]
  refine leaves_cons (f:=245) (args:=#[.pointer (some p2),.pointer (some p1)]) (by simp) (jSR call245 (by simp [evE,put,upd])) ?_
  refine (jSA p2 p1 r at_ x [] w4 ha2 ha1 hw1 hw2 hw3').mono ?_
  rintro e u' w5 ⟨rfl,rfl,rfl⟩
  exact ⟨_,results_none results227 _ _ _,rfl,hK⟩
structure RdAt (S:NP) (w:World) (a:Addr) (s:Sl) (bs:List UInt8) (at_ err spot:Int):Prop where
 box:Box w a [s.v,.int .i64 at_,.int .i64 err,.int .i64 spot] 258
 lst:Lst S w 1 s (byr bs)
 apart:∀b,S b→b≠a.block
 small:bs.length≤100000000000
 room:s.len≤s.cap
def jRO (e:Int):List PanicEntry:=[{ v:=.iface 274 (.int .i64 e),recovered:=false }]
section
variable {S:NP} {w w':World} {a:Addr} {s:Sl} {bs:List UInt8} {at_ err spot:Int}
theorem RdAt.ext {F:NP} (h:RdAt S w a s bs at_ err spot) (E:Ext F w w') (hF:∀b,S b→¬ F b) (ha:¬ F a.block):RdAt S w' a s bs at_ err spot :=
 ⟨h.box.ext E ha,h.lst.ext E hF,h.apart,h.small,h.room⟩
theorem RdAt.pure (h:RdAt S w a s bs at_ err spot) (E:Pure w w'):RdAt S w' a s bs at_ err spot:=h.ext E (fun _ _ h=>h) id
theorem RdAt.atC (h:RdAt S w a s bs at_ err spot):w.cell? (a.add 1)=some (.int .i64 at_):=h.box.cell (i:=1) rfl
theorem RdAt.errC (h:RdAt S w a s bs at_ err spot):w.cell? (a.add 2)=some (.int .i64 err):=h.box.cell (i:=2) rfl
theorem RdAt.setAt (h:RdAt S w a s bs at_ err spot) (k:Int):RdAt S (w.setCell (a.add 1) (.int .i64 k)) a s bs k err spot :=
 ⟨h.box.set 1 _,h.lst.ext (Ext.setCell _ _) (fun b hb e=>h.apart b hb (by rw [zR] at e;exact e)),h.apart,h.small,h.room⟩
theorem RdAt.setErr (h:RdAt S w a s bs at_ err spot) (k:Int):RdAt S (w.setCell (a.add 2) (.int .i64 k)) a s bs at_ k spot :=
 ⟨h.box.set 2 _,h.lst.ext (Ext.setCell _ _) (fun b hb e=>h.apart b hb (by rw [zR] at e;exact e)),h.apart,h.small,h.room⟩
theorem RdAt.setSpot (h:RdAt S w a s bs at_ err spot) (k:Int):RdAt S (w.setCell (a.add 3) (.int .i64 k)) a s bs at_ err k :=
 ⟨h.box.set 3 _,h.lst.ext (Ext.setCell _ _) (fun b hb e=>h.apart b hb (by rw [zR] at e;exact e)),h.apart,h.small,h.room⟩
theorem qP {k:Nat} {v:Value}:Ext (·=a.block) w (w.setCell (a.add k) v):=(Ext.setCell _ _).mono (fun i _ e=>by rw [zR] at e;exact e)
end
theorem jSY {S:NP} (a:Addr) (s:Sl) (bs:List UInt8) (at_:Nat) (err spot:Int) (w0:World) (h:RdAt S w0 a s bs at_ err spot) (hat:at_≤bs.length) :
  Calls prog 241 #[.pointer (some a)] w0 (fun e w'=>(∃hlt:at_<bs.length,e=.returned (.int .u8 (bs[at_].toNat:Int))∧RdAt S w' a s bs ((at_+1:Nat):Int) err spot∧Ext (·=a.block) w0 w') ∨
   (at_=bs.length∧e=.panicked (jRO 3)∧RdAt S w' a s bs at_ err spot∧Ext (·=a.block) w0 w')):=by
 refine (w_Q1 (some a) w0 (fun o r w'=>(∃hlt:at_<bs.length,o=none∧r=(bs[at_].toNat:Int)∧RdAt S w' a s bs ((at_+1:Nat):Int) err spot∧Ext (·=a.block) w0 w')∨(at_=bs.length∧o=some (jRO 3)∧RdAt S w' a s bs at_ err spot∧Ext (·=a.block) w0 w')) ?_).mono ?_
 ·unfold m_Q1
  refine ⟨a,rfl,fun w1 hs=>?_⟩
  have h1:=h.pure hs.first
  have hl:s.len=bs.length:=by rw [h.lst.len,vR]
  refine ⟨_,h1.atC,a,rfl,s,h1.box.cell0,fun hc=>?_,fun hc=>?_⟩
  ·have:at_=bs.length:=by have:=beq_iff_eq.1 hc;omega
   exact .inr ⟨this,rfl,h1,Ext.pure hs.first⟩
  ·have hne:at_≠bs.length:=by have:=beq_eq_false_iff_ne.1 hc;omega
   have hlt:at_<bs.length:=by omega
   unfold m_Q1_j1
   refine ⟨a,rfl,_,h1.atC,a,rfl,h1.box.canW (i:=1) (by simp),id,?_⟩
   rintro w2 rfl
   have hw:IntKind.i64.wrap ((at_:Int)+1)=((at_+1:Nat):Int):=vK hlt (by have:=h.small;omega)
   rw [hw]
   have h2:=h1.setAt ((at_+1:Nat):Int)
   refine ⟨a,rfl,fun w3 hs3=>?_⟩
   have h3:=h2.pure hs3.ext
   have hw2:IntKind.i64.wrap (((at_+1:Nat):Int) - 1)=(at_:Int):=by
    rw [IntWalk.i64_in _ (by have:=h.small;omega)];omega
   obtain ⟨c,hc1,_,hc3⟩:=jLS h3.lst hlt
   refine ⟨s,h3.box.cell0,a,rfl,_,h3.atC,c,?_,_,hc3,.inl ⟨hlt,rfl,rfl,h3,((Ext.pure hs.first).trans qP).thenPure hs3.ext⟩⟩
   rw [hw2];exact hc1
 ·rintro e w' (⟨r,rfl,h⟩ | ⟨ch,rfl,h⟩)
  ·rcases h with ⟨hlt,_,rfl,h⟩ | ⟨_,h,_⟩
   ·exact .inl ⟨hlt,rfl,h⟩
   ·cases h
  ·rcases h with ⟨hlt,h,_⟩ | ⟨h1,h2,h⟩
   ·cases h
   ·cases h2;exact .inr ⟨h1,rfl,h⟩
theorem c_num {S:NP} (a:Addr) (s:Sl) (bs:List UInt8) (at_:Nat) (err spot:Int) (w0:World) (h:RdAt S w0 a s bs at_ err spot) (hat:at_≤bs.length) :
  Calls prog 229 #[.pointer (some a)] w0 (fun e w'=>(∃n k:Nat,uX 0 0 (bs.drop at_)=.ok (n,k)∧e=.returned (.int .u64 (n:Int))∧n<18446744073709551616∧at_+k≤bs.length∧RdAt S w' a s bs ((at_+k:Nat):Int) err spot∧Ext (·=a.block) w0 w') ∨
   (∃x:Nat,∃at':Int,uX 0 0 (bs.drop at_)=.error x∧e=.panicked (jRO x)∧RdAt S w' a s bs at' err spot∧Ext (·=a.block) w0 w')):=by
 refine (w_Z (some a) w0 (fun o r w' => (∃ n k : Nat, uX 0 0 (bs.drop at_) = .ok (n, k) ∧ o = none ∧ r = (n : Int) ∧ n < 18446744073709551616 ∧ at_ + k ≤ bs.length ∧ RdAt S w' a s bs ((at_ + k : Nat) : Int) err spot ∧ Ext (· = a.block) w0 w') ∨
   (∃x:Nat,∃at':Int,uX 0 0 (bs.drop at_)=.error x∧o=some (jRO x)∧RdAt S w' a s bs at' err spot∧Ext (·=a.block) w0 w')) ?_).mono ?_
 ·unfold m_Z
  refine ⟨fun n i w=>∃acc k:Nat,n=(acc:Int)∧i=(k:Int)∧k≤9∧acc<2 ^ (7*k)∧at_+k≤bs.length∧uX k acc (bs.drop (at_+k))=uX 0 0 (bs.drop at_)∧RdAt S w a s bs ((at_+k:Nat):Int) err spot∧Ext (·=a.block) w0 w,fun _ i _=>(10 - i).toNat,⟨0,0,rfl,rfl,by omega,by simp,by simpa using hat,rfl,by simpa using h,Ext.refl _⟩,?_⟩
  rintro _ _ wl ⟨acc,k,rfl,rfl,hk,hacc,hle,hrd,hR,hE⟩
  unfold m_Z_l1
  refine (jSY a s bs (at_+k) err spot wl hR hle).mono ?_
  rintro e w1 (⟨hlt,rfl,hR1,hE1⟩ | ⟨heq,rfl,hR1,hE1⟩)
  ·refine .inl ⟨_,rfl,?_⟩
   have hdrop:bs.drop (at_+k)=bs[at_+k] :: bs.drop (at_+k+1):=List.drop_eq_getElem_cons hlt
   generalize hcc:bs[at_+k]=c at *
   have hc:=c.toNat_lt
   rw [hdrop,xX] at hrd
   refine ⟨fun hb=>?_,fun hb=>?_⟩
   ·have hb':k=9∧1<c.toNat:=by simp at hb;omega
    rw [if_pos hb'] at hrd
    exact .inr ⟨11,_,hrd.symm,rfl,hR1,hE.trans hE1⟩
   ·have hb':¬ (k=9∧1<c.toNat):=by intro hh;simp at hb;omega
    rw [if_neg hb'] at hrd
    have hpw:c.toNat % 128*2 ^ (7*k)<18446744073709551616:=by
     by_cases h9:k=9
     ·subst h9;omega
     ·have h8:2 ^ (7*k)≤2 ^ 56:=Nat.pow_le_pow_right (by omega) (by omega);have h127:c.toNat % 128≤127:=by omega
      calc c.toNat % 128*2 ^ (7*k)≤127*2 ^ 56:=Nat.mul_le_mul h127 h8
       _<18446744073709551616:=by decide
    have hac:acc<18446744073709551616:=Nat.lt_of_lt_of_le hacc (by
     calc 2 ^ (7*k)≤2 ^ 63:=Nat.pow_le_pow_right (by omega) (by omega)
      _≤18446744073709551616:=by decide)
    have h7:IntKind.i64.wrap (7*(k:Int))=((7*k:Nat):Int):=by rw [IntWalk.i64_in _ (by omega)];simp
    have h128:128 ^ k=2 ^ (7*k):=by rw [Nat.pow_mul]
    have hsum:acc ||| (c.toNat % 128*2 ^ (7*k))=acc+c.toNat % 128*2 ^ (7*k):=jSM hacc
    have hsl:acc+c.toNat % 128*2 ^ (7*k)<18446744073709551616:=by
     rw [← hsum];exact Nat.or_lt_two_pow (n:=64) hac hpw
    unfold m_Z_j2
    rw [h7]
    refine ⟨_,jMG c.toNat hc,_,by rw [vX (by omega)];exact jTO _ _ (by omega) hpw,_,jQR _ _ hac hpw,?_⟩
    rw [hsum]
    refine ⟨fun hs=>?_,fun hs=>?_⟩
    ·have hs':c.toNat<128:=by have:=of_decide_eq_true hs;omega
     rw [if_pos hs'] at hrd
     refine ⟨fun hz=>?_,fun hz=>?_⟩
     ·have hz':c.toNat=0∧0<k:=by simp at hz;omega
      rw [if_pos hz'] at hrd
      exact .inr ⟨10,_,hrd.symm,rfl,hR1,hE.trans hE1⟩
     ·have hz':¬ (c.toNat=0∧0<k):=by intro hh;simp at hz;omega
      rw [if_neg hz',h128] at hrd
      rw [Nat.mod_eq_of_lt hs'] at hsl ⊢
      exact .inl ⟨_,k+1,hrd.symm,rfl,rfl,hsl,by omega,hR1,hE.trans hE1⟩
    ·have hs':¬ c.toNat<128:=by have:=of_decide_eq_false hs;omega
     rw [if_neg hs',h128] at hrd
     have hk9:k≠9:=by omega
     rw [vK (n:=10) (by omega) (by omega)]
     refine ⟨⟨_,k+1,rfl,rfl,by omega,?_,by omega,hrd,hR1,hE.trans hE1⟩,by show (10 - ((k+1:Nat):Int)).toNat<(10 - (k:Int)).toNat;omega⟩
     have:2 ^ (7*(k+1))=128*2 ^ (7*k):=by rw [Nat.mul_add,Nat.pow_add];omega
     rw [this]
     have h127:c.toNat % 128*2 ^ (7*k)≤127*2 ^ (7*k):=Nat.mul_le_mul_right _ (by omega)
     omega
  ·refine .inr ⟨_,rfl,.inr ⟨3,_,?_,rfl,hR1,hE.trans hE1⟩⟩
   rw [← hrd,heq,List.drop_length];rfl
 ·rintro e w' (⟨r,rfl,h⟩ | ⟨ch,rfl,h⟩)
  ·rcases h with ⟨n,k,h1,_,rfl,h⟩ | ⟨_,_,_,h,_⟩
   ·exact .inl ⟨n,k,h1,rfl,h⟩
   ·cases h
  ·rcases h with ⟨n,k,h1,h,_⟩ | ⟨x,at',h1,h2,h⟩
   ·cases h
   ·cases h2;exact .inr ⟨x,at',h1,rfl,h⟩
abbrev RdS (S:NP) (w:World) (a:Addr) (s:Sl) (bs:List UInt8) (r:Rd):Prop:=RdAt S w a s bs r.at_ r.err r.spot
theorem jCJ {w:World} {p:Addr} {u v:Value} {T:TypeId} (h:Box w p [u] T):Box (w.setCell p v) p [v] T:=h.set0
theorem RdAt.gives {S:NP} {w:World} {a:Addr} {s:Sl} {bs:List UInt8} {at_ err spot:Int} (h:RdAt S w a s bs at_ err spot) (f e:Int) :
  zT w (a.add 1)∧zT w (a.add 2)∧zT w (a.add 3)∧RdAt S (((w.setCell (a.add 1) (.int .i64 f)).setCell (a.add 2) (.int .i64 e)).setCell (a.add 3) (.int .i64 f)) a s bs f e f :=
 ⟨h.box.canW (i:=1) (by simp),h.box.canW (i:=2) (by simp),h.box.canW (i:=3) (by simp),((h.setAt f).setErr e).setSpot f⟩
theorem jAD {w:World} {a:Addr} {u v x:Value}:Ext (·=a.block) w (((w.setCell (a.add 1) u).setCell (a.add 2) v).setCell (a.add 3) x):=(qP.trans qP).trans qP
theorem jJG {S:NP} (a:Addr) (s:Sl) (bs:List UInt8) (r:Rd) (w0:World) (h:RdS S w0 a s bs r) (hat:r.at_≤bs.length) (hS:∀b,S b→b<w0.heap.size) :
  Calls prog 185 #[.pointer (some a)] w0 (fun e w'=>∃x:Int,e=.returned (.int .u64 x)∧x=((qM bs r).1:Int)∧RdS S w' a s bs (qM bs r).2∧Ext (·=a.block) w0 w'):=by
 refine w_L4 (some a) w0 (fun x w'=>x=((qM bs r).1:Int)∧RdS S w' a s bs (qM bs r).2∧Ext (·=a.block) w0 w') ?_
 unfold m_L4
 intro p1 w1 n1 p2 w2 n2
 have E1:Pure w0 w1:=Ext.new n1
 have E2:Pure w0 w2:=E1.trans (Ext.new n2)
 have hp1:w2.cell? p1=some (.pointer (some a)):=(Ext.new (F:=None) n2).cell (Box.of_newA n1).cell0 id
 have b1:=n1.at_size
 have b2:=n2.at_size
 have b12:p1.block≠p2.block:=by have:=World.block_lt_of_cell? w1 p1 (Box.of_newA n1).cell0;omega
 have ha0:=World.block_lt_of_cell? w0 a h.box.cell0
 have B2:=Box.of_newA n2
 have h2:=h.pure E2
 refine ⟨some a,hp1,?_⟩
 have fin:∀w3,(Box w3 p2 [.int .u64 ((qM bs r).1:Int)] 26∧RdS S w3 a s bs (qM bs r).2∧Ext (·=a.block) w0 w3)→∃v2:Int,w3.cell? p2=some (.int .u64 v2)∧zT w3 p2∧∀w4:World,w4=w3.setCell p2 (.int .u64 v2)→∃qV1:Int,w4.cell? p2=some (.int .u64 qV1)∧(qV1=((qM bs r).1:Int)∧RdS S w4 a s bs (qM bs r).2∧Ext (·=a.block) w0 w4):=by
  rintro w3 ⟨hB,hR,hE⟩;refine ⟨_,hB.cell0,hB.canW0 (by simp),?_⟩;rintro w4 rfl;have hx:Ext (·=p2.block) w3 (w3.setCell p2 (.int .u64 ((qM bs r).1:Int))):=Ext.setCell _ _;exact ⟨_,(jCJ hB).cell0,rfl,hR.ext hx (fun b hb e=>by have:=hS b hb;have:=E1.size;omega) (fun e=>by have:=E1.size;omega),hE.trans' hx (fun i hi e=>by have:=E1.size;omega)⟩
 by_cases he:r.err=0
 ·refine (jKO a 228 _ r.at_ w2 (fun w3=>Box w3 p2 [.int .u64 ((qM bs r).1:Int)] 26∧RdS S w3 a s bs (qM bs r).2∧Ext (·=a.block) w0 w3) h2.atC (by have:=h2.errC;rw [he] at this;exact this) call228 ?_).mono ?_
  ·intro w3 p pf E3 hp hpf hpc hpfc
   have h3:=h2.pure E3
   refine (w_Z4 p1 p2 w3 (fun o w4=>(o=none∧(Box w4 p2 [.int .u64 ((qM bs r).1:Int)] 26∧RdS S w4 a s bs (qM bs r).2∧Ext (·=a.block) w0 w4))∨(∃x,o=some (jRO x)∧w4.cell? p=some (.pointer (some a))∧w4.cell? pf=some (.int .i64 r.at_)∧zT w4 (a.add 1)∧zT w4 (a.add 2)∧zT w4 (a.add 3) ∧
    (Box (((w4.setCell (a.add 1) (.int .i64 r.at_)).setCell (a.add 2) (.int .i64 x)).setCell (a.add 3) (.int .i64 r.at_)) p2 [.int .u64 ((qM bs r).1:Int)] 26∧RdS S (((w4.setCell (a.add 1) (.int .i64 r.at_)).setCell (a.add 2) (.int .i64 x)).setCell (a.add 3) (.int .i64 r.at_)) a s bs (qM bs r).2∧Ext (·=a.block) w0 (((w4.setCell (a.add 1) (.int .i64 r.at_)).setCell (a.add 2) (.int .i64 x)).setCell (a.add 3) (.int .i64 r.at_))))) ?_).mono ?_
   ·unfold m_Z4
    refine ⟨some a,E3.cell hp1 id,?_⟩
    refine (c_num a s bs r.at_ r.err r.spot w3 h3 hat).mono ?_
    rintro e w4 (⟨n,k,hn,rfl,hlt,hle,hR,hE⟩ | ⟨x,at',hn,rfl,hR,hE⟩)
    ·refine .inl ⟨_,rfl,?_⟩
     have hB4:Box w4 p2 [.int .u64 0] 26:=(B2.pure E3).ext hE (fun e=>by have:=E1.size;omega)
     refine ⟨hB4.canW0 (by simp),?_⟩
     rintro w5 rfl
     have hx:Ext (·=p2.block) w4 (w4.setCell p2 (.int .u64 (n:Int))):=Ext.setCell _ _
     have hrn:qM bs r=(n,⟨r.at_+k,0,r.spot⟩):=by simp [qM,he,hn]
     rw [hrn]
     refine .inl ⟨rfl,jCJ hB4,?_,((Ext.pure (E2.trans E3)).trans hE).trans' hx (fun i hi e=>by have:=E1.size;omega)⟩
     have:=hR.ext hx (fun b hb e=>by have:=hS b hb;have:=E1.size;omega) (fun e=>by have:=E1.size;omega)
     rw [he] at this
     exact this
    ·refine .inr ⟨_,rfl,.inr ⟨x,rfl,?_⟩⟩
     have hrn:qM bs r=(0,⟨r.at_,x,r.at_⟩):=by simp [qM,he,hn]
     have hB4:Box w4 p2 [.int .u64 0] 26:=(B2.pure E3).ext hE (fun e=>by have:=E1.size;omega)
     obtain ⟨c1,c2,c3,hR'⟩:=hR.gives r.at_ x
     rw [hrn]
     exact ⟨hE.cell hpc (fun e=>by have:=E2.size;omega),hE.cell hpfc (fun e=>by have:=E2.size;omega),c1,c2,c3,hB4.ext jAD (fun e=>by have:=E1.size;omega),hR',((Ext.pure (E2.trans E3)).trans hE).trans jAD⟩
   ·rintro e w4 (⟨rfl,h⟩ | ⟨ch,rfl,h⟩)
    ·rcases h with ⟨_,h⟩ | ⟨_,h,_⟩
     ·exact .inl ⟨rfl,h⟩
     ·cases h
    ·rcases h with ⟨h,_⟩ | ⟨x,h1,h⟩
     ·cases h
     ·cases h1;exact .inr ⟨x,rfl,h⟩
  ·rintro e w3 ⟨rfl,hK⟩
   exact ⟨rfl,fin w3 hK⟩
 ·refine (jCI a _ r.err w2 h2.errC (by omega)).mono ?_
  rintro e w3 ⟨rfl,E3⟩
  have hrn:qM bs r=(0,r):=by simp [qM,he]
  refine ⟨rfl,fin w3 ?_⟩
  rw [hrn]
  exact ⟨B2.pure E3,h2.pure E3,Ext.pure (E2.trans E3)⟩
theorem c_Byte {S:NP} (a:Addr) (s:Sl) (bs:List UInt8) (r:Rd) (w0:World) (h:RdS S w0 a s bs r) (hat:r.at_≤bs.length) (hS:∀b,S b→b<w0.heap.size) :
  Calls prog 212 #[.pointer (some a)] w0 (fun e w'=>∃x:Int,e=.returned (.int .u8 x)∧x=((uD bs r).1:Int)∧RdS S w' a s bs (uD bs r).2∧Ext (·=a.block) w0 w'):=by
 refine w_E4 (some a) w0 (fun x w'=>x=((uD bs r).1:Int)∧RdS S w' a s bs (uD bs r).2∧Ext (·=a.block) w0 w') ?_
 unfold m_E4
 intro p1 w1 n1 p2 w2 n2
 have E1:Pure w0 w1:=Ext.new n1
 have E2:Pure w0 w2:=E1.trans (Ext.new n2)
 have hp1:w2.cell? p1=some (.pointer (some a)):=(Ext.new (F:=None) n2).cell (Box.of_newA n1).cell0 id
 have b1:=n1.at_size
 have b2:=n2.at_size
 have b12:p1.block≠p2.block:=by have:=World.block_lt_of_cell? w1 p1 (Box.of_newA n1).cell0;omega
 have ha0:=World.block_lt_of_cell? w0 a h.box.cell0
 have B2:=Box.of_newA n2
 have h2:=h.pure E2
 refine ⟨some a,hp1,?_⟩
 have fin:∀w3,(Box w3 p2 [.int .u8 ((uD bs r).1:Int)] 5∧RdS S w3 a s bs (uD bs r).2∧Ext (·=a.block) w0 w3)→∃v2:Int,w3.cell? p2=some (.int .u8 v2)∧zT w3 p2∧∀w4:World,w4=w3.setCell p2 (.int .u8 v2)→∃qV1:Int,w4.cell? p2=some (.int .u8 qV1)∧(qV1=((uD bs r).1:Int)∧RdS S w4 a s bs (uD bs r).2∧Ext (·=a.block) w0 w4):=by
  rintro w3 ⟨hB,hR,hE⟩;refine ⟨_,hB.cell0,hB.canW0 (by simp),?_⟩;rintro w4 rfl;have hx:Ext (·=p2.block) w3 (w3.setCell p2 (.int .u8 ((uD bs r).1:Int))):=Ext.setCell _ _;exact ⟨_,(jCJ hB).cell0,rfl,hR.ext hx (fun b hb e=>by have:=hS b hb;have:=E1.size;omega) (fun e=>by have:=E1.size;omega),hE.trans' hx (fun i hi e=>by have:=E1.size;omega)⟩
 by_cases he:r.err=0
 ·refine (jKO a 240 _ r.at_ w2 (fun w3=>Box w3 p2 [.int .u8 ((uD bs r).1:Int)] 5∧RdS S w3 a s bs (uD bs r).2∧Ext (·=a.block) w0 w3) h2.atC (by have:=h2.errC;rw [he] at this;exact this) call240 ?_).mono ?_
  ·intro w3 p pf E3 hp hpf hpc hpfc
   have h3:=h2.pure E3
   refine (w_A5 p1 p2 w3 (fun o w4=>(o=none∧(Box w4 p2 [.int .u8 ((uD bs r).1:Int)] 5∧RdS S w4 a s bs (uD bs r).2∧Ext (·=a.block) w0 w4))∨(∃x,o=some (jRO x)∧w4.cell? p=some (.pointer (some a))∧w4.cell? pf=some (.int .i64 r.at_)∧zT w4 (a.add 1)∧zT w4 (a.add 2)∧zT w4 (a.add 3) ∧
    (Box (((w4.setCell (a.add 1) (.int .i64 r.at_)).setCell (a.add 2) (.int .i64 x)).setCell (a.add 3) (.int .i64 r.at_)) p2 [.int .u8 ((uD bs r).1:Int)] 5∧RdS S (((w4.setCell (a.add 1) (.int .i64 r.at_)).setCell (a.add 2) (.int .i64 x)).setCell (a.add 3) (.int .i64 r.at_)) a s bs (uD bs r).2∧Ext (·=a.block) w0 (((w4.setCell (a.add 1) (.int .i64 r.at_)).setCell (a.add 2) (.int .i64 x)).setCell (a.add 3) (.int .i64 r.at_))))) ?_).mono ?_
   ·unfold m_A5
    refine ⟨some a,E3.cell hp1 id,?_⟩
    refine (jSY a s bs r.at_ r.err r.spot w3 h3 hat).mono ?_
    rintro e w4 (⟨hlt,rfl,hR,hE⟩ | ⟨heq,rfl,hR,hE⟩)
    ·refine .inl ⟨_,rfl,?_⟩
     have hB4:Box w4 p2 [.int .u8 0] 5:=(B2.pure E3).ext hE (fun e=>by have:=E1.size;omega)
     refine ⟨hB4.canW0 (by simp),?_⟩
     rintro w5 rfl
     have hx:Ext (·=p2.block) w4 (w4.setCell p2 (.int .u8 (bs[r.at_].toNat:Int))):=Ext.setCell _ _
     have hrn:uD bs r=(bs[r.at_].toNat,⟨r.at_+1,0,r.spot⟩):=by simp [uD,he,hlt]
     rw [hrn]
     refine .inl ⟨rfl,jCJ hB4,?_,((Ext.pure (E2.trans E3)).trans hE).trans' hx (fun i hi e=>by have:=E1.size;omega)⟩
     have:=hR.ext hx (fun b hb e=>by have:=hS b hb;have:=E1.size;omega) (fun e=>by have:=E1.size;omega)
     rw [he] at this
     exact this
    ·refine .inr ⟨_,rfl,.inr ⟨3,rfl,?_⟩⟩
     have hrn:uD bs r=(0,⟨r.at_,3,r.at_⟩):=by simp [uD,he,heq]
     have hB4:Box w4 p2 [.int .u8 0] 5:=(B2.pure E3).ext hE (fun e=>by have:=E1.size;omega)
     obtain ⟨c1,c2,c3,hR'⟩:=hR.gives r.at_ 3
     rw [hrn]
     exact ⟨hE.cell hpc (fun e=>by have:=E2.size;omega),hE.cell hpfc (fun e=>by have:=E2.size;omega),c1,c2,c3,hB4.ext jAD (fun e=>by have:=E1.size;omega),hR',((Ext.pure (E2.trans E3)).trans hE).trans jAD⟩
   ·rintro e w4 (⟨rfl,h⟩ | ⟨ch,rfl,h⟩)
    ·rcases h with ⟨_,h⟩ | ⟨_,h,_⟩
     ·exact .inl ⟨rfl,h⟩
     ·cases h
    ·rcases h with ⟨h,_⟩ | ⟨x,h1,h⟩
     ·cases h
     ·cases h1;exact .inr ⟨x,rfl,h⟩
  ·rintro e w3 ⟨rfl,hK⟩
   exact ⟨rfl,fin w3 hK⟩
 ·refine (jCI a _ r.err w2 h2.errC (by omega)).mono ?_
  rintro e w3 ⟨rfl,E3⟩
  have hrn:uD bs r=(0,r):=by simp [uD,he]
  refine ⟨rfl,fin w3 ?_⟩
  rw [hrn]
  exact ⟨B2.pure E3,h2.pure E3,Ext.pure (E2.trans E3)⟩
theorem c_Text {S:NP} (a:Addr) (s:Sl) (bs:List UInt8) (most:Nat) (r:Rd) (w0:World) (h:RdS S w0 a s bs r) (hat:r.at_≤bs.length) (hS:∀b,S b→b<w0.heap.size) (hm:most≤1000000000) :
  Calls prog 193 #[.pointer (some a),.int .i64 (most:Int)] w0 (fun e w'=>∃x:ByteArray,e=.returned (.string x)∧x=⟨(qQ bs most r).1.toArray⟩∧RdS S w' a s bs (qQ bs most r).2∧Ext (·=a.block) w0 w'):=by
 refine w_T4 (some a) most w0 (fun x w'=>x=⟨(qQ bs most r).1.toArray⟩∧RdS S w' a s bs (qQ bs most r).2∧Ext (·=a.block) w0 w') ?_
 unfold m_T4
 intro p1 w1 n1 pm w1' nm p2 w2 n2
 have E1:Pure w0 w1:=Ext.new n1
 have E1':Pure w0 w1':=E1.trans (Ext.new nm)
 have E2:Pure w0 w2:=E1'.trans (Ext.new n2)
 have hp1':w1'.cell? p1=some (.pointer (some a)):=(Ext.new (F:=None) nm).cell (Box.of_newA n1).cell0 id
 have hp1:w2.cell? p1=some (.pointer (some a)):=(Ext.new (F:=None) n2).cell hp1' id
 have hpm:w2.cell? pm=some (.int .i64 (most:Int)):=(Ext.new (F:=None) n2).cell (Box.of_newA nm).cell0 id
 have b1:=n1.at_size
 have bm:=nm.at_size
 have b2:=n2.at_size
 have b12:p1.block≠p2.block:=by have:=World.block_lt_of_cell? w1' p1 hp1';omega
 have ha0:=World.block_lt_of_cell? w0 a h.box.cell0
 have B2:=Box.of_newA n2
 have h2:=h.pure E2
 have g1:w0.heap.size≤p2.block:=by have:=E1'.size;omega
 have g2:w0.heap.size≤p1.block:=by omega
 have g3:w0.heap.size≤pm.block:=by have:=E1.size;omega
 refine ⟨some a,hp1,?_⟩
 have fin:∀w3,(Box w3 p2 [.string ⟨(qQ bs most r).1.toArray⟩] 9∧RdS S w3 a s bs (qQ bs most r).2∧Ext (·=a.block) w0 w3)→∃v2:ByteArray,w3.cell? p2=some (.string v2)∧zT w3 p2∧∀w4:World,w4=w3.setCell p2 (.string v2)→∃qV1:ByteArray,w4.cell? p2=some (.string qV1)∧(qV1=⟨(qQ bs most r).1.toArray⟩∧RdS S w4 a s bs (qQ bs most r).2∧Ext (·=a.block) w0 w4):=by
  rintro w3 ⟨hB,hR,hE⟩;refine ⟨_,hB.cell0,hB.canW0 (by simp),?_⟩;rintro w4 rfl;have hx:Ext (·=p2.block) w3 (w3.setCell p2 (.string ⟨(qQ bs most r).1.toArray⟩)):=Ext.setCell _ _;exact ⟨_,(jCJ hB).cell0,rfl,hR.ext hx (fun b hb e=>by have:=hS b hb;omega) (fun e=>by omega),hE.trans' hx (fun i hi e=>by omega)⟩
 by_cases he:r.err=0
 ·refine (jKO a 230 _ r.at_ w2 (fun w3=>Box w3 p2 [.string ⟨(qQ bs most r).1.toArray⟩] 9∧RdS S w3 a s bs (qQ bs most r).2∧Ext (·=a.block) w0 w3) h2.atC (by have:=h2.errC;rw [he] at this;exact this) call230 ?_).mono ?_
  ·intro w3 p pf E3 hp hpf hpc hpfc
   have h3:=h2.pure E3
   refine (w_S p1 pm p2 w3 (fun o w4=>(o=none∧(Box w4 p2 [.string ⟨(qQ bs most r).1.toArray⟩] 9∧RdS S w4 a s bs (qQ bs most r).2∧Ext (·=a.block) w0 w4))∨(∃x,o=some (jRO x)∧w4.cell? p=some (.pointer (some a))∧w4.cell? pf=some (.int .i64 r.at_)∧zT w4 (a.add 1)∧zT w4 (a.add 2)∧zT w4 (a.add 3) ∧
    (Box (((w4.setCell (a.add 1) (.int .i64 r.at_)).setCell (a.add 2) (.int .i64 x)).setCell (a.add 3) (.int .i64 r.at_)) p2 [.string ⟨(qQ bs most r).1.toArray⟩] 9∧RdS S (((w4.setCell (a.add 1) (.int .i64 r.at_)).setCell (a.add 2) (.int .i64 x)).setCell (a.add 3) (.int .i64 r.at_)) a s bs (qQ bs most r).2∧Ext (·=a.block) w0 (((w4.setCell (a.add 1) (.int .i64 r.at_)).setCell (a.add 2) (.int .i64 x)).setCell (a.add 3) (.int .i64 r.at_))))) ?_).mono ?_
   ·unfold m_S
    refine ⟨some a,E3.cell hp1 id,?_⟩
    refine (c_num a s bs r.at_ r.err r.spot w3 h3 hat).mono ?_
    have give:∀(x:Nat) (at':Int) (w4:World),qQ bs most r=([],⟨r.at_,x,r.at_⟩)→RdAt S w4 a s bs at' r.err r.spot→Ext (·=a.block) w3 w4→(∃y,some (jRO x)=some (jRO y)∧w4.cell? p=some (.pointer (some a))∧w4.cell? pf=some (.int .i64 r.at_)∧zT w4 (a.add 1)∧zT w4 (a.add 2)∧zT w4 (a.add 3) ∧
     (Box (((w4.setCell (a.add 1) (.int .i64 r.at_)).setCell (a.add 2) (.int .i64 y)).setCell (a.add 3) (.int .i64 r.at_)) p2 [.string ⟨(qQ bs most r).1.toArray⟩] 9∧RdS S (((w4.setCell (a.add 1) (.int .i64 r.at_)).setCell (a.add 2) (.int .i64 y)).setCell (a.add 3) (.int .i64 r.at_)) a s bs (qQ bs most r).2∧Ext (·=a.block) w0 (((w4.setCell (a.add 1) (.int .i64 r.at_)).setCell (a.add 2) (.int .i64 y)).setCell (a.add 3) (.int .i64 r.at_)))):=by
     intro x at' w4 hrn hR hE
     have hB4:Box w4 p2 [.string ⟨#[]⟩] 9:=(B2.pure E3).ext hE (fun e=>by omega)
     obtain ⟨c1,c2,c3,hR'⟩:=hR.gives r.at_ x
     rw [hrn]
     exact ⟨x,rfl,hE.cell hpc (fun e=>by have:=E2.size;omega),hE.cell hpfc (fun e=>by have:=E2.size;omega),c1,c2,c3,hB4.ext jAD (fun e=>by omega),hR',((Ext.pure (E2.trans E3)).trans hE).trans jAD⟩
    rintro e w4 (⟨n,k,hn,rfl,hlt,hle,hR,hE⟩ | ⟨x,at',hn,rfl,hR,hE⟩)
    ·refine .inl ⟨_,rfl,hE.kept (fun b hb=>hb.elim),_,hE.cell (E3.cell hpm id) (fun e=>by omega),fun hb=>?_,fun _=>⟨_,hE.cell (E3.cell hpm id) (fun e=>by omega),?_⟩⟩
     ·have:=of_decide_eq_true hb;omega
     ·rw [vX (by omega)]
      refine ⟨fun hb=>?_,fun hb=>?_⟩
      ·have hlt':most<n:=by have:=of_decide_eq_true hb;omega
       exact .inr (give 1 _ w4 (by simp [qQ,he,hn,hlt']) hR hE)
      ·have hlt':¬ most<n:=by have:=of_decide_eq_false hb;omega
       unfold m_S_j2
       intro w5 hs5
       have E5:=hs5.ext
       have hR5:=hR.pure E5
       have hp5:w5.cell? p1=some (.pointer (some a)):=E5.cell (hE.cell (E3.cell hp1 id) (fun e=>by omega)) id
       have hl:s.len=bs.length:=by rw [h.lst.len,vR]
       have hsm:=h.small
       have hE5:Ext (·=a.block) w3 w5:=hE.thenPure E5
       refine ⟨_,hp5,a,rfl,s,hR5.box.cell0,_,hp5,a,rfl,_,hR5.atC,?_⟩
       have hw1:IntKind.u64.wrap (IntKind.i64.wrap ((s.len:Int) - ((r.at_+k:Nat):Int)))=((bs.length - (r.at_+k):Nat):Int):=by
        rw [hl,IntWalk.i64_in _ (by omega),show ((bs.length:Int) - ((r.at_+k:Nat):Int))=((bs.length - (r.at_+k):Nat):Int) by omega,vX (by omega)]
       rw [hw1]
       refine ⟨fun hb2=>?_,fun hb2=>?_⟩
       ·have hg:bs.length<r.at_+k+n:=by have:=of_decide_eq_true hb2;omega
        exact .inr (give 3 _ w5 (by simp [qQ,he,hn,hlt',hg]) hR5 hE5)
       ·have hg:¬ bs.length<r.at_+k+n:=by have:=of_decide_eq_false hb2;omega
        have hrn:qQ bs most r=((bs.drop (r.at_+k)).take n,⟨r.at_+k+n,0,r.spot⟩):=by simp [qQ,he,hn,hlt',hg]
        unfold m_S_j3
        refine ⟨fun _=>True,trivial,?_⟩
        intro w6 hw6
        have E6:Pure w5 w6:=by rw [hw6];exact Ext.drew _
        have hR6:=hR5.pure E6
        have hp6:=E6.cell hp5 id
        have hn1:IntKind.i64.wrap (n:Int)=(n:Int):=IntWalk.i64_in _ (by omega)
        have hn2:IntKind.i64.wrap (((r.at_+k:Nat):Int)+(n:Int))=((r.at_+k+n:Nat):Int):=by rw [IntWalk.i64_in _ (by omega)];simp
        obtain ⟨s1,hr1,hL1⟩:=hR6.lst.sub (k:=.i64) (lo:=r.at_+k) (n:=n) jBG h.room (by rw [vR];omega)
        have hB6:Box w6 p2 [.string ⟨#[]⟩] 9:=((B2.pure E3).ext hE5 (fun e=>by omega)).pure E6
        have hL2:Lst S w6 1 s1 (byr ((bs.drop (r.at_+k)).take n)):=by
         have e:(List.drop (r.at_+k) (byr bs)).take n=byr ((bs.drop (r.at_+k)).take n):=by simp [byr,List.map_take,List.map_drop]
         rw [← e];exact hL1
        refine ⟨_,hp6,a,rfl,s,hR6.box.cell0,_,hp6,a,rfl,_,hR6.atC,_,hp6,a,rfl,_,hR6.atC,s1,by rw [hn1,hn2];exact hr1,_,jOD underlying54 underlying5 underlying9 hL2,hB6.canW0 (by simp),id,?_⟩
        rintro w7 rfl
        have hx:Ext (·=p2.block) w6 (w6.setCell p2 (.string ⟨((bs.drop (r.at_+k)).take n).toArray⟩)):=Ext.setCell _ _
        have hR7:=hR6.ext hx (fun b hb e=>by have:=hS b hb;omega) (fun e=>by omega)
        refine ⟨_,hx.cell hp6 (fun e=>b12 e),a,rfl,_,hR7.atC,a,rfl,hR7.box.canW (i:=1) (by simp),id,?_⟩
        rintro w8 rfl
        rw [hn1,hn2,hrn]
        have hR8:=hR7.setAt ((r.at_+k+n:Nat):Int)
        rw [he] at hR8
        exact .inl ⟨rfl,(jCJ hB6).ext qP (fun e=>by omega),hR8,((((Ext.pure (E2.trans E3)).trans hE5).thenPure E6).trans' hx (fun i hi e=>by omega)).trans qP⟩
    ·exact .inr ⟨_,rfl,.inr (give x at' w4 (by simp [qQ,he,hn]) hR hE)⟩
   ·rintro e w4 (⟨rfl,h⟩ | ⟨ch,rfl,h⟩)
    ·rcases h with ⟨_,h⟩ | ⟨_,h,_⟩
     ·exact .inl ⟨rfl,h⟩
     ·cases h
    ·rcases h with ⟨h,_⟩ | ⟨x,h1,h⟩
     ·cases h
     ·cases h1;exact .inr ⟨x,rfl,h⟩
  ·rintro e w3 ⟨rfl,hK⟩
   exact ⟨rfl,fin w3 hK⟩
 ·refine (jCI a _ r.err w2 h2.errC (by omega)).mono ?_
  rintro e w3 ⟨rfl,E3⟩
  have hrn:qQ bs most r=([],r):=by simp [qQ,he]
  refine ⟨rfl,fin w3 ?_⟩
  rw [hrn]
  exact ⟨B2.pure E3,h2.pure E3,Ext.pure (E2.trans E3)⟩
theorem jQN {w:World} {e:TypeId} {sz:Nat} {s:Sl} {rs:List (List Value)} (h:Rws w e sz s rs):s.len≤s.cap:=by
 rcases h.own with ⟨rfl,_⟩ | ⟨g,cur,_,_,hc,_⟩
 ·exact Nat.le_refl _
 ·rw [h.len];exact hc
theorem c_cNew {S:NP} (s:Sl) (bs:List UInt8) (w0:World) (hs:Lst S w0 1 s (byr bs)) (hz:s.a=none→s=Sl.nil) (hn:bs.length≤100000000000) :
  Calls prog 163 #[s.v] w0 (fun e w'=>∃x:Option Addr,e=.returned (.pointer x)∧∃a s',x=some a∧RdS s'.blk w' a s' bs ⟨0,0,0⟩∧Pure w0 w'∧w0.heap.size≤a.block∧(∀b,s'.blk b→w0.heap.size≤b∧b<w'.heap.size)):=by
 refine w_B4 _ w0 (fun x w'=>∃a s',x=some a∧RdS s'.blk w' a s' bs ⟨0,0,0⟩∧Pure w0 w'∧w0.heap.size≤a.block∧(∀b,s'.blk b→w0.heap.size≤b∧b<w'.heap.size)) ?_
 unfold m_B4
 refine (jJF s bs w0 hs hz hn).mono ?_
 rintro _ w1 ⟨r1,rfl,hR⟩
 refine ⟨r1,rfl,fun p2 w2 n2=>⟨p2,r1,rfl,?_,hR.pure.trans (Ext.new n2),by rw [n2.at_size];exact hR.pure.size,fun b hb=>⟨hR.own b hb,?_⟩⟩⟩
 ·have hb1:∀b,r1.blk b→b<w1.heap.size:=fun b hb=>hR.rows.lt hb
  exact ⟨Box.of_newA n2,(hR.rows.pure (Ext.new n2)).lst,fun b hb e=>by have:=hb1 b hb;have:=n2.at_size;omega,hn,jQN hR.rows⟩
 ·exact (hR.rows.pure (Ext.new n2)).lt hb
theorem c_Left {S:NP} (a:Addr) (s:Sl) (bs:List UInt8) (r:Rd) (w0:World) (h:RdS S w0 a s bs r) (hat:r.at_≤bs.length) :
  Calls prog 164 #[.pointer (some a)] w0 (fun e w'=>∃x:Int,e=.returned (.int .i64 x)∧x=((bs.length - r.at_:Nat):Int)∧Pure w0 w'):=by
 refine w_C4 (some a) w0 (fun x w'=>x=((bs.length - r.at_:Nat):Int)∧Pure w0 w') ?_
 unfold m_C4
 refine ⟨fun hb=>(by cases hb),fun _=>⟨a,rfl,fun w1 hs=>?_⟩⟩
 have h1:=h.pure hs.first
 have hl:s.len=bs.length:=by rw [h.lst.len,vR]
 refine ⟨s,h1.box.cell0,a,rfl,_,h1.atC,?_,hs.first⟩
 rw [hl,IntWalk.i64_in _ (by have:=h.small;omega)];omega
theorem c_At {S:NP} (a:Addr) (s:Sl) (bs:List UInt8) (r:Rd) (w0:World) (h:RdS S w0 a s bs r) :
  Calls prog 165 #[.pointer (some a)] w0 (fun e w'=>∃x:Int,e=.returned (.int .i64 x)∧x=(r.at_:Int)∧w'=w0):=by
 refine w_D4 (some a) w0 (fun x w'=>x=(r.at_:Int)∧w'=w0) ?_
 unfold m_D4
 exact ⟨fun hb=>(by cases hb),fun _=>⟨a,rfl,_,h.atC,rfl,rfl⟩⟩
theorem c_Why {S:NP} (a:Addr) (s:Sl) (bs:List UInt8) (r:Rd) (w0:World) (h:RdS S w0 a s bs r) :
  Calls prog 213 #[.pointer (some a)] w0 (fun e w'=>∃x y:Int,e=.returned (.tuple #[.int .i64 x,.int .i64 y])∧x=(r.err:Int)∧y=(r.spot:Int)∧Pure w0 w'):=by
 refine w_F4 (some a) w0 (fun x y w'=>x=(r.err:Int)∧y=(r.spot:Int)∧Pure w0 w') ?_
 unfold m_F4
 refine ⟨fun hb=>(by cases hb),fun _=>⟨a,rfl,fun w1 hs=>?_⟩⟩
 have h1:=h.pure hs.first
 exact ⟨_,h1.errC,a,rfl,_,h1.box.cell (i:=3) rfl,rfl,rfl,hs.first⟩
theorem RetO.after {w w1 w2:World} {e:TypeId} {sz:Nat} {rs:List (List Value)} {s:Sl} (E:Pure w w1) (h:RetO w1 e sz rs s w2):RetO w e sz rs s w2 :=
 ⟨h.rows,fun b hb=>Nat.le_trans E.size (h.own b hb),E.trans h.pure⟩
section
variable {S:NP} (s:Sl) (bs:List UInt8) (k f t x a b:Int) (y:ByteArray) (m:Option Nat) (w0:World) (hs:Lst S w0 1 s (byr bs)) (hz:s.a=none→s=Sl.nil) (hn:bs.length≤10000000000)
include hs hz hn
theorem jPQ (n:Nat) (hf:f=n) (hN:n<9223372036854775808) :
  Calls prog 182 #[s.v,.agg #[.int .i64 k,.int .i64 f,.int .i64 t,.int .u64 x,.string y,.int .i64 a,.int .i64 b],.map m] w0 (fun e w'=>∃r:Sl,e=.returned r.v∧RetO w0 5 1 (byr (bs++vN n)) r w'):=by
 subst hf
 refine w_K4 s k n t x y a b m w0 (fun r w'=>RetO w0 5 1 (byr (bs++vN n)) r w') ?_
 unfold m_K4
 intro H1 w1 hs1
 rw [vX (by omega)]
 refine (jAF s bs n w1 (hs.pure hs1.first) hz hn (by omega)).mono ?_
 rintro _ w2 ⟨r,rfl,hR⟩
 exact ⟨r,rfl,hR.kept,hR.after hs1.first⟩
theorem jUH (n:Nat) (ht:t=n) (hN:n<9223372036854775808) :
  Calls prog 186 #[s.v,.agg #[.int .i64 k,.int .i64 f,.int .i64 t,.int .u64 x,.string y,.int .i64 a,.int .i64 b],.map m] w0 (fun e w'=>∃r:Sl,e=.returned r.v∧RetO w0 5 1 (byr (bs++vN n)) r w'):=by
 subst ht
 refine w_N4 s k f n x y a b m w0 (fun r w'=>RetO w0 5 1 (byr (bs++vN n)) r w') ?_
 unfold m_N4
 intro H1 w1 hs1
 rw [vX (by omega)]
 refine (jAF s bs n w1 (hs.pure hs1.first) hz hn (by omega)).mono ?_
 rintro _ w2 ⟨r,rfl,hR⟩
 exact ⟨r,rfl,hR.kept,hR.after hs1.first⟩
theorem jPP (n:Nat) (hx:x=n) (hN:n<18446744073709551616) :
  Calls prog 188 #[s.v,.agg #[.int .i64 k,.int .i64 f,.int .i64 t,.int .u64 x,.string y,.int .i64 a,.int .i64 b],.map m] w0 (fun e w'=>∃r:Sl,e=.returned r.v∧RetO w0 5 1 (byr (bs++vN n)) r w'):=by
 subst hx
 refine w_P4 s k f t n y a b m w0 (fun r w'=>RetO w0 5 1 (byr (bs++vN n)) r w') ?_
 unfold m_P4
 intro H1 w1 hs1
 refine (jAF s bs n w1 (hs.pure hs1.first) hz hn (by omega)).mono ?_
 rintro _ w2 ⟨r,rfl,hR⟩
 exact ⟨r,rfl,hR.kept,hR.after hs1.first⟩
theorem jNE (hN:y.size≤10000000000) :
  Calls prog 190 #[s.v,.agg #[.int .i64 k,.int .i64 f,.int .i64 t,.int .u64 x,.string y,.int .i64 a,.int .i64 b],.map m] w0 (fun e w'=>∃r:Sl,e=.returned r.v∧RetO w0 5 1 (byr (bs++qH y)) r w'):=by
 refine w_S4 s k f t x y a b m w0 (fun r w'=>RetO w0 5 1 (byr (bs++qH y)) r w') ?_
 unfold m_S4
 intro H1 w1 hs1
 refine (jPO s bs y w1 (hs.pure hs1.first) hz hn hN).mono ?_
 rintro _ w2 ⟨r,rfl,hR⟩
 exact ⟨r,rfl,hR.kept,hR.after hs1.first⟩
theorem c_putA (mb:Nat) (M:List (Int×Int)) (n:Nat) (hM:IMap (fun i:Int=>.int .i64 i) w0 mb M) (hk:SE.look M a=some (n:Int)) (hN:n<9223372036854775808) :
  Calls prog 194 #[s.v,.agg #[.int .i64 k,.int .i64 f,.int .i64 t,.int .u64 x,.string y,.int .i64 a,.int .i64 b],.map (some mb)] w0 (fun e w'=>∃r:Sl,e=.returned r.v∧RetO w0 5 1 (byr (bs++vN n)) r w'):=by
 refine w_V4 s k f t x y a b (some mb) w0 (fun r w'=>RetO w0 5 1 (byr (bs++vN n)) r w') ?_
 unfold m_V4
 intro H1 w1 hs1
 rcases (hM.pure hs1.first).get (P:=prog) (T:=205) underlying205 underlying23 (zeroValue3 _) a false with ⟨h1,_⟩ | ⟨v,h1,hg⟩
 ·rw [hk] at h1;cases h1
 rw [hk] at h1;cases h1
 refine ⟨_,hg,?_⟩
 rw [vX (by omega)]
 refine (jAF s bs n w1 (hs.pure hs1.first) hz hn (by omega)).mono ?_
 rintro _ w2 ⟨r,rfl,hR⟩
 exact ⟨r,rfl,hR.kept,hR.after hs1.first⟩
theorem c_putB (mb:Nat) (M:List (Int×Int)) (n:Nat) (hM:IMap (fun i:Int=>.int .i64 i) w0 mb M) (hk:SE.look M b=some (n:Int)) (hN:n<9223372036854775808) :
  Calls prog 196 #[s.v,.agg #[.int .i64 k,.int .i64 f,.int .i64 t,.int .u64 x,.string y,.int .i64 a,.int .i64 b],.map (some mb)] w0 (fun e w'=>∃r:Sl,e=.returned r.v∧RetO w0 5 1 (byr (bs++vN n)) r w'):=by
 refine w_X4 s k f t x y a b (some mb) w0 (fun r w'=>RetO w0 5 1 (byr (bs++vN n)) r w') ?_
 unfold m_X4
 intro H1 w1 hs1
 rcases (hM.pure hs1.first).get (P:=prog) (T:=205) underlying205 underlying23 (zeroValue3 _) b false with ⟨h1,_⟩ | ⟨v,h1,hg⟩
 ·rw [hk] at h1;cases h1
 rw [hk] at h1;cases h1
 refine ⟨_,hg,?_⟩
 rw [vX (by omega)]
 refine (jAF s bs n w1 (hs.pure hs1.first) hz hn (by omega)).mono ?_
 rintro _ w2 ⟨r,rfl,hR⟩
 exact ⟨r,rfl,hR.kept,hR.after hs1.first⟩
end
section
variable {S:NP} (a q:Addr) (s:Sl) (bs:List UInt8) (r:Rd) (cells:List Value) (w0:World) (h:RdS S w0 a s bs r) (hat:r.at_≤bs.length) (hS:∀b,S b→b<w0.heap.size) (hq:Box w0 q cells 253) (hl:cells.length=12) (haq:a.block≠q.block) (hSq:∀b,S b→b≠q.block)
include h hat hS hq hl haq hSq
theorem jPU:Calls prog 184 #[.pointer (some a),.pointer (some q)] w0 (fun e w'=>e=.returned (.tuple #[])∧RdS S w' a s bs (qM bs r).2∧Box w' q (cells.set 7 (.int .u64 ((qM bs r).1:Int))) 253∧Ext (fun b=>b=a.block∨b=q.block) w0 w'):=by
 refine w_M4 (some a) (some q) w0 (fun w'=>RdS S w' a s bs (qM bs r).2∧Box w' q (cells.set 7 (.int .u64 ((qM bs r).1:Int))) 253∧Ext (fun b=>b=a.block∨b=q.block) w0 w') ?_;unfold m_M4;refine (jJG a s bs r w0 h hat hS).mono ?_;rintro e w1 ⟨x,rfl,rfl,hR,hE⟩;have hq1:=hq.ext hE (fun e=>haq e.symm);refine ⟨_,rfl,q,rfl,hq1.canW (i:=7) (by omega),?_⟩;rintro w2 rfl;have hx:Ext (·=q.block) w1 (w1.setCell (q.add 7) (.int .u64 ((qM bs r).1:Int))):=qP;exact ⟨hR.ext hx (fun b hb e=>hSq b hb e) haq,hq1.set 7 _,(hE.mono (fun _ _ e=>.inl e)).trans (hx.mono (fun _ _ e=>.inr e))⟩
theorem jUK:Calls prog 187 #[.pointer (some a),.pointer (some q)] w0 (fun e w'=>e=.returned (.tuple #[])∧RdS S w' a s bs (qM bs r).2∧Box w' q (cells.set 8 (.int .u64 ((qM bs r).1:Int))) 253∧Ext (fun b=>b=a.block∨b=q.block) w0 w'):=by
 refine w_O4 (some a) (some q) w0 (fun w'=>RdS S w' a s bs (qM bs r).2∧Box w' q (cells.set 8 (.int .u64 ((qM bs r).1:Int))) 253∧Ext (fun b=>b=a.block∨b=q.block) w0 w') ?_;unfold m_O4;refine (jJG a s bs r w0 h hat hS).mono ?_;rintro e w1 ⟨x,rfl,rfl,hR,hE⟩;have hq1:=hq.ext hE (fun e=>haq e.symm);refine ⟨_,rfl,q,rfl,hq1.canW (i:=8) (by omega),?_⟩;rintro w2 rfl;have hx:Ext (·=q.block) w1 (w1.setCell (q.add 8) (.int .u64 ((qM bs r).1:Int))):=qP;exact ⟨hR.ext hx (fun b hb e=>hSq b hb e) haq,hq1.set 8 _,(hE.mono (fun _ _ e=>.inl e)).trans (hx.mono (fun _ _ e=>.inr e))⟩
theorem jSD:Calls prog 189 #[.pointer (some a),.pointer (some q)] w0 (fun e w'=>e=.returned (.tuple #[])∧RdS S w' a s bs (qM bs r).2∧Box w' q (cells.set 3 (.int .u64 ((qM bs r).1:Int))) 253∧Ext (fun b=>b=a.block∨b=q.block) w0 w'):=by
 refine w_Q4 (some a) (some q) w0 (fun w'=>RdS S w' a s bs (qM bs r).2∧Box w' q (cells.set 3 (.int .u64 ((qM bs r).1:Int))) 253∧Ext (fun b=>b=a.block∨b=q.block) w0 w') ?_;unfold m_Q4;refine (jJG a s bs r w0 h hat hS).mono ?_;rintro e w1 ⟨x,rfl,rfl,hR,hE⟩;have hq1:=hq.ext hE (fun e=>haq e.symm);refine ⟨_,rfl,q,rfl,hq1.canW (i:=3) (by omega),?_⟩;rintro w2 rfl;have hx:Ext (·=q.block) w1 (w1.setCell (q.add 3) (.int .u64 ((qM bs r).1:Int))):=qP;exact ⟨hR.ext hx (fun b hb e=>hSq b hb e) haq,hq1.set 3 _,(hE.mono (fun _ _ e=>.inl e)).trans (hx.mono (fun _ _ e=>.inr e))⟩
theorem jPT:Calls prog 192 #[.pointer (some a),.pointer (some q)] w0 (fun e w'=>e=.returned (.tuple #[])∧RdS S w' a s bs (qQ bs 64 r).2∧Box w' q (cells.set 4 (.string ⟨(qQ bs 64 r).1.toArray⟩)) 253∧Ext (fun b=>b=a.block∨b=q.block) w0 w'):=by
 refine w_U4 (some a) (some q) w0 (fun w'=>RdS S w' a s bs (qQ bs 64 r).2∧Box w' q (cells.set 4 (.string ⟨(qQ bs 64 r).1.toArray⟩)) 253∧Ext (fun b=>b=a.block∨b=q.block) w0 w') ?_;unfold m_U4;refine (c_Text a s bs 64 r w0 h hat hS (by omega)).mono ?_;rintro e w1 ⟨x,rfl,rfl,hR,hE⟩;have hq1:=hq.ext hE (fun e=>haq e.symm);refine ⟨_,rfl,q,rfl,hq1.canW (i:=4) (by omega),?_⟩;rintro w2 rfl;have hx:Ext (·=q.block) w1 (w1.setCell (q.add 4) (.string ⟨(qQ bs 64 r).1.toArray⟩)):=qP;exact ⟨hR.ext hx (fun b hb e=>hSq b hb e) haq,hq1.set 4 _,(hE.mono (fun _ _ e=>.inl e)).trans (hx.mono (fun _ _ e=>.inr e))⟩
theorem c_getA:Calls prog 195 #[.pointer (some a),.pointer (some q)] w0 (fun e w'=>e=.returned (.tuple #[])∧RdS S w' a s bs (qM bs r).2∧Box w' q ((cells.set 9 (.int .u64 ((qM bs r).1:Int))).set 11 (.int .i64 1)) 253∧Ext (fun b=>b=a.block∨b=q.block) w0 w'):=by
 refine w_W4 (some a) (some q) w0 (fun w'=>RdS S w' a s bs (qM bs r).2∧Box w' q ((cells.set 9 (.int .u64 ((qM bs r).1:Int))).set 11 (.int .i64 1)) 253∧Ext (fun b=>b=a.block∨b=q.block) w0 w') ?_;unfold m_W4;refine (jJG a s bs r w0 h hat hS).mono ?_;rintro e w1 ⟨x,rfl,rfl,hR,hE⟩;have hq1:=hq.ext hE (fun e=>haq e.symm);refine ⟨_,rfl,q,rfl,hq1.canW (i:=9) (by omega),?_⟩;rintro w2 rfl;have hx:Ext (·=q.block) w1 ((w1.setCell (q.add 9) (.int .u64 ((qM bs r).1:Int))).setCell (q.add 11) (.int .i64 1)):=qP.trans qP;have hq2:=hq1.set 9 (.int .u64 ((qM bs r).1:Int));refine ⟨q,rfl,hq2.canW (i:=11) (by rw [List.length_set];omega),?_⟩;rintro w3 rfl;exact ⟨hR.ext hx (fun b hb e=>hSq b hb e) haq,hq2.set 11 _,(hE.mono (fun _ _ e=>.inl e)).trans (hx.mono (fun _ _ e=>.inr e))⟩
theorem c_getB:Calls prog 197 #[.pointer (some a),.pointer (some q)] w0 (fun e w'=>e=.returned (.tuple #[])∧RdS S w' a s bs (qM bs r).2∧Box w' q ((cells.set 10 (.int .u64 ((qM bs r).1:Int))).set 11 (.int .i64 2)) 253∧Ext (fun b=>b=a.block∨b=q.block) w0 w'):=by
 refine w_Y4 (some a) (some q) w0 (fun w'=>RdS S w' a s bs (qM bs r).2∧Box w' q ((cells.set 10 (.int .u64 ((qM bs r).1:Int))).set 11 (.int .i64 2)) 253∧Ext (fun b=>b=a.block∨b=q.block) w0 w') ?_;unfold m_Y4;refine (jJG a s bs r w0 h hat hS).mono ?_;rintro e w1 ⟨x,rfl,rfl,hR,hE⟩;have hq1:=hq.ext hE (fun e=>haq e.symm);refine ⟨_,rfl,q,rfl,hq1.canW (i:=10) (by omega),?_⟩;rintro w2 rfl;have hx:Ext (·=q.block) w1 ((w1.setCell (q.add 10) (.int .u64 ((qM bs r).1:Int))).setCell (q.add 11) (.int .i64 2)):=qP.trans qP;have hq2:=hq1.set 10 (.int .u64 ((qM bs r).1:Int));refine ⟨q,rfl,hq2.canW (i:=11) (by rw [List.length_set];omega),?_⟩;rintro w3 rfl;exact ⟨hR.ext hx (fun b hb e=>hSq b hb e) haq,hq2.set 11 _,(hE.mono (fun _ _ e=>.inl e)).trans (hx.mono (fun _ _ e=>.inr e))⟩
end
end Go.Proofs
end
section
namespace Go.Sp
def tW (k:Int):Bool:=k == 7 || k == 8 || k == 9
def jPC (k:Int):Bool:=k == 1 || k == 2 || k == 3
def jEK (n:Int):Node:=⟨6,n,0,0,⟨#[]⟩,0,0⟩
def jJN (n:Node):Int:=if n.kind=9 then n.to else n.frm
def jBZ (L:Pool) (r u t:Int):Prop :=
 (r=1∧(nodeOf L u).kind=4∧(nodeOf L u).a=t)∨(r=2∧(nodeOf L u).kind=4∧(nodeOf L u).b=t)∨(r=3∧tW (nodeOf L u).kind=true∧(nodeOf L u).a=t)
inductive Seen (L:Pool) (G:List Int):Int→Prop
 | given {t:Int}:t∈G→Seen L G t
 | aris {r u t:Int}:Seen L G u→jBZ L r u t→Seen L G t
inductive Drv (L:Pool) (K:Int→Prop):Int→Prop
 | seen {t:Int}:K t→Drv L K t
 | free {t:Int}:jPC (nodeOf L t).kind=true→Drv L K t
 | pair {t:Int}:(nodeOf L t).kind=4→Drv L K (nodeOf L t).a→Drv L K (nodeOf L t).b→Drv L K t
 | hash {t:Int}:(nodeOf L t).kind=5→Drv L K (nodeOf L t).a→Drv L K t
 | sign {t:Int} {i:Nat}:tW (nodeOf L t).kind=true→Drv L K (nodeOf L t).a→find L (jEK (jJN (nodeOf L t)))=some i→K ((i:Int)+1)→Drv L K t
structure Way where
 t:Int
 rule:Int
 frm:Int
deriving DecidableEq
def jAG (S:List Way):List Int:=S.map Way.t
def jNI (L:Pool) (G:List Int) (pre:List Way) (v:Way):Prop:=(v.rule=0∧v.frm=0∧v.t∈G)∨(v.rule≠0∧jBZ L v.rule v.frm v.t∧v.frm∈jAG pre)
structure WaysOk (L:Pool) (G:List Int) (S:List Way):Prop where
 nodup:(jAG S).Nodup
 inp:∀t∈jAG S,inP L t=true
 way:∀i (h:i<S.length),jNI L G (S.take i) S[i]
def jUR (L:Pool) (S:List Way) (u:Int):Prop:=∀r t,jBZ L r u t→t∈jAG S
theorem jNQ (S:List Way):(jAG S).length=S.length:=by simp [jAG]
theorem jNI.mono {L:Pool} {G G':List Int} {pre:List Way} {v:Way} (h:jNI L G pre v) (hG:∀t∈G,t∈G'):jNI L G' pre v:=by
 rcases h with ⟨a,b,c⟩ | h
 ·exact .inl ⟨a,b,hG _ c⟩
 ·exact .inr h
theorem WaysOk.mono {L:Pool} {G G':List Int} {S:List Way} (h:WaysOk L G S) (hG:∀t∈G,t∈G'):WaysOk L G' S:=⟨h.nodup,h.inp,fun i hi=>(h.way i hi).mono hG⟩
theorem WaysOk.snoc {L:Pool} {G:List Int} {S:List Way} (h:WaysOk L G S) {v:Way} (hn:v.t ∉ jAG S) (hi:inP L v.t=true) (hv:jNI L G S v):WaysOk L G (S++[v]):=by
 refine ⟨?_,?_,fun i hlt=>?_⟩
 ·unfold jAG at hn ⊢;rw [List.map_append,List.nodup_append];exact ⟨h.nodup,by simp,fun x hx y hy e=>by simp at hy;subst hy;exact hn (e▸hx)⟩
 ·intro t ht;unfold jAG at ht;rw [List.map_append,List.mem_append] at ht;rcases ht with ht | ht
  ·exact h.inp t ht
  ·simp at ht;rw [ht];exact hi
 ·rw [List.length_append] at hlt;simp only [List.length_cons,List.length_nil] at hlt;by_cases hl:i<S.length
  ·rw [List.getElem_append_left hl,List.take_append_of_le_length (by omega)];exact h.way i hl
  ·have:i=S.length:=by omega
   subst this;rw [List.getElem_append_right (Nat.le_refl _),List.take_left];simpa using hv
theorem jUR.snoc {L:Pool} {S:List Way} {u:Int} {v:Way} (h:jUR L S u):jUR L (S++[v]) u:=fun r t ha=>by
 unfold jAG;rw [List.map_append];exact List.mem_append_left _ (h r t ha)
theorem Seen.mono {L:Pool} {G G':List Int} (hG:∀t∈G,t∈G') {t:Int} (h:Seen L G t):Seen L G' t:=by
 induction h with
 | given hg=>exact .given (hG _ hg)
 | aris _ ha ih=>exact .aris ih ha
theorem Drv.mono {L:Pool} {K K':Int→Prop} (hK:∀t,K t→K' t) {t:Int} (h:Drv L K t):Drv L K' t:=by
 induction h with
 | seen h=>exact .seen (hK _ h)
 | free h=>exact .free h
 | pair h _ _ iha ihb=>exact .pair h iha ihb
 | hash h _ ih=>exact .hash h ih
 | sign h _ hf hk ih=>exact .sign h ih hf (hK _ hk)
structure Step where
 rule:Int
 a:Int
 b:Int
 t:Int
deriving DecidableEq
def jNH (i:Nat) (v:Int):Bool:=decide (0≤v) && decide (v<i)
def tAt (pre:List Step) (v:Int):Int:=(pre[v.toNat]?.map Step.t).getD 0
def jUQ (L:Pool) (r u t:Int):Bool :=
 if r=1 then (nodeOf L u).kind == 4 && (nodeOf L u).a == t else if r=2 then (nodeOf L u).kind == 4 && (nodeOf L u).b == t else tW (nodeOf L u).kind && (nodeOf L u).a == t
def fol (L:Pool) (G:List Int) (pre:List Step) (s:Step):Bool :=
 if inP L s.t=false then false
 else if s.rule=0 then s.a == 0 && s.b == 0 && decide (s.t∈G)
 else if s.rule=1∨s.rule=2∨s.rule=3 then jNH pre.length s.a && s.b == 0 && jUQ L s.rule (tAt pre s.a) s.t
 else if s.rule=4 then s.a == 0 && s.b == 0 && jPC (nodeOf L s.t).kind
 else if s.rule=5 then
  if (nodeOf L s.t).kind=4 then jNH pre.length s.a && jNH pre.length s.b && tAt pre s.a == (nodeOf L s.t).a && tAt pre s.b == (nodeOf L s.t).b
  else if (nodeOf L s.t).kind=5 then jNH pre.length s.a && s.b == 0 && tAt pre s.a == (nodeOf L s.t).a
  else if tW (nodeOf L s.t).kind=true then jNH pre.length s.a && jNH pre.length s.b && tAt pre s.a == (nodeOf L s.t).a && (nodeOf L (tAt pre s.b)).kind == 6 && (nodeOf L (tAt pre s.b)).frm == jJN (nodeOf L s.t)
  else false
 else false
end Go.Sp
namespace Go.Sp
theorem jHX {α:Type} [DecidableEq α]:∀{l m:List α},l.Nodup→(∀x∈l,x∈m)→l.length≤m.length
 | [],m,_,_=>by simp
 | x :: l,m,hn,hs=>by
  have hx:=hs x (by simp);rw [List.nodup_cons] at hn;have:=jHX (m:=m.erase x) hn.2 (fun y hy=>(List.mem_erase_of_ne (fun h=>hn.1 (by rw [← h];exact hy))).2 (hs y (List.mem_cons_of_mem _ hy)));rw [List.length_erase_of_mem hx] at this;have:=List.length_pos_of_mem hx;simp only [List.length_cons];omega
theorem jBK {L:Pool} {l:List Int} (hn:l.Nodup) (hi:∀t∈l,inP L t=true):l.length≤L.length:=by
 have:=jHX (m:=(List.range L.length).map fun i:Nat=>(i:Int)+1) hn (fun t ht=>by
  obtain ⟨i,h1,h2⟩:=jBR (hi t ht);exact List.mem_map.2 ⟨i,List.mem_range.2 h1,h2.symm⟩)
 simpa using this
theorem WaysOk.few {L:Pool} {G:List Int} {S:List Way} (h:WaysOk L G S):S.length≤L.length:=by
 have:=jBK h.nodup h.inp;rwa [jNQ] at this
theorem kids4 {L:Pool} (h:Wf L) {t:Int} (ht:inP L t=true) (hk:(nodeOf L t).kind=4):(inP L (nodeOf L t).a=true∧(nodeOf L t).a<t)∧(inP L (nodeOf L t).b=true∧(nodeOf L t).b<t):=by
 have:=(h.node ht).2.2.2.2.1;simp only [zM,hk,shapeOf] at this;exact ⟨this _ (by simp),this _ (by simp)⟩
theorem kids7 {L:Pool} (h:Wf L) {t:Int} (ht:inP L t=true) (hk:tW (nodeOf L t).kind=true):inP L (nodeOf L t).a=true∧(nodeOf L t).a<t:=by
 have:=(h.node ht).2.2.2.2.1;simp only [tW,Bool.or_eq_true,beq_iff_eq] at hk;rcases hk with (hk | hk) | hk <;> simp only [zM,hk,shapeOf] at this <;> exact this _ (by simp)
theorem jBZ.inp {L:Pool} (h:Wf L) {r u t:Int} (hu:inP L u=true) (ha:jBZ L r u t):inP L t=true∧t<u:=by
 rcases ha with ⟨_,hk,rfl⟩ | ⟨_,hk,rfl⟩ | ⟨_,hk,rfl⟩
 ·exact (kids4 h hu hk).1
 ·exact (kids4 h hu hk).2
 ·exact kids7 h hu hk
def jTD (S:List Way) (v:Way):List Way:=if v.t∈jAG S then S else S++[v]
theorem WaysOk.add {L:Pool} {G:List Int} {S:List Way} (h:WaysOk L G S) {v:Way} (hi:inP L v.t=true) (hv:jNI L G S v):WaysOk L G (jTD S v):=by
 unfold jTD;split
 ·exact h
 ·rename_i hn;exact h.snoc hn hi hv
end Go.Sp
end
section
open Go.SE
namespace Go.Sp
def jEX (L:Pool) (n:Int):Int×Bool:=match find L (jEK n) with
 | some i=>((i:Int)+1,true)
 | none=>(0,false)
theorem jPF {L:Pool} {n:Node} {i:Nat} (h:find L n=some i):i<L.length∧nodeOf L ((i:Int)+1)=n:=by
 unfold find at h;rw [List.findIdx?_eq_some_iff_getElem] at h;obtain ⟨hi,h1,_⟩:=h;refine ⟨hi,?_⟩;rw [qS hi];simpa using h1
theorem jRM {L:Pool} {n:Int} (h:(jEX L n).2=true):inP L (jEX L n).1=true∧nodeOf L (jEX L n).1=jEK n∧∃i,find L (jEK n)=some i∧(jEX L n).1=(i:Int)+1:=by
 unfold jEX at h ⊢;cases hf:find L (jEK n) with
 | none=>rw [hf] at h;cases h
 | some i =>
  obtain ⟨hi,hn⟩:=jPF hf
  exact ⟨vB.2 ⟨by simp only;omega,by simp only;omega⟩,hn,i,rfl,rfl⟩
theorem Drv.signed {L:Pool} {K:Int→Prop} {t:Int} (h:tW (nodeOf L t).kind=true) (ha:Drv L K (nodeOf L t).a) (hk:(jEX L (jJN (nodeOf L t))).2=true) (hK:K (jEX L (jJN (nodeOf L t))).1):Drv L K t:=by
 obtain ⟨_,_,i,hf,e⟩:=jRM hk;rw [e] at hK;exact .sign h ha hf hK
theorem uT {L:Pool} (h:Wf L) {t:Int} (ht:inP L t=true):jPC (nodeOf L t).kind=true∨(nodeOf L t).kind=4∨(nodeOf L t).kind=5∨(nodeOf L t).kind=6∨tW (nodeOf L t).kind=true:=by
 have h1:=(h.node ht).1;unfold vG at h1;simp only at h1;split at h1
 ·cases h1
 ·rename_i hh;simp only [Bool.or_eq_true,Bool.not_eq_true',not_or] at hh;have hk:isKind (nodeOf L t).kind=true:=by simpa using hh.1.1.1.1
  simp only [isKind,Bool.and_eq_true,decide_eq_true_eq] at hk;simp only [jPC,tW,Bool.or_eq_true,beq_iff_eq];omega
inductive Sub (L:Pool):Int→Int→Prop
 | refl (t:Int):Sub L t t
 | kid {t u k:Int}:Sub L t u→k∈zM (nodeOf L u)→Sub L t k
theorem Sub.trans {L:Pool} {a b c:Int} (h:Sub L a b) (k:Sub L b c):Sub L a c:=by
 induction k with
 | refl=>exact h
 | kid _ hk ih=>exact .kid ih hk
theorem jSP {n:Node} (h:n.kind=4∨n.kind=5∨tW n.kind=true):n.a∈zM n:=by
 simp only [tW,Bool.or_eq_true,beq_iff_eq] at h;rcases h with h | h | (h | h) | h <;> simp [zM,h,shapeOf]
theorem kids_b {n:Node} (h:n.kind=4):n.b∈zM n:=by simp [zM,h,shapeOf]
theorem jBZ.sub {L:Pool} {r u t:Int} (h:jBZ L r u t):Sub L u t:=by
 rcases h with ⟨_,hk,rfl⟩ | ⟨_,hk,rfl⟩ | ⟨_,hk,rfl⟩
 ·exact .kid (.refl u) (jSP (.inl hk))
 ·exact .kid (.refl u) (kids_b hk)
 ·exact .kid (.refl u) (jSP (.inr (.inr hk)))
theorem Seen.sub {L:Pool} {G:List Int} {t:Int} (h:Seen L G t):∃g∈G,Sub L g t:=by
 induction h with
 | given hg=>exact ⟨_,hg,.refl _⟩
 | aris _ ha ih=>obtain ⟨g,hg,hs⟩:=ih;exact ⟨g,hg,hs.trans ha.sub⟩
theorem jBZ.rule {L:Pool} {r u t:Int} (h:jBZ L r u t):r=1∨r=2∨r=3:=by
 rcases h with ⟨h,_⟩ | ⟨h,_⟩ | ⟨h,_⟩
 ·exact .inl h
 ·exact .inr (.inl h)
 ·exact .inr (.inr h)
structure PrfOk (L:Pool) (G:List Int) (K:Int→Prop) (l:List Step) (B:List Int):Prop where
 fol:∀i (hi:i<l.length),fol L G (l.take i) l[i]=true
 nd:(l.map Step.t).Nodup
 drv:∀s∈l,Drv L K s.t
 bar:∀t∈B,¬ Drv L K t
theorem PrfOk.nil (L:Pool) (G:List Int) (K:Int→Prop):PrfOk L G K [] []:=⟨fun i hi=>by simp at hi,by simp,by simp,by simp⟩
theorem PrfOk.snoc {L:Pool} {G:List Int} {K:Int→Prop} {l:List Step} {B:List Int} (h:PrfOk L G K l B) {s:Step} (hf:Sp.fol L G l s=true) (hn:s.t ∉ l.map Step.t) (hd:Drv L K s.t):PrfOk L G K (l++[s]) B:=by
 refine ⟨fun i hi=>?_,?_,fun x hx=>?_,h.bar⟩
 ·rw [List.length_append] at hi;simp only [List.length_cons,List.length_nil] at hi;by_cases hl:i<l.length
  ·rw [List.getElem_append_left hl,List.take_append_of_le_length (by omega)];exact h.fol i hl
  ·have:i=l.length:=by omega
   subst this;rw [List.getElem_append_right (Nat.le_refl _),List.take_left];simpa using hf
 ·rw [List.map_append,List.nodup_append];exact ⟨h.nd,by simp,fun x hx y hy e=>by simp at hy;subst hy;exact hn (e▸hx)⟩
 ·rcases List.mem_append.1 hx with hx | hx
  ·exact h.drv x hx
  ·simp at hx;subst hx;exact hd
theorem fol_in {L:Pool} {G:List Int} {pre:List Step} {s:Step} (h:fol L G pre s=true):inP L s.t=true:=by
 unfold fol at h;split at h
 ·cases h
 ·rename_i hh;simpa using hh
theorem PrfOk.few {L:Pool} {G:List Int} {K:Int→Prop} {l:List Step} {B:List Int} (h:PrfOk L G K l B):l.length≤L.length:=by
 have:=jBK h.nd (fun t ht=>by
  obtain ⟨s,hs,rfl⟩:=List.mem_map.1 ht;obtain ⟨i,hi,rfl⟩:=List.getElem_of_mem hs;exact fol_in (h.fol i hi))
 simpa using this
def upd (V:Int→Bool) (t:Int) (b:Bool):Int→Bool:=fun x=>if x=t then b else V x
def yH (L:Pool):Nat→Int→(Int→Bool)×List Int→(Int→Bool)×List Int
 | 0,_,st=>st
 | n + 1, t, st => if inP L t = true ∧ st.1 t = false then
   let s2:=yH L n (nodeOf L t).b (yH L n (nodeOf L t).a (upd st.1 t true,st.2))
   (s2.1,s2.2++[t])
  else st
def subs (L:Pool) (t:Int):List Int:=(yH L (t.toNat+1) t (fun _=>false,[])).2
theorem Sub.head {L:Pool} {t y:Int} (h:Sub L t y):y=t∨∃k∈zM (nodeOf L t),Sub L k y:=by
 induction h with
 | refl=>exact .inl rfl
 | kid _ hk ih =>
  rcases ih with rfl | ⟨k,h1,h2⟩
  ·exact .inr ⟨_,hk,.refl _⟩
  ·exact .inr ⟨k,h1,h2.kid hk⟩
theorem Sub.le {L:Pool} (hW:Wf L) {t y:Int} (ht:inP L t=true) (h:Sub L t y):inP L y=true∧y≤t:=by
 induction h with
 | refl=>exact ⟨ht,Int.le_refl _⟩
 | kid _ hk ih =>
  have:=(hW.node ih.1).2.2.2.2.1 _ hk
  exact ⟨this.1,by omega⟩
theorem jSQ {n:Node} {k:Int} (h:k∈zM n):k=n.a∨k=n.b:=by
 unfold zM at h;have:=List.mem_of_mem_take h;simpa using this
theorem jID {L:Pool} (hW:Wf L) {t k:Int} (ht:inP L t=true) (h:k=(nodeOf L t).a∨k=(nodeOf L t).b) (hk:inP L k=true):k∈zM (nodeOf L t):=by
 have h1:=(hW.node ht).2.1;have h2:=(hW.node ht).2.2.1;have hk0:k≠0:=by have:=(vB.1 hk).1;omega
 unfold zM;rcases qX (nodeOf L t).kind with e | e | e
 ·have a0:=h1 (by omega);have b0:=h2 (by omega);rcases h with h | h
  ·exact absurd (h.trans a0) hk0
  ·exact absurd (h.trans b0) hk0
 ·have b0:=h2 (by omega);rcases h with h | h
  ·rw [e,h];simp
  ·exact absurd (h.trans b0) hk0
 ·rw [e];rcases h with h | h <;> simp [h]
structure OvOk (L:Pool) (st:(Int→Bool)×List Int):Prop where
 marked:∀x∈st.2,st.1 x=true
 closed:∀x∈st.2,∀y,Sub L x y→y∈st.2
 nd:st.2.Nodup
 inp:∀x∈st.2,inP L x=true
structure OvRes (L:Pool) (t:Int) (st st':(Int→Bool)×List Int):Prop extends OvOk L st' where
 app:∃M,st'.2=st.2++M∧∀x∈M,Sub L t x∧inP L t=true
 keep:∀x,st.1 x=true→st'.1 x=true
 back:∀x,st'.1 x=true→st.1 x=true∨x∈st'.2
 all:inP L t=true→∀y,Sub L t y→y∈st'.2
theorem xR {L:Pool} (hW:Wf L):∀(n:Nat) (t:Int) (st:(Int→Bool)×List Int),t.toNat<n→OvOk L st→(∀x,st.1 x=true→x≤t→x∈st.2)→OvRes L t st (yH L n t st):=by
 intro n;induction n with
 | zero=>intro t st h;omega
 | succ n ih =>
  intro t st hn hst hm
  rw [yH]
  by_cases hc:inP L t=true∧st.1 t=false
  ·rw [if_pos hc]
   obtain ⟨hin,hv⟩:=hc
   have ht1:=(vB.1 hin).1
   have hkid:=(hW.node hin).2.2.2.2.1
   have low:∀k,k=(nodeOf L t).a∨k=(nodeOf L t).b→k<t:=by
    intro k hk;cases hp:inP L k with
    | true=>exact (hkid k (jID hW hin hk hp)).2
    | false =>
     have h1:=(hW.node hin).2.1
     have h2:=(hW.node hin).2.2.1
     rcases qX (nodeOf L t).kind with e | e | e
     ·have:=h1 (by omega);have:=h2 (by omega);rcases hk with hk | hk <;> omega
     ·have b0:=h2 (by omega)
      rcases hk with hk | hk
      ·have:=(hkid k (by unfold zM;rw [e,hk];simp)).2;exact this
      ·omega
     ·exact (hkid k (by unfold zM;rw [e];rcases hk with hk | hk <;> simp [hk])).2
   have o1:OvOk L (upd st.1 t true,st.2):=⟨fun x hx=>by simp only [upd];split <;> simp [hst.marked x hx],hst.closed,hst.nd,hst.inp⟩
   have r1:=ih (nodeOf L t).a (upd st.1 t true,st.2) (by have:=low _ (.inl rfl);omega) o1 (fun x hx hle=>by
    have:=low _ (.inl rfl);simp only [upd] at hx;rw [if_neg (by omega)] at hx;exact hm x hx (by omega))
   generalize yH L n (nodeOf L t).a (upd st.1 t true,st.2)=s1 at *
   have r2:=ih (nodeOf L t).b s1 (by have:=low _ (.inr rfl);omega) r1.toOvOk (fun x hx hle=>by
    have:=low _ (.inr rfl);rcases r1.back x hx with h | h
    ·simp only [upd] at h;rw [if_neg (by omega)] at h;have:=hm x h (by omega);obtain ⟨M,e,_⟩:=r1.app;simp only at e;rw [e];exact List.mem_append_left _ this
    ·exact h)
   generalize yH L n (nodeOf L t).b s1=s2 at *
   obtain ⟨M1,e1,m1⟩:=r1.app
   obtain ⟨M2,e2,m2⟩:=r2.app
   simp only at e1
   have hvt:s2.1 t=true:=r2.keep t (r1.keep t (by simp [upd]))
   have hto:t ∉ s2.2:=by
    rw [e2,e1];intro h;rcases List.mem_append.1 h with h | h
    ·rcases List.mem_append.1 h with h | h
     ·have:=hst.marked t h;rw [hv] at this;cases this
     ·obtain ⟨h1,h2⟩:=m1 t h;have:=(h1.le hW h2).2;have:=low _ (.inl rfl);omega
    ·obtain ⟨h1,h2⟩:=m2 t h;have:=(h1.le hW h2).2;have:=low _ (.inr rfl);omega
   have hall:∀y,Sub L t y→y∈s2.2++[t]:=by
    intro y hy;rcases hy.head with rfl | ⟨k,hk,hs⟩
    ·simp
    ·refine List.mem_append_left _ ?_;have hki:=(hkid k hk).1;rcases jSQ hk with rfl | rfl
     ·rw [e2];exact List.mem_append_left _ (r1.all hki y hs)
     ·exact r2.all hki y hs
   refine ⟨⟨fun x hx=>?_,fun x hx y hy=>?_,?_,fun x hx=>?_⟩,⟨M1++M2++[t],by simp [e2,e1],fun x hx=>?_⟩,fun x hx=>?_,fun x hx=>?_,fun _=>hall⟩
   ·simp only [List.mem_append,List.mem_singleton] at hx
    rcases hx with hx | rfl
    ·exact r2.marked x hx
    ·exact hvt
   ·simp only [List.mem_append,List.mem_singleton] at hx
    rcases hx with hx | rfl
    ·exact List.mem_append_left _ (r2.closed x hx y hy)
    ·exact hall y hy
   ·rw [List.nodup_append]
    exact ⟨r2.nd,by simp,fun x hx y hy e=>by simp at hy;subst hy;exact hto (e▸hx)⟩
   ·simp only [List.mem_append,List.mem_singleton] at hx
    rcases hx with hx | rfl
    ·exact r2.inp x hx
    ·exact hin
   ·refine ⟨?_,hin⟩
    simp only [List.mem_append,List.mem_singleton] at hx
    rcases hx with (hx | hx) | rfl
    ·obtain ⟨h1,h2⟩:=m1 x hx
     exact (Sub.kid (.refl t) (jID hW hin (.inl rfl) h2)).trans h1
    ·obtain ⟨h1,h2⟩:=m2 x hx
     exact (Sub.kid (.refl t) (jID hW hin (.inr rfl) h2)).trans h1
    ·exact .refl _
   ·exact r2.keep x (r1.keep x (by simp only [upd];split <;> simp [hx]))
   ·rcases r2.back x hx with h | h
    ·rcases r1.back x h with h' | h'
     ·simp only [upd] at h'
      split at h'
      ·rename_i e;subst e;right;simp
      ·exact .inl h'
     ·right;show x∈s2.2++[t];rw [e2];exact List.mem_append_left _ (List.mem_append_left _ h')
    ·exact .inr (List.mem_append_left _ h)
  ·rw [if_neg hc]
   refine ⟨hst,⟨[],by simp,by simp⟩,fun x h=>h,fun x h=>.inl h,fun hin y hy=>?_⟩
   have hv:st.1 t=true:=by
    cases h:st.1 t with
    | true=>rfl
    | false=>exact absurd ⟨hin,h⟩ hc
   exact hst.closed t (hm t hv (Int.le_refl _)) y hy
theorem jDD {L:Pool} (hW:Wf L) {t x:Int}:x∈subs L t↔inP L t=true∧Sub L t x:=by
 have r:=xR hW (t.toNat+1) t (fun _=>false,[]) (by omega) ⟨by simp,by simp,by simp,by simp⟩ (by simp);constructor
 ·intro h;obtain ⟨M,e,hm⟩:=r.app;unfold subs at h;rw [e] at h;simp only [List.nil_append] at h;exact ⟨(hm x h).2,(hm x h).1⟩
 ·intro h;exact r.all h.1 x h.2
theorem jAA {L:Pool} (hW:Wf L) (t:Int):(subs L t).length≤L.length:=by
 have r:=xR hW (t.toNat+1) t (fun _=>false,[]) (by omega) ⟨by simp,by simp,by simp,by simp⟩ (by simp);exact jBK r.nd r.inp
end Go.Sp
end
section
namespace Go.Sp
def Ord (L:Pool) (l:List Int):Prop:=∀pre z post,l=pre++z :: post→∀k∈zM (nodeOf L z),k∈pre
theorem Ord.snoc {L:Pool} {l:List Int} {t:Int} (h:Ord L l) (ht:∀k∈zM (nodeOf L t),k∈l):Ord L (l++[t]):=by
 intro pre z post e k hk;rcases List.eq_nil_or_concat post with rfl | ⟨post',y,rfl⟩
 ·have:=List.append_inj' e rfl;obtain ⟨rfl,e2⟩:=this;simp only [List.cons.injEq,and_true] at e2;subst e2;exact ht k hk
 ·have e':l++[t]=(pre++z :: post')++[y]:=by rw [e];simp
  have:=List.append_inj' e' rfl;exact h pre z post' this.1 k hk
theorem jRA {L:Pool} (hW:Wf L):∀(n:Nat) (t:Int) (st:(Int→Bool)×List Int),t.toNat<n→OvOk L st→(∀x,st.1 x=true→x≤t→x∈st.2)→Ord L st.2→Ord L (yH L n t st).2:=by
 intro n;induction n with
 | zero=>intro t st h;omega
 | succ n ih =>
  intro t st hn hst hm ho
  rw [yH]
  by_cases hc:inP L t=true∧st.1 t=false
  ·rw [if_pos hc]
   obtain ⟨hin,hv⟩:=hc
   have ht1:=(vB.1 hin).1
   have hkid:=(hW.node hin).2.2.2.2.1
   have low:∀k,k=(nodeOf L t).a∨k=(nodeOf L t).b→k<t:=by
    intro k hk;cases hp:inP L k with
    | true=>exact (hkid k (jID hW hin hk hp)).2
    | false =>
     have h1:=(hW.node hin).2.1
     have h2:=(hW.node hin).2.2.1
     rcases qX (nodeOf L t).kind with e | e | e
     ·have:=h1 (by omega);have:=h2 (by omega);rcases hk with hk | hk <;> omega
     ·have b0:=h2 (by omega)
      rcases hk with hk | hk
      ·have:=(hkid k (by unfold zM;rw [e,hk];simp)).2;exact this
      ·omega
     ·exact (hkid k (by unfold zM;rw [e];rcases hk with hk | hk <;> simp [hk])).2
   have o1:OvOk L (upd st.1 t true,st.2):=⟨fun x hx=>by simp only [upd];split <;> simp [hst.marked x hx],hst.closed,hst.nd,hst.inp⟩
   have m1:∀x,(upd st.1 t true,st.2).1 x=true→x≤(nodeOf L t).a→x∈(upd st.1 t true,st.2).2:=fun x hx hle=>by
    have:=low _ (.inl rfl);simp only [upd] at hx;rw [if_neg (by omega)] at hx;exact hm x hx (by omega)
   have n1:(nodeOf L t).a.toNat<n:=by have:=low _ (.inl rfl);omega
   have n2:(nodeOf L t).b.toNat<n:=by have:=low _ (.inr rfl);omega
   have r1:=xR hW n (nodeOf L t).a (upd st.1 t true,st.2) n1 o1 m1
   have d1:=ih (nodeOf L t).a (upd st.1 t true,st.2) n1 o1 m1 ho
   generalize yH L n (nodeOf L t).a (upd st.1 t true,st.2)=s1 at *
   have m2:∀x,s1.1 x=true→x≤(nodeOf L t).b→x∈s1.2:=fun x hx hle=>by
    have:=low _ (.inr rfl);rcases r1.back x hx with h | h
    ·simp only [upd] at h;rw [if_neg (by omega)] at h;have:=hm x h (by omega);obtain ⟨M,e,_⟩:=r1.app;simp only at e;rw [e];exact List.mem_append_left _ this
    ·exact h
   have r2:=xR hW n (nodeOf L t).b s1 n2 r1.toOvOk m2
   have d2:=ih (nodeOf L t).b s1 n2 r1.toOvOk m2 d1
   generalize yH L n (nodeOf L t).b s1=s2 at *
   obtain ⟨M2,e2,_⟩:=r2.app
   refine d2.snoc fun k hk=>?_
   have hki:=(hkid k hk).1
   rcases jSQ hk with rfl | rfl
   ·rw [e2];exact List.mem_append_left _ (r1.all hki _ (.refl _))
   ·exact r2.all hki _ (.refl _)
  ·rw [if_neg hc];exact ho
theorem jGB {L:Pool} (hW:Wf L) (t:Int):Ord L (subs L t) :=
 jRA hW (t.toNat+1) t (fun _=>false,[]) (by omega) ⟨by simp,by simp,by simp,by simp⟩ (by simp) (fun pre z post e=>by simp at e)
theorem jCB {L:Pool} (hW:Wf L) (t:Int):(subs L t).Nodup :=
 (xR hW (t.toNat+1) t (fun _=>false,[]) (by omega) ⟨by simp,by simp,by simp,by simp⟩ (by simp)).nd
end Go.Sp
end
section
namespace Go.Proofs
inductive Fld | from_ | to_ | num | text | fst | snd
deriving DecidableEq
def uA (k:Int):List Fld :=
 if k=1 then [.from_] else if k=2 then [.num] else if k=3 then [.text] else if k=4 then [.fst,.snd] else if k=5 then [.fst] else if k=6 then [.from_] else if k=7 then [.from_,.fst] else if k=8 then [.from_,.to_,.fst] else if k=9 then [.from_,.to_,.fst] else []
def Fld.bytes (n:Sp.Node) (na nb:Nat):Fld→List UInt8
 | .from_=>vN n.frm.toNat | .to_=>vN n.to.toNat | .num=>vN n.num.toNat | .text=>qH n.text | .fst=>vN na | .snd=>vN nb
def posOf (seen:List Int) (t:Int):Nat:=seen.idxOf t
def yY (L:Sp.Pool) (seen:List Int) (t:Int):List UInt8 :=
 UInt8.ofNat (Sp.nodeOf L t).kind.toNat :: (uA (Sp.nodeOf L t).kind).flatMap (Fld.bytes (Sp.nodeOf L t) (posOf seen (Sp.nodeOf L t).a) (posOf seen (Sp.nodeOf L t).b))
def textFrom (L:Sp.Pool):List Int→List Int→List UInt8
 | _,[]=>[]
 | seen,t :: l=>yY L seen t++textFrom L (seen++[t]) l
theorem tG (L:Sp.Pool) (l:List Int) (t:Int):∀seen,textFrom L seen (l++[t])=textFrom L seen l++yY L (seen++l) t:=by
 induction l with
 | nil=>intro seen;simp [textFrom]
 | cons x l ih=>intro seen;simp only [List.cons_append,textFrom];rw [ih];simp
def xL (L:Sp.Pool) (t:Int):List UInt8:=textFrom L [] (Sp.subs L t)
theorem jHU {l l':List Int} {u:Int} (h:u∈l):posOf (l++l') u=posOf l u:=by unfold posOf;rw [List.idxOf_append,if_pos h]
theorem jHT {l:List Int} {z:Int} (h:z ∉ l):posOf (l++[z]) z=l.length:=by unfold posOf;rw [List.idxOf_append,if_neg h];simp
def jEO (L:Sp.Pool) (t:Int):List UInt8×Int:=if Sp.inP L t then (if (xL L t).length>4096 then ([],1) else (xL L t,0)) else ([],51)
end Go.Proofs
end
section
open Go Go.SE
namespace Go.Proofs
open Tryz
attribute [local irreducible] Calls CallsD
def Fld.put:Fld→FuncId
 | .from_=>182 | .to_=>186 | .num=>188 | .text=>190 | .fst=>194 | .snd=>196
def Fld.get:Fld→FuncId
 | .from_=>184 | .to_=>187 | .num=>189 | .text=>192 | .fst=>195 | .snd=>197
def Fld.row (f:Fld):List Value:=[.func (.func f.put) #[] #[],.func (.func f.get) #[] #[]]
structure PartsAt (w0 w:World) (m:Nat) (Bs:List (Addr×Fld)) (M:List (Int×Sl)):Prop where
 box:∀b∈Bs,Box w b.1 b.2.row 213∧b.1.block≠m
 map:IMap Sl.v w m M
 lst:∀p∈M,Lst (fun b=>w0.heap.size≤b∧b≠m) w 2 p.2 ((uA p.1).map Fld.row)
 pure:Pure w0 w
 own:w0.heap.size≤m
theorem PartsAt.step {w0 w w1:World} {m:Nat} {Bs:List (Addr×Fld)} {M:List (Int×Sl)} (h:PartsAt w0 w m Bs M) {cs:Array Value} {p:Addr} (n1:New w (.cells cs 213) p w1) (k:Int) (n:Nat) (hn:(uA k).length=n) (hcs:cs.toList=((uA k).map Fld.row).flatten) (hk:SE.look M k=none) :
  ∃w2,(Instr.mapUpdate 203 (.map (some m)) (.int .i64 k) (Sl.mk (some p) n n).v).run prog w1=.ok () w2∧PartsAt w0 w2 m Bs (M++[(k,Sl.mk (some p) n n)]):=by
 have E1:Pure w w1:=Ext.new n1
 obtain ⟨w2,hr,hM,hE⟩:=(h.map.pure E1).put (P:=prog) (T:=203) underlying203 underlying3 hk (Sl.mk (some p) n n)
 have B1:=Box.of_newA n1
 have hb:=n1.at_size
 have hm:=h.map.lt
 refine ⟨w2,hr,⟨fun b hb=>⟨((h.box b hb).1.pure E1).ext hE (h.box b hb).2,(h.box b hb).2⟩,hM,?_,(h.pure.trans E1).trans' hE (fun i hi e=>by have:=h.own;omega),h.own⟩⟩
 intro q hq
 rcases List.mem_append.1 hq with hq | hq
 ·exact ((h.lst q hq).pure E1).ext hE (fun b hb=>hb.2)
 ·simp only [List.mem_singleton] at hq
  subst hq
  refine ⟨by simp [hn],fun i hi=>?_⟩
  have hi':i<(uA k).length:=by simpa using hi
  refine ⟨p.add (i*2),⟨by omega,by simp;omega,p,rfl,by simp⟩,?_,?_⟩
  ·rw [zR];exact ⟨by have:=h.pure.size;omega,by omega⟩
  ·have hrow:Row w2 p cs.toList:=hE.row (B1.row) (by omega)
   intro j hj
   rw [xB]
   have hlen:∀r∈(uA k).map Fld.row,r.length=2:=by intro r hr;obtain ⟨f,_,rfl⟩:=List.mem_map.1 hr;rfl
   have hj2:j<2:=by rw [hlen _ (List.getElem_mem hi)] at hj;exact hj
   have hg:=jAV hlen hi hj2
   have hlt:i*2+j<cs.toList.length:=by rw [hcs,vL hlen,List.length_map];omega
   rw [hrow _ hlt,hcs,hg]
structure BxsAt (w0 w:World) (Bs:List (Addr×Fld)):Prop where
 box:∀b∈Bs,Box w b.1 b.2.row 213
 pure:Pure w0 w
theorem BxsAt.step {w0 w w1:World} {Bs:List (Addr×Fld)} (h:BxsAt w0 w Bs) {p:Addr} (n1:New w (.cells #[.nilFunc,.nilFunc] 213) p w1) (f:Fld) {A:WP} (k:∀w',BxsAt w0 w' (Bs++[(p,f)])→A w'):(∀j,j<2→zT w1 (p.add j))∧∀w',w'=storeRow w1 p f.row→A w':=by
 have E1:Pure w w1:=Ext.new n1;refine bx 2 (Box.of_newA n1) rfl rfl (fun w2 b E=>k w2 ⟨fun c hc=>?_,h.pure.own (p:=p) (by rw [n1.at_size];exact h.pure.size) ((Ext.pure E1).trans E)⟩);rcases List.mem_append.1 hc with hc | hc
 ·have hB:=h.box c hc;exact (hB.pure E1).ext E (fun e=>by have:=World.block_lt_of_cell? w c.1 hB.cell0;have:=n1.at_size;omega)
 ·simp only [List.mem_singleton] at hc;subst hc;exact b
theorem PartsAt.get {w0 w:World} {m:Nat} {Bs:List (Addr×Fld)} {M:List (Int×Sl)} (h:PartsAt w0 w m Bs M) {p:Addr} {f:Fld} (hb:(p,f)∈Bs):Row w p [.func (.func f.put) #[] #[],.func (.func f.get) #[] #[]]:=(h.box _ hb).1.row
theorem jUI (w0:World):Calls prog 138 #[] w0 (fun e w'=>∃x:Option Nat,e=.returned (.map x)∧∃m M,x=some m∧(∃Bs,PartsAt w0 w' m Bs M)∧M.map Prod.fst=[1,2,3,4,5,6,7,8,9]):=by
 refine w_Z3 w0 (fun x w'=>∃m M,x=some m∧(∃Bs,PartsAt w0 w' m Bs M)∧M.map Prod.fst=[1,2,3,4,5,6,7,8,9]) ?_;unfold m_Z3;have h0:BxsAt w0 w0 []:=⟨fun b hb=>(by cases hb),Ext.refl _⟩;intro p1 v1 n1;refine h0.step n1 .from_ (fun u1 h1=>?_);intro p2 v2 n2;refine h1.step n2 .to_ (fun u2 h2=>?_);intro p3 v3 n3;refine h2.step n3 .num (fun u3 h3=>?_);intro p4 v4 n4;refine h3.step n4 .text (fun u4 h4=>?_);intro p5 v5 n5;refine h4.step n5 .fst (fun u5 h5=>?_);intro p6 v6 n6;refine h5.step n6 .snd (fun u6 h6=>?_);intro p7 w1 n7;have g0:PartsAt w0 w1 p7.block _ []:=⟨fun b hb=>⟨(h6.box b hb).pure (Ext.new n7),fun e=>by have:=World.block_lt_of_cell? u6 b.1 (h6.box b hb).cell0;have:=n7.at_size;omega⟩,IMap.of_new n7,fun p hp=>(by cases hp),h6.pure.trans (Ext.new n7),by rw [n7.at_size];exact h6.pure.size⟩;refine ⟨_,_,g0.get (f:=.from_) (by simp),?_⟩;intro q1 x1 y1;obtain ⟨z1,r1,g1⟩:=g0.step y1 1 1 rfl rfl (by simp [SE.look]);refine ⟨z1,r1,?_⟩;refine ⟨_,_,g1.get (f:=.num) (by simp),?_⟩;intro q2 x2 y2;obtain ⟨z2,r2,g2⟩:=g1.step y2 2 1 rfl rfl (by simp [SE.look]);refine ⟨z2,r2,?_⟩;refine ⟨_,_,g2.get (f:=.text) (by simp),?_⟩;intro q3 x3 y3;obtain ⟨z3,r3,g3⟩:=g2.step y3 3 1 rfl rfl (by simp [SE.look]);refine ⟨z3,r3,?_⟩;refine ⟨_,_,g3.get (f:=.fst) (by simp),?_⟩;refine ⟨_,_,g3.get (f:=.snd) (by simp),?_⟩;intro q4 x4 y4;obtain ⟨z4,r4,g4⟩:=g3.step y4 4 2 rfl rfl (by simp [SE.look]);refine ⟨z4,r4,?_⟩;refine ⟨_,_,g4.get (f:=.fst) (by simp),?_⟩;intro q5 x5 y5;obtain ⟨z5,r5,g5⟩:=g4.step y5 5 1 rfl rfl (by simp [SE.look]);refine ⟨z5,r5,?_⟩;refine ⟨_,_,g5.get (f:=.from_) (by simp),?_⟩;intro q6 x6 y6;obtain ⟨z6,r6,g6⟩:=g5.step y6 6 1 rfl rfl (by simp [SE.look]);refine ⟨z6,r6,?_⟩;refine ⟨_,_,g6.get (f:=.from_) (by simp),?_⟩;refine ⟨_,_,g6.get (f:=.fst) (by simp),?_⟩;intro q7 x7 y7;obtain ⟨z7,r7,g7⟩:=g6.step y7 7 2 rfl rfl (by simp [SE.look]);refine ⟨z7,r7,?_⟩;refine ⟨_,_,g7.get (f:=.from_) (by simp),?_⟩;refine ⟨_,_,g7.get (f:=.to_) (by simp),?_⟩;refine ⟨_,_,g7.get (f:=.fst) (by simp),?_⟩;intro q8 x8 y8;obtain ⟨z8,r8,g8⟩:=g7.step y8 8 3 rfl rfl (by simp [SE.look]);refine ⟨z8,r8,?_⟩;refine ⟨_,_,g8.get (f:=.from_) (by simp),?_⟩;refine ⟨_,_,g8.get (f:=.to_) (by simp),?_⟩;refine ⟨_,_,g8.get (f:=.fst) (by simp),?_⟩;intro q9 x9 y9;obtain ⟨z9,r9,g9⟩:=g8.step y9 9 3 rfl rfl (by simp [SE.look]);refine ⟨z9,r9,?_⟩;exact ⟨p7.block,_,rfl,⟨_,g9⟩,rfl⟩
end Go.Proofs
end
section
namespace Go.Proofs
def Fld.rd (bs:List UInt8) (r:Rd):Fld→Rd
 | .text=>(qQ bs 64 r).2
 | _=>(qM bs r).2
structure Raw where
 num:Nat
 text:List UInt8
 frm:Nat
 to:Nat
 a:Nat
 b:Nat
 kids:Nat
def jAS:Raw:=⟨0,[],0,0,0,0,0⟩
def Fld.raw (bs:List UInt8) (r:Rd) (x:Raw):Fld→Raw
 | .from_=>{ x with frm:=(qM bs r).1 }
 | .to_=>{ x with to:=(qM bs r).1 }
 | .num=>{ x with num:=(qM bs r).1 }
 | .text=>{ x with text:=(qQ bs 64 r).1 }
 | .fst=>{ x with a:=(qM bs r).1,kids:=1 }
 | .snd=>{ x with b:=(qM bs r).1,kids:=2 }
def qD (bs:List UInt8):List Fld→Raw×Rd→Raw×Rd
 | [],s=>s
 | f :: l,(x,r)=>qD bs l (f.raw bs r x,f.rd bs r)
def nodeErr (k n:Nat) (x:Raw) (e:Nat):Nat :=
 if e≠0 then e
 else if 16≤x.frm∨16≤x.to∨((k=8∨k=9)∧x.frm=x.to) then 50
 else if (0<x.kids∧n≤x.a)∨(1<x.kids∧n≤x.b) then 71
 else 0
def Raw.node (k:Nat) (x:Raw):Sp.Node:=⟨k,x.frm,x.to,x.num,⟨x.text.toArray⟩,if 0<x.kids then (x.a:Int)+1 else 0,if 1<x.kids then (x.b:Int)+1 else 0⟩
def jCH (k:Nat):Bool:=decide (1≤k) && decide (k≤9)
def jCE (L:Sp.Pool) (k:Nat) (s:Raw×Rd):Sp.Pool×Int×Rd :=
 if nodeErr k L.length s.1 s.2.err≠0 then (L,((nodeErr k L.length s.1 s.2.err:Nat):Int),s.2)
 else if (Sp.find L (s.1.node k)).isSome=true then (L,72,s.2)
 else ((Sp.make L (s.1.node k)).2.2,(Sp.make L (s.1.node k)).2.1,s.2)
def vT (bs:List UInt8) (L:Sp.Pool) (r:Rd):Sp.Pool×Int×Rd :=
 if jCH (uD bs r).1=true then jCE L (uD bs r).1 (qD bs (uA (uD bs r).1) (jAS,(uD bs r).2))
 else (L,70,(uD bs r).2)
def inRow:Nat→List Int→Nat
 | i,[]=>i
 | i,s :: l=>if s=(i:Int)+1 then inRow (i+1) l else i
def jCY (L:Sp.Pool) (ps:List Nat):Option Sp.Pool×Int×Nat :=
 let i:=inRow 0 (Sp.subs L L.length)
 if h:i<ps.length then (none,73,ps[i]) else (some L,0,0)
def jJU (bs:List UInt8):Nat→Sp.Pool→Rd→List Nat→Option Sp.Pool×Int×Nat
 | 0,L,_,ps=>jCY L ps
 | n+1,L,r,ps =>
  if r.at_<bs.length then
   if (vT bs L r).2.1≠0 then (none,(vT bs L r).2.1,r.at_)
   else jJU bs n (vT bs L r).1 (vT bs L r).2.2 (ps++[r.at_])
  else jCY L ps
def qF (bs:List UInt8):Option Sp.Pool×Int×Nat :=
 if 4096<bs.length then (none,1,0) else if bs.length=0 then (none,3,0) else jJU bs bs.length [] ⟨0,0,0⟩ []
def vM (Lq:Sp.Pool):List Int→Sp.Pool→(Int→Int)→Sp.Pool×Int×(Int→Int)
 | [],L,own=>(L,0,own)
 | s :: l,L,own =>
  let m:=Sp.make L { Sp.nodeOf Lq s with a:=own (Sp.nodeOf Lq s).a,b:=own (Sp.nodeOf Lq s).b }
  if m.2.1≠0 then (L,m.2.1,own) else vM Lq l m.2.2 (fun x=>if x=s then m.1 else own x)
def uE (L Lq:Sp.Pool) (t:Int):Int×Int×Sp.Pool :=
 if Sp.inP Lq t=true then
  let c:=vM Lq (Sp.subs Lq t) L (fun _=>0)
  if c.2.1≠0 then (0,c.2.1,L) else (c.2.2 t,0,c.1)
 else (0,51,L)
def jGV (L:Sp.Pool) (bs:List UInt8):Int×Int×Nat×Sp.Pool :=
 match (qF bs).1 with
 | none=>(0,(qF bs).2.1,(qF bs).2.2,L)
 | some q=>((uE L q q.length).1,(uE L q q.length).2.1,0,(uE L q q.length).2.2)
theorem jJX (bs:List UInt8) (r:Rd) (h:r.at_≤bs.length):r.at_≤(qM bs r).2.at_∧(qM bs r).2.at_≤bs.length:=by
 have key:∀(l:List UInt8) (i n:Nat) (m k:Nat),uX i n l=.ok (m,k)→k≤i+l.length∧i<k:=by
  intro l;induction l with
  | nil=>intro i n m k h;simp [uX] at h
  | cons c l ih =>
   intro i n m k h
   rw [xX] at h
   split at h
   ·cases h
   ·split at h
    ·split at h
     ·cases h
     ·cases h;simp
    ·have:=ih _ _ _ _ h
     rw [List.length_cons];omega
 unfold qM;split
 ·split
  ·rename_i n k hk;have:=key _ _ _ _ _ hk;rw [List.length_drop] at this;simp only;omega
  ·exact ⟨Nat.le_refl _,h⟩
 ·exact ⟨Nat.le_refl _,h⟩
theorem jQX (bs:List UInt8) (m:Nat) (r:Rd) (h:r.at_≤bs.length):r.at_≤(qQ bs m r).2.at_∧(qQ bs m r).2.at_≤bs.length:=by
 have hn:=jJX bs r h;unfold qM at hn;unfold qQ;split
 ·rename_i he;rw [if_pos he] at hn;split
  ·rename_i n k hk;rw [hk] at hn;simp only at hn;split
   ·exact ⟨Nat.le_refl _,h⟩
   ·split
    ·exact ⟨Nat.le_refl _,h⟩
    ·simp only;omega
  ·exact ⟨Nat.le_refl _,h⟩
 ·exact ⟨Nat.le_refl _,h⟩
theorem Fld.rd_at (bs:List UInt8) (r:Rd) (f:Fld) (h:r.at_≤bs.length):r.at_≤(f.rd bs r).at_∧(f.rd bs r).at_≤bs.length:=by
 cases f <;> first | exact jQX bs 64 r h | exact jJX bs r h
theorem jHS (bs:List UInt8):∀(l:List Fld) (x:Raw) (r:Rd),r.at_≤bs.length→r.at_≤(qD bs l (x,r)).2.at_∧(qD bs l (x,r)).2.at_≤bs.length:=by
 intro l;induction l with
 | nil=>intro x r h;exact ⟨Nat.le_refl _,h⟩
 | cons f l ih =>
  intro x r h
  have h1:=f.rd_at bs r h
  have h2:=ih (f.raw bs r x) (f.rd bs r) h1.2
  rw [qD];omega
theorem jLC (bs:List UInt8) (r:Rd) (h:r.at_<bs.length) (he:r.err=0):uD bs r=(bs[r.at_].toNat,⟨r.at_+1,0,r.spot⟩):=by
 unfold uD;rw [if_pos he,dif_pos h]
theorem jBJ (bs:List UInt8) (L:Sp.Pool) (r:Rd) (h:r.at_<bs.length) (he:r.err=0):vT bs L r =
  (if jCH bs[r.at_].toNat=true then jCE L bs[r.at_].toNat (qD bs (uA bs[r.at_].toNat) (jAS,⟨r.at_+1,0,r.spot⟩)) else (L,70,⟨r.at_+1,0,r.spot⟩)):=by
 unfold vT
 rw [jLC bs r h he]
theorem jEB {L:Sp.Pool} {k:Nat} {s:Raw×Rd} (h:(jCE L k s).2.1=0):s.2.err=0∧nodeErr k L.length s.1 s.2.err=0∧Sp.find L (s.1.node k)=none∧(Sp.make L (s.1.node k)).2.1=0∧jCE L k s=((Sp.make L (s.1.node k)).2.2,0,s.2):=by
 unfold jCE at *;split at h
 ·rename_i h1;exact absurd (by simpa using h) h1
 ·rename_i h1;rw [if_neg h1];have h1:nodeErr k L.length s.1 s.2.err=0:=by omega
  have he':s.2.err=0:=by
   by_cases h2:s.2.err=0
   ·exact h2
   ·exfalso;unfold nodeErr at h1;rw [if_pos h2] at h1;exact h2 h1
  split at h
  ·simp at h
  ·rename_i h3;rw [if_neg h3];simp only at h;exact ⟨he',h1,by simpa using h3,h,by rw [h]⟩
theorem jHQ (bs:List UInt8) (L:Sp.Pool) (r:Rd) (h:r.at_<bs.length) (he:r.err=0) (h0:(vT bs L r).2.1=0):r.at_<(vT bs L r).2.2.at_∧(vT bs L r).2.2.at_≤bs.length∧(vT bs L r).2.2.err=0:=by
 have hl:=jHS bs (uA bs[r.at_].toNat) jAS ⟨r.at_+1,0,r.spot⟩ (by simp only;omega);simp only at hl;rw [jBJ bs L r h he] at *;split at h0
 ·rename_i hk;rw [if_pos hk];obtain ⟨h1,_,_,_,h5⟩:=jEB h0;rw [h5];exact ⟨by simp only;omega,hl.2,h1⟩
 ·simp at h0
theorem jLB {bs:List UInt8} {L:Sp.Pool} {r:Rd} {ps:List Nat} (h:¬ r.at_<bs.length):∀n,jJU bs n L r ps=jCY L ps:=by
 intro n;cases n with
 | zero=>rfl
 | succ n=>rw [jJU,if_neg h]
end Go.Proofs
end
section
open Go Go.SE
namespace Go.Proofs
open Tryz
attribute [local irreducible] Calls CallsD
theorem c_put {S:NP} (f:Fld) (s:Sl) (bs:List UInt8) (n:Sp.Node) (na nb mb:Nat) (M:List (Int×Int)) (w0:World) (hs:Lst S w0 1 s (byr bs)) (hz:s.a=none→s=Sl.nil) (hn:bs.length≤10000000000)
  (h1:0≤n.frm∧n.frm<9223372036854775808) (h2:0≤n.to∧n.to<9223372036854775808) (h3:0≤n.num∧n.num<18446744073709551616) (h4:n.text.size≤10000000000) (hM:IMap (fun i:Int=>.int .i64 i) w0 mb M)
  (ha:f=.fst→SE.look M n.a=some (na:Int)∧na<9223372036854775808) (hb:f=.snd→SE.look M n.b=some (nb:Int)∧nb<9223372036854775808) :
  Calls prog f.put #[s.v,.agg #[.int .i64 n.kind,.int .i64 n.frm,.int .i64 n.to,.int .u64 n.num,.string n.text,.int .i64 n.a,.int .i64 n.b],.map (some mb)] w0 (fun e w'=>∃r:Sl,e=.returned r.v∧RetO w0 5 1 (byr (bs++f.bytes n na nb)) r w'):=by
 cases f
 ·exact jPQ s bs _ _ _ _ _ _ _ _ w0 hs hz hn n.frm.toNat (by omega) (by omega)
 ·exact jUH s bs _ _ _ _ _ _ _ _ w0 hs hz hn n.to.toNat (by omega) (by omega)
 ·exact jPP s bs _ _ _ _ _ _ _ _ w0 hs hz hn n.num.toNat (by omega) (by omega)
 ·exact jNE s bs _ _ _ _ _ _ _ _ w0 hs hz hn h4
 ·exact c_putA s bs _ _ _ _ _ _ _ w0 hs hz hn mb M na hM (ha rfl).1 (ha rfl).2
 ·exact c_putB s bs _ _ _ _ _ _ _ w0 hs hz hn mb M nb hM (hb rfl).1 (hb rfl).2
def Fld.upd (bs:List UInt8) (r:Rd) (cells:List Value):Fld→List Value
 | .from_=>cells.set 7 (.int .u64 ((qM bs r).1:Int))
 | .to_=>cells.set 8 (.int .u64 ((qM bs r).1:Int))
 | .num=>cells.set 3 (.int .u64 ((qM bs r).1:Int))
 | .text=>cells.set 4 (.string ⟨(qQ bs 64 r).1.toArray⟩)
 | .fst=>(cells.set 9 (.int .u64 ((qM bs r).1:Int))).set 11 (.int .i64 1)
 | .snd=>(cells.set 10 (.int .u64 ((qM bs r).1:Int))).set 11 (.int .i64 2)
theorem c_get {S:NP} (f:Fld) (a q:Addr) (s:Sl) (bs:List UInt8) (r:Rd) (cells:List Value) (w0:World) (h:RdS S w0 a s bs r) (hat:r.at_≤bs.length) (hS:∀b,S b→b<w0.heap.size) (hq:Box w0 q cells 253) (hl:cells.length=12) (haq:a.block≠q.block) (hSq:∀b,S b→b≠q.block) :
  Calls prog f.get #[.pointer (some a),.pointer (some q)] w0 (fun e w'=>e=.returned (.tuple #[])∧RdS S w' a s bs (f.rd bs r)∧Box w' q (f.upd bs r cells) 253∧Ext (fun b=>b=a.block∨b=q.block) w0 w'):=by
 cases f
 ·exact jPU a q s bs r cells w0 h hat hS hq hl haq hSq
 ·exact jUK a q s bs r cells w0 h hat hS hq hl haq hSq
 ·exact jSD a q s bs r cells w0 h hat hS hq hl haq hSq
 ·exact jPT a q s bs r cells w0 h hat hS hq hl haq hSq
 ·exact c_getA a q s bs r cells w0 h hat hS hq hl haq hSq
 ·exact c_getB a q s bs r cells w0 h hat hS hq hl haq hSq
structure Kinds (w:World) (m:Nat) (F:NP):Prop where
 ex:∃M:List (Int×Sl),IMap Sl.v w m M∧(∀p∈M,Lst F w 2 p.2 ((uA p.1).map Fld.row))∧M.map Prod.fst=[1,2,3,4,5,6,7,8,9]
 lt:∀b,F b→b<w.heap.size
 ne:∀b,F b→b≠m
theorem Kinds.ext {w w':World} {m:Nat} {F G:NP} (h:Kinds w m F) (E:Ext G w w') (hG:∀b,F b∨b=m→¬ G b):Kinds w' m F:=by
 obtain ⟨M,h1,h2,h3⟩:=h.ex;exact ⟨⟨M,h1.ext E (hG m (.inr rfl)),fun p hp=>(h2 p hp).ext E (fun b hb=>hG b (.inl hb)),h3⟩,fun b hb=>Nat.lt_of_lt_of_le (h.lt b hb) E.size,h.ne⟩
theorem Kinds.pure {w w':World} {m:Nat} {F:NP} (h:Kinds w m F) (E:Pure w w'):Kinds w' m F:=h.ext E (fun _ _ h=>h)
theorem Kinds.mlt {w:World} {m:Nat} {F:NP} (h:Kinds w m F):m<w.heap.size:=by obtain ⟨M,h1,_⟩:=h.ex;exact h1.lt
theorem lst_lt {S:NP} {w:World} {s:Sl} {rs:List (List Value)} {sz:Nat} (h:Lst S w sz s rs) (hr:∀r∈rs,0<r.length):Lst (fun b=>S b∧b<w.heap.size) w sz s rs :=
 ⟨h.len,fun i hi=>let ⟨a,h1,h2,h3⟩:=h.at_ i hi;⟨a,h1,⟨h2,by
  have h0:=hr _ (List.getElem_mem hi);have:=h3 0 h0;rw [List.getElem?_eq_getElem h0] at this;have:=World.block_lt_of_cell? w (a.add 0) this;rwa [zR] at this⟩,h3⟩⟩
theorem jPS (w0:World):Calls prog 138 #[] w0 (fun e w'=>∃x:Option Nat,e=.returned (.map x)∧∃m F,x=some m∧Kinds w' m F∧Pure w0 w'∧w0.heap.size≤m∧∀b,F b→w0.heap.size≤b):=by
 refine (jUI w0).mono ?_;rintro _ w' ⟨x,rfl,m,M,rfl,⟨Bs,h⟩,hM⟩;refine ⟨_,rfl,m,fun b=>(w0.heap.size≤b∧b≠m)∧b<w'.heap.size,rfl,⟨⟨M,h.map,fun p hp=>lst_lt (h.lst p hp) (fun r hr=>by obtain ⟨f,_,rfl⟩:=List.mem_map.1 hr;simp [Fld.row]),hM⟩,fun b hb=>hb.2,fun b hb=>hb.1.2⟩,h.pure,h.own,fun b hb=>hb.1.1⟩
theorem Kinds.get {w:World} {m:Nat} {F:NP} (h:Kinds w m F) (k:Int) (h1:1≤k) (h9:k≤9) (ok:Bool) :
  ∃s:Sl,(Instr.lookup 203 (.map (some m)) (.int .i64 k) ok).run prog w=.ok (if ok then .tuple #[s.v,.bool true] else s.v) w∧Lst F w 2 s ((uA k).map Fld.row):=by
 obtain ⟨M,hM,hL,hk⟩:=h.ex
 rcases hM.get (P:=prog) (T:=203) underlying203 underlying3 (zeroValue209 _) k ok with ⟨hn,_⟩ | ⟨s,hs,hr⟩
 ·have:=xZ.1 hn
  rw [hk] at this
  simp at this;omega
 ·exact ⟨s,hr,hL _ (jBP hs)⟩
theorem Kinds.none {w:World} {m:Nat} {F:NP} (h:Kinds w m F) (k:Int) (hk:¬ (1≤k∧k≤9)):(Instr.lookup 203 (.map (some m)) (.int .i64 k) true).run prog w=.ok (.tuple #[Sl.nil.v,.bool false]) w:=by
 obtain ⟨M,hM,hL,hks⟩:=h.ex;rcases hM.get (P:=prog) (T:=203) underlying203 underlying3 (zeroValue209 _) k true with ⟨_,hr⟩ | ⟨s,hs,_⟩
 ·exact hr
 ·have:k∈M.map Prod.fst:=List.mem_map.2 ⟨_,jBP hs,rfl⟩;rw [hks] at this;simp at this;omega
def yQ:Nat→List Int→List (Int×Int)
 | _,[]=>[]
 | i,t :: l=>(t,(i:Int)) :: yQ (i+1) l
theorem jHV (l:List Int) (t:Int):∀i,yQ i (l++[t])=yQ i l++[(t,((i+l.length:Nat):Int))]:=by
 induction l with
 | nil=>intro i;simp [yQ]
 | cons x l ih=>intro i;simp only [List.cons_append,yQ,ih,List.length_cons];congr 3;simp;omega
theorem jHW (l:List Int):∀i,(yQ i l).map Prod.fst=l:=by
 induction l with
 | nil=>intro i;rfl
 | cons x l ih=>intro i;simp [yQ,ih]
theorem jKA (l:List Int):∀i,(yQ i l).length=l.length:=by
 induction l with
 | nil=>intro i;rfl
 | cons x l ih=>intro i;simp [yQ,ih]
theorem jCQ (l:List Int) (t:Int) (ht:t∈l):∀i,SE.look (yQ i l) t=some ((i+posOf l t:Nat):Int):=by
 induction l with
 | nil=>cases ht
 | cons x l ih =>
  intro i
  rw [yQ,SE.look]
  by_cases e:x=t
  ·subst e;rw [if_pos rfl];simp [posOf]
  ·rw [if_neg e]
   have ht':t∈l:=(List.mem_cons.1 ht).resolve_left (fun h=>e h.symm)
   rw [ih ht']
   have:posOf (x :: l) t=posOf l t+1:=by
    have e0:(x == t)=false:=by simpa using e
    simp [posOf,List.idxOf_cons,e0]
   rw [this];congr 2;omega
end Go.Proofs
end
section
namespace Go.Sp
def tO (L:Pool):Prop:=∀e∈L,uJ e.node.num
theorem tO.nil:tO []:=fun _ h=>(by cases h)
theorem tO.make {L:Pool} (h:tO L) {n:Node} (hn:uJ n.num):tO (make L n).2.2:=by
 rcases jEH L n with e | ⟨_,e⟩
 ·rw [e];exact h
 ·rw [e];intro x hx;rcases List.mem_append.1 hx with hx | hx
  ·exact h x hx
  ·rw [List.mem_singleton] at hx;subst hx;exact hn
theorem tO.grow (t:Tree):∀L,tO L→NumT t→tO (grow L t).2.2:=by
 induction t using Tree.ind with
 | h k f t u x ks ih =>
  have:∀(ks:List Tree),(∀i (hi:i<ks.length),∀L,tO L→NumT ks[i]→tO (Sp.grow L ks[i]).2.2)→(∀i (hi:i<ks.length),NumT ks[i])→∀(n:Node) i L,uJ n.num→tO L→tO (vP n i L ks).2.2:=by
   intro ks;induction ks with
   | nil=>intro _ _ n i L hn h;unfold vP;exact h.make hn
   | cons t ts iht =>
    intro hh hk n i L hn h
    have h0:=hh 0 (by simp) L h (hk 0 (by simp))
    simp only [List.getElem_cons_zero] at h0
    unfold vP
    split
    ·exact h0
    ·exact iht (fun i hi=>hh (i+1) (by simpa using hi)) (fun i hi=>hk (i+1) (by simpa using hi)) _ _ _ (by split <;> exact hn) h0
  intro L h hT
  cases hT with
  | mk _ _ _ _ _ _ own kids =>
   unfold Sp.grow
   exact this ks ih kids _ _ L own h
theorem tO.of {L:Pool} (h:tO L) {t:Tree} (hT:NumT t):tO (of L t).2.2:=by
 unfold Sp.of;split
 ·exact h
 ·split
  ·exact h
  ·exact tO.grow t L h hT
theorem tO.node {L:Pool} (h:tO L) (t:Int):uJ (nodeOf L t).num:=by
 cases ht:inP L t with
 | true=>obtain ⟨e,he,hm,_⟩:=jBS ht;simp only [nodeOf,he,Option.map_some,Option.getD_some];exact h e hm
 | false=>simp only [nodeOf,uQ ht,Option.map_none,Option.getD_none];exact ⟨by decide,by decide⟩
theorem jGI {L:Pool} (hW:Wf L) {t:Int} (ht:inP L t=true):1≤(nodeOf L t).kind∧(nodeOf L t).kind≤9∧0≤(nodeOf L t).frm∧(nodeOf L t).frm<16∧0≤(nodeOf L t).to∧(nodeOf L t).to<16∧(nodeOf L t).text.size≤64:=by
 obtain ⟨h1,_,_,h4,_⟩:=hW.node ht;generalize nodeOf L t=n at *;have hp:isKind n.kind=true∧((shapeOf n.kind).frm=false→n.frm=0)∧((shapeOf n.kind).to=false→n.to=0):=by
  unfold vG at h1;simp only at h1;split at h1
  ·cases h1
  ·rename_i h;simp at h;exact ⟨h.1.1.1.1,h.1.1.1.2,h.1.1.2⟩
 have hk:=hp.1;simp only [isKind,Bool.and_eq_true,decide_eq_true_eq] at hk;have hf:((shapeOf n.kind).frm=true→tQ n.frm=true)∧((shapeOf n.kind).to=true→tQ n.to=true)∧n.text.size≤64:=by
  unfold zZ at h4;split at h4
  ·cases h4
  ·rename_i h;split at h4
   ·cases h4
   ·simp at h;exact ⟨fun hh=>h.1 hh,fun hh=>(h.2 hh).1,by omega⟩
 refine ⟨hk.1,hk.2,?_⟩;have n1:0≤n.frm∧n.frm<16:=by
  cases hs:(shapeOf n.kind).frm with
  | true=>have:=hf.1 hs;simpa [tQ] using this
  | false=>rw [hp.2.1 hs];decide
 have n2:0≤n.to∧n.to<16:=by
  cases hs:(shapeOf n.kind).to with
  | true=>have:=hf.2.1 hs;simpa [tQ] using this
  | false=>rw [hp.2.2 hs];decide
 exact ⟨n1.1,n1.2,n2.1,n2.2,hf.2.2⟩
end Go.Sp
namespace Go.Proofs
theorem jGN (k:Int):(uA k).length≤3:=by
 unfold uA;repeat' split
 all_goals decide
theorem jPD (n:Sp.Node) (na nb:Nat) (f:Fld) (h1:n.frm<16) (h2:n.to<16) (h3:Sp.uJ n.num) (h4:n.text.size≤64) (ha:na<65537) (hb:nb<65537):(f.bytes n na nb).length≤74:=by
 have h3:=h3.2;cases f <;> simp only [Fld.bytes,qH,List.length_append]
 ·have:=vS (n:=n.frm.toNat) (by omega);omega
 ·have:=vS (n:=n.to.toNat) (by omega);omega
 ·have:=vS (n:=n.num.toNat) (by omega);omega
 ·have:=vS (n:=n.text.size) (by omega);have:n.text.data.toList.length=n.text.size:=Array.length_toList;omega
 ·have:=vS (n:=na) (by omega);omega
 ·have:=vS (n:=nb) (by omega);omega
theorem jIG {α β:Type} (f:α→List β) (c:Nat):∀l:List α,(∀x∈l,(f x).length≤c)→(l.flatMap f).length≤c*l.length:=by
 intro l;induction l with
 | nil=>intro _;simp
 | cons a l ih =>
  intro h
  have h1:=h a (by simp)
  have h2:=ih (fun x hx=>h x (List.mem_cons_of_mem _ hx))
  rw [List.flatMap_cons,List.length_append,List.length_cons,Nat.mul_succ];omega
theorem tJ (l:List Int) (t:Int):posOf l t≤l.length:=List.idxOf_le_length
theorem jHY {L:Sp.Pool} (hW:Sp.Wf L) (hN:Sp.tO L) {seen:List Int} {t:Int} (ht:Sp.inP L t=true) (hs:seen.length≤65536):(yY L seen t).length≤300:=by
 obtain ⟨_,_,_,h1,_,h2,h4⟩:=Sp.jGI hW ht;have:=jIG (Fld.bytes (Sp.nodeOf L t) (posOf seen (Sp.nodeOf L t).a) (posOf seen (Sp.nodeOf L t).b)) 74 (uA (Sp.nodeOf L t).kind) (fun f _=>jPD _ _ _ f h1 h2 (hN.node t) h4 (by have:=tJ seen (Sp.nodeOf L t).a;omega) (by have:=tJ seen (Sp.nodeOf L t).b;omega));have h3:=jGN (Sp.nodeOf L t).kind;have:74*(uA (Sp.nodeOf L t).kind).length≤74*3:=Nat.mul_le_mul_left _ h3;unfold yY;rw [List.length_cons];omega
theorem jCM {L:Sp.Pool} (hW:Sp.Wf L) (hN:Sp.tO L):∀(l seen:List Int),(∀t∈l,Sp.inP L t=true)→seen.length+l.length≤65536→(textFrom L seen l).length≤300*l.length:=by
 intro l;induction l with
 | nil=>intro seen _ _;simp [textFrom]
 | cons t l ih =>
  intro seen h hl
  rw [List.length_cons] at hl
  have h1:=jHY hW hN (seen:=seen) (h t (by simp)) (by omega)
  have h2:=ih (seen++[t]) (fun x hx=>h x (List.mem_cons_of_mem _ hx)) (by rw [List.length_append,List.length_singleton];omega)
  rw [textFrom,List.length_append,List.length_cons,Nat.mul_succ];omega
end Go.Proofs
end
section
open Go Go.SE
namespace Go.Proofs
attribute [local irreducible] Calls
theorem uT (k:Int):(k=1∨k=2∨k=3∨k=4∨k=5∨k=6∨k=7∨k=8∨k=9)∨(Sp.shapeOf k=Sp.noShape∧Sp.isKind k=false∧∀m:Int,1≤m→m≤9→(k == m)=false):=by
 by_cases h:k=1∨k=2∨k=3∨k=4∨k=5∨k=6∨k=7∨k=8∨k=9
 ·exact .inl h
 ·right;refine ⟨?_,?_,fun m h1 h2=>?_⟩
  ·unfold Sp.shapeOf;repeat rw [if_neg (by omega)]
  ·unfold Sp.isKind;apply Bool.eq_false_iff.2;intro h3;simp at h3;omega
  ·rw [beq_eq_false_iff_ne];omega
theorem yT (k:Int):s_A k=(Sp.shapeOf k).kids:=by
 rcases uT k with h | ⟨h,_,hm⟩
 ·rcases h with rfl | rfl | rfl | rfl | rfl | rfl | rfl | rfl | rfl <;> decide
 ·rw [h];unfold s_A;simp [hm,Sp.noShape]
theorem jEA (k:Int):s_D k=(Sp.shapeOf k).frm:=by
 rcases uT k with h | ⟨h,_,hm⟩
 ·rcases h with rfl | rfl | rfl | rfl | rfl | rfl | rfl | rfl | rfl <;> decide
 ·rw [h];unfold s_D;simp [hm,Sp.noShape]
theorem jHG (k:Int):((k == 8) || (k == 9))=(Sp.shapeOf k).to:=by
 rcases uT k with h | ⟨h,_,hm⟩
 ·rcases h with rfl | rfl | rfl | rfl | rfl | rfl | rfl | rfl | rfl <;> decide
 ·rw [h];simp [hm,Sp.noShape]
theorem jOB (k:Int):(k == 2)=(Sp.shapeOf k).num:=by
 rcases uT k with h | ⟨h,_,hm⟩
 ·rcases h with rfl | rfl | rfl | rfl | rfl | rfl | rfl | rfl | rfl <;> decide
 ·rw [h];simp [hm,Sp.noShape]
theorem jMC (k:Int):(k == 3)=(Sp.shapeOf k).text:=by
 rcases uT k with h | ⟨h,_,hm⟩
 ·rcases h with rfl | rfl | rfl | rfl | rfl | rfl | rfl | rfl | rfl <;> decide
 ·rw [h];simp [hm,Sp.noShape]
theorem jMD (k:Int):(!(decide (k<1) || decide (k>9)))=Sp.isKind k:=by
 unfold Sp.isKind;by_cases h1:k<1 <;> by_cases h2:k>9 <;> simp [h1,h2] <;> omega
theorem ite53 (q:Bool):decide ((if q=true then (53:Int) else 0)=0)=!q:=by cases q <;> rfl
def Sp.nodeErr (n:Sp.Node):Int :=
 if Sp.vG n≠0 then 53 else if (decide ((Sp.shapeOf n.kind).kids<1) && n.a != 0) || (decide ((Sp.shapeOf n.kind).kids<2) && n.b != 0) then 53 else Sp.zZ (Sp.shapeOf n.kind) n
theorem jJT (n:Sp.Node):s_G1 n.kind n.frm n.to n.num n.text n.a n.b=(decide (Sp.vG n=0) && !((decide ((Sp.shapeOf n.kind).kids<1) && n.a != 0) || (decide ((Sp.shapeOf n.kind).kids<2) && n.b != 0))):=by
 obtain ⟨k,f,t,u,x,a,b⟩:=n;unfold s_G1 Sp.vG;simp only [yT,jEA,jHG k,jOB k,jMC k,jMD];have hk:=Sp.qX k;generalize Sp.shapeOf k=s at *;obtain ⟨s1,s2,s3,s4,s5⟩:=s;generalize Sp.isKind k=i;have e1:decide (s5≥1)=!decide (s5<1):=by by_cases h:s5<1 <;> simp [h] <;> omega
 have e2:(s5 == 2)=!decide (s5<2):=by
  by_cases h:s5<2
  ·simp [h];omega
  ·simp [h];simp at hk;omega
 simp only [e1,e2,bne,ite53];generalize (f == 0)=c1;generalize (t == 0)=c2;generalize (u == 0)=c3;generalize decide (x=⟨#[]⟩)=c4;generalize (a == 0)=c5;generalize (b == 0)=c6;generalize decide (s5<1)=c7;generalize decide (s5<2)=c8;cases i <;> cases s1 <;> cases s2 <;> cases s3 <;> cases s4 <;> cases c1 <;> cases c2 <;> cases c3 <;> cases c4 <;> simp
theorem jDZ (n:Sp.Node):s_I n.kind n.frm n.to n.num n.text n.a n.b=Sp.nodeErr n:=by
 unfold s_I Sp.nodeErr;rw [jJT,jEA,jHG];by_cases h1:Sp.vG n=0
 ·by_cases h2:((decide ((Sp.shapeOf n.kind).kids<1) && n.a != 0) || (decide ((Sp.shapeOf n.kind).kids<2) && n.b != 0))=true
  ·rw [h2];simp [h1]
  ·have h2:((decide ((Sp.shapeOf n.kind).kids<1) && n.a != 0) || (decide ((Sp.shapeOf n.kind).kids<2) && n.b != 0))=false:=by simpa using h2
   rw [h2];simp only [h1,ne_eq,not_true_eq_false,if_false,Bool.false_eq_true,decide_true,Bool.not_false,Bool.and_true,Bool.not_true,cond_false];unfold Sp.zZ Sp.tQ;have e1:(decide (n.frm≥0) && decide (n.frm<16))=(decide (0≤n.frm) && decide (n.frm<16)):=rfl;have e2:(decide (n.to≥0) && decide (n.to<16))=(decide (0≤n.to) && decide (n.to<16)):=rfl;have e3:(n.frm == n.to)=(n.to == n.frm):=by rw [Bool.eq_iff_iff];simp only [beq_iff_eq];exact eq_comm
   rw [e1,e2,e3];have e4:decide (((n.text.size:Int))>64)=decide (n.text.size>64):=decide_eq_decide.2 (by omega);rw [e4];generalize ((Sp.shapeOf n.kind).frm && !(decide (0≤n.frm) && decide (n.frm<16)) || (Sp.shapeOf n.kind).to && (!(decide (0≤n.to) && decide (n.to<16)) || n.to == n.frm))=c;cases c
   ·by_cases h:n.text.size>64 <;> simp [h]
   ·rfl
 ·simp [h1]
end Go.Proofs
end
section
open Go Go.SE
namespace Go.Proofs
open Tryz
attribute [local irreducible] Calls
theorem jKU:SlType prog 49 103 7 64:=by
 refine ⟨underlying49,⟨t103,_,by kernel_rfl,(by kernel_rfl:t103.zero=some (.agg #[.int .i64 0,.int .i64 0,.int .i64 0,.int .u64 0,.string ⟨#[]⟩,.int .i64 0,.int .i64 0])),by kernel_rfl,by kernel_rfl,rfl⟩,by omega⟩
theorem jCC:SlType prog 50 3 1 8:=by
 refine ⟨underlying50,⟨t3,_,by kernel_rfl,(by kernel_rfl:t3.zero=some (.int .i64 0)),by kernel_rfl,by kernel_rfl,rfl⟩,by omega⟩
def jQS (e:Sp.Ent):List Value:=xD e.node
def jTQ (e:Sp.Ent):List Value:=[.int .i64 e.size]
def jOH (e:Sp.Ent):List Value:=[.int .i64 e.depth]
structure PoolRS (w:World) (p:Addr) (L:Sp.Pool) (s1 s2 s3:Sl):Prop where
 box:Box w p [s1.v,s2.v,s3.v] 52
 r1:Rws w 103 7 s1 (L.map jQS)
 r2:Rws w 3 1 s2 (L.map jTQ)
 r3:Rws w 3 1 s3 (L.map jOH)
 n1:¬ s1.blk p.block
 n2:¬ s2.blk p.block
 n3:¬ s3.blk p.block
 d12:∀b,s1.blk b→¬ s2.blk b
 d13:∀b,s1.blk b→¬ s3.blk b
 d23:∀b,s2.blk b→¬ s3.blk b
def qK (w:World) (p:Addr) (L:Sp.Pool) (F:NP):Prop:=∃s1 s2 s3,PoolRS w p L s1 s2 s3∧∀b,F b↔(b=p.block∨s1.blk b∨s2.blk b∨s3.blk b)
theorem qK.ext {G:NP} {w w':World} {p:Addr} {L:Sp.Pool} {F:NP} (h:qK w p L F) (hE:Ext G w w') (hd:∀b,F b→¬ G b):qK w' p L F:=by
 obtain ⟨s1,s2,s3,h,hF⟩:=h;exact ⟨s1,s2,s3,⟨h.box.ext hE (hd _ ((hF _).2 (.inl rfl))),h.r1.ext hE (fun b hb=>hd _ ((hF _).2 (.inr (.inl hb)))),h.r2.ext hE (fun b hb=>hd _ ((hF _).2 (.inr (.inr (.inl hb))))),h.r3.ext hE (fun b hb=>hd _ ((hF _).2 (.inr (.inr (.inr hb))))),h.n1,h.n2,h.n3,h.d12,h.d13,h.d23⟩,hF⟩
theorem qK.pure {w w':World} {p:Addr} {L:Sp.Pool} {F:NP} (h:qK w p L F) (hE:Pure w w'):qK w' p L F:=h.ext hE (fun _ _ h=>h)
theorem qK.lt {w:World} {p:Addr} {L:Sp.Pool} {F:NP} (h:qK w p L F) {b:Nat} (hb:F b):b<w.heap.size:=by
 obtain ⟨s1,s2,s3,h,hF⟩:=h;rcases (hF b).1 hb with rfl | hb | hb | hb
 ·exact h.box.lt
 ·exact h.r1.lt hb
 ·exact h.r2.lt hb
 ·exact h.r3.lt hb
theorem jEQ (w0:World):Calls prog 12 #[] w0 (fun e w'=>∃r:Option Addr,e=.returned (.pointer r)∧∃p F,r=some p∧qK w' p [] F∧Pure w0 w'∧∀b,F b→w0.heap.size≤b):=by
 refine w_S3 w0 (fun r w'=>∃p F,r=some p∧qK w' p [] F∧Pure w0 w'∧∀b,F b→w0.heap.size≤b) ?_;unfold m_S3;have hnil:∀b,¬ Sl.nil.blk b:=fun b hb=>by obtain ⟨a,h,_⟩:=hb;cases h
 intro p w1 h1;have b1:=Box.of_new h1;have E1:Pure w0 w1:=Ext.new h1
 first
  | exact ⟨p,(·=p.block),rfl,⟨Sl.nil,Sl.nil,Sl.nil,⟨b1,Rws.nil _ _ _,Rws.nil _ _ _,Rws.nil _ _ _,hnil _,hnil _,hnil _,fun b h=>(hnil b h).elim,fun b h=>(hnil b h).elim,fun b h=>(hnil b h).elim⟩,fun b=>by simp [hnil]⟩,E1,fun b hb=>by subst hb;exact New.own (Ext.refl w0) h1⟩
  | skip
theorem uG (p:Addr) (t:Int) (w0:World) {L:Sp.Pool} {F:NP} (hP:qK w0 p L F):Calls prog 19 #[.pointer (some p),.int .i64 t] w0 (fun e w'=>∃r:Bool,e=.returned (.bool r)∧(r=Sp.inP L t∧w'=w0)):=by
 refine w_U3 _ _ w0 (fun r w'=>r=Sp.inP L t∧w'=w0) ?_;unfold m_U3;obtain ⟨s1,s2,s3,h,hF⟩:=hP;have hl:s1.len=L.length:=by rw [h.r1.len];simp
 refine ⟨fun hc=>⟨p,rfl,s1,h.box.cell0,?_,rfl⟩,fun hc=>⟨?_,rfl⟩⟩
 ·have:=of_decide_eq_true hc;rw [hl];simp [Sp.inP,this]
 ·have:=of_decide_eq_false hc;simp [Sp.inP];omega
theorem PoolRS.at1 {w:World} {p:Addr} {L:Sp.Pool} {s1 s2 s3:Sl} (h:PoolRS w p L s1 s2 s3) {t:Int} (ht:Sp.inP L t=true) (hok:Sp.Ok L):∃e,Sp.get L t=some e ∧
  (∃a,At s1 (IntKind.i64.wrap (t - 1)) 7 a∧Row w a (jQS e))∧(∃a,At s2 (IntKind.i64.wrap (t - 1)) 1 a∧Row w a (jTQ e))∧(∃a,At s3 (IntKind.i64.wrap (t - 1)) 1 a∧Row w a (jOH e)):=by
 obtain ⟨e,he,_,hi,hLe⟩:=Sp.jBS ht
 have hin:=Sp.vB.1 ht
 have hf:=hok.few
 have hw:IntKind.i64.wrap (t - 1)=((t - 1).toNat:Int):=by rw [i64 (by omega) (by omega)];omega
 obtain ⟨a1,h1,g1⟩:=h.r1.nth (j:=(t - 1).toNat) hi
 obtain ⟨a2,h2,g2⟩:=h.r2.nth (j:=(t - 1).toNat) hi
 obtain ⟨a3,h3,g3⟩:=h.r3.nth (j:=(t - 1).toNat) hi
 rw [hLe] at g1 g2 g3
 rw [hw]
 exact ⟨e,he,⟨a1,h1,g1⟩,⟨a2,h2,g2⟩,⟨a3,h3,g3⟩⟩
theorem jCV (p:Addr) (t:Int) (w0:World) {L:Sp.Pool} {F:NP} (hP:qK w0 p L F) (hok:Sp.Ok L):Calls prog 89 #[.pointer (some p),.int .i64 t] w0 (fun e w'=>∃r:Int,e=.returned (.int .i64 r)∧(r=Sp.sizeOf L t∧w'=w0)):=by
 refine w_V3 _ _ w0 (fun r w'=>r=Sp.sizeOf L t∧w'=w0) ?_;unfold m_V3;refine (uG p t w0 hP).mono ?_;rintro _ _ ⟨_,rfl,rfl,rfl⟩;refine ⟨_,rfl,fun h=>⟨?_,rfl⟩,fun h=>?_⟩
 ·have h:Sp.inP L t=false:=by simpa using h
  simp [Sp.sizeOf,Sp.uQ h]
 ·have h:Sp.inP L t=true:=by simpa using h
  obtain ⟨s1,s2,s3,hS,hF⟩:=hP;obtain ⟨e,he,_,⟨a,hat,hr⟩,_⟩:=hS.at1 h hok;exact ⟨p,rfl,s2,hS.box.cell rfl,a,hat,_,jBI hr,by simp [Sp.sizeOf,he],rfl⟩
theorem jBT (p:Addr) (t:Int) (w0:World) {L:Sp.Pool} {F:NP} (hP:qK w0 p L F) (hok:Sp.Ok L):Calls prog 154 #[.pointer (some p),.int .i64 t] w0 (fun e w'=>∃r:Int,e=.returned (.int .i64 r)∧(r=Sp.depthOf L t∧w'=w0)):=by
 refine w_W3 _ _ w0 (fun r w'=>r=Sp.depthOf L t∧w'=w0) ?_;unfold m_W3;refine (uG p t w0 hP).mono ?_;rintro _ _ ⟨_,rfl,rfl,rfl⟩;refine ⟨_,rfl,fun h=>⟨?_,rfl⟩,fun h=>?_⟩
 ·have h:Sp.inP L t=false:=by simpa using h
  simp [Sp.depthOf,Sp.uQ h]
 ·have h:Sp.inP L t=true:=by simpa using h
  obtain ⟨s1,s2,s3,hS,hF⟩:=hP;obtain ⟨e,he,_,_,⟨a,hat,hr⟩⟩:=hS.at1 h hok;exact ⟨p,rfl,s3,hS.box.cell rfl,a,hat,_,jBI hr,by simp [Sp.depthOf,he],rfl⟩
theorem jIY (p:Addr) (t:Int) (w0:World) {L:Sp.Pool} {F:NP} (hP:qK w0 p L F) (hok:Sp.Ok L):Calls prog 63 #[.pointer (some p),.int .i64 t] w0
  (fun e w'=>∃k f t' u:Int,∃x:ByteArray,∃a b:Int,∃r:Bool,e=.returned (.tuple #[.agg #[.int .i64 k,.int .i64 f,.int .i64 t',.int .u64 u,.string x,.int .i64 a,.int .i64 b],.bool r])∧(((⟨k,f,t',u,x,a,b⟩:Sp.Node)=Sp.nodeOf L t∧r=Sp.inP L t)∧Pure w0 w')):=by
 refine w_X3 _ _ w0 (fun k f t' u x a b r w'=>((⟨k,f,t',u,x,a,b⟩:Sp.Node)=Sp.nodeOf L t∧r=Sp.inP L t)∧Pure w0 w') ?_
 unfold m_X3
 intro H1 w1 hs1
 have hP1:=hP.pure hs1.first
 refine (uG p t w1 hP1).mono ?_
 rintro _ _ ⟨_,rfl,rfl,rfl⟩
 refine ⟨_,rfl,Kept.refl _,fun h=>?_,fun h=>?_⟩
 ·intro w3 hs3
  have h:Sp.inP L t=false:=by simpa using h
  exact ⟨⟨by simp [Sp.nodeOf,Sp.uQ h,Sp.jFL],h.symm⟩,hs1.first.hst hs3⟩
 ·have h:Sp.inP L t=true:=by simpa using h
  obtain ⟨s1,s2,s3,hS,hF⟩:=hP1
  obtain ⟨e,he,⟨a,hat,hr⟩,_,_⟩:=hS.at1 h hok
  refine ⟨p,rfl,s1,hS.box.cell0,a,hat,_,_,_,_,_,_,_,hr,?_⟩
  intro w4 hs4
  exact ⟨⟨by simp [Sp.nodeOf,he],h.symm⟩,hs1.first.hst hs4⟩
theorem jRD (m n:Sp.Node):((m.kind == n.kind) && ((m.frm == n.frm) && ((m.to == n.to) && ((m.num == n.num) && ((decide (m.text=n.text)) && ((m.a == n.a) && (m.b == n.b)))))))=decide (m=n):=by
 obtain ⟨k,f,t,u,x,a,b⟩:=m;obtain ⟨k',f',t',u',x',a',b'⟩:=n;rw [Bool.eq_iff_iff];simp
theorem jKN (p:Addr) (n:Sp.Node) (w0:World) {L:Sp.Pool} {F:NP} (hP:qK w0 p L F) (hok:Sp.Ok L):Calls prog 155 #[.pointer (some p),jCZ n] w0
  (fun e w'=>∃r:Int,∃ok:Bool,e=.returned (.tuple #[.int .i64 r,.bool ok])∧((match Sp.find L n with | some i=>r=(i:Int)+1∧ok=true | none=>r=0∧ok=false)∧Pure w0 w')):=by
 obtain ⟨k,f,t,u,x,a,b⟩:=n
 generalize hn:(⟨k,f,t,u,x,a,b⟩:Sp.Node)=n
 have hnk:jCZ n=.agg #[.int .i64 k,.int .i64 f,.int .i64 t,.int .u64 u,.string x,.int .i64 a,.int .i64 b]:=by rw [← hn];rfl
 rw [hnk]
 suffices key:∀K:Int→Bool→WP,(∀r ok w',((match Sp.find L n with | some i=>r=(i:Int)+1∧ok=true | none=>r=0∧ok=false)∧Pure w0 w')→K r ok w')→m_N1 (some p) k f t u x a b w0 K from
  w_N1 _ _ _ _ _ _ _ _ w0 _ (key _ (fun _ _ _ h=>h))
 intro K hK
 unfold m_N1
 intro H1 w1 hs1
 refine ⟨fun i H w'=>∃j:Nat,i=j∧j≤L.length∧Pure w0 w'∧∀q,q<j→∀e,L[q]?=some e→e.node≠n,fun i _=>((L.length:Int) - i).toNat,⟨0,rfl,Nat.zero_le _,hs1.first,fun q hq=>absurd hq (by omega)⟩,?_⟩
 rintro _ Hl wl hl ⟨j,rfl,hj,El,hno⟩
 unfold m_N1_l1
 obtain ⟨s1,s2,s3,hS,hF⟩:=hP.pure El
 have hf:=hok.few
 have hlen:s1.len=L.length:=by rw [hS.r1.len];simp
 refine ⟨p,rfl,s1,hS.box.cell0,fun h=>?_,fun h=>?_⟩
 ·have hlt:=yZ hlen h
  refine ⟨p,rfl,?_⟩
  intro w2 hs2
  have E2:=El.hst hs2
  obtain ⟨s1',s2',s3',hS',_⟩:=hP.pure E2
  obtain ⟨a',hat,hr⟩:=hS'.r1.nth hlt
  refine ⟨s1',hS'.box.cell0,a',hat,_,_,_,_,_,_,_,hr,?_⟩
  have hB:=jRD L[j].node n
  rw [← hn] at hB
  simp only at hB
  rw [hB,hn]
  refine ⟨fun h=>?_,fun h=>?_⟩
  ·have h:=of_decide_eq_true h
   rw [vK hlt (by omega)]
   refine hK _ _ _ ⟨?_,E2⟩
   have hfd:Sp.find L n=some j:=by
    unfold Sp.find;rw [List.findIdx?_eq_some_iff_getElem];exact ⟨hlt,by simp [h],fun q hq=>by simpa using hno q hq _ (List.getElem?_eq_getElem (by omega))⟩
   rw [hfd];exact ⟨by omega,rfl⟩
  ·have h:=of_decide_eq_false h
   rw [vK hlt (by omega)]
   refine ⟨⟨j+1,rfl,hlt,E2,fun q hq e he=>?_⟩,jAK hlt⟩
   by_cases hqj:q=j
   ·subst hqj;rw [List.getElem?_eq_getElem hlt] at he;cases he;exact h
   ·exact hno q (by omega) e he
 ·have hge:=uL hlen hj h
  subst hge
  refine hK _ _ _ ⟨?_,El⟩
  have hfd:Sp.find L n=none:=find_none (fun e he=>by
   obtain ⟨q,hq,rfl⟩:=List.mem_iff_getElem.1 he;exact hno q hq _ (List.getElem?_eq_getElem hq))
  rw [hfd];exact ⟨rfl,rfl⟩
end Go.Proofs
end
