import Derived.Test.YtkafbiknboamlaaProg
import Derived.KernelRfl
import Derived.Test.YtkafbiknboamlaaPa0
import Derived.Test.YtkafbiknboamlaaPa1
section
open Go Go.SE
open Go.IntKind renaming i64 → q6
namespace Go.Proofs
open Try
set_option maxRecDepth 100000
set_option maxHeartbeats 4000000
attribute [local irreducible] wpL wpX opE wpE Calls
def s_N (p1:Option Addr) (k1:Option Addr) (l1:Sl):Int :=(cond ((Option.isNone p1) || (Option.isNone k1)) 2 (cond (decide ((l1.len:Int)>256)) 6 (cond (((l1.len:Int):Int) == 0) 3 0)))
theorem pw_N (p1:Option Addr) (k1:Option Addr) (l1:Sl) (w0:World) :
  Calls prog 26 #[(vp p1),(vp k1),l1.v] w0 (fun e w'=>∃b'0 b'1 b'2:Bool,(((Option.isNone p1) || (Option.isNone k1))=b'0∧(decide ((l1.len:Int)>256))=b'1∧(((l1.len:Int):Int) == 0)=b'2)∧(e=.returned (vi (cond b'0 2 (cond b'1 6 (cond b'2 3 0)))))∧Pure w0 w'):=by
 refine cw (args:=[(vp p1),(vp k1),l1.v]) func26 ntmps26 (eg (q0 (vi 0) (ln (jA (jG (jA ?_))))))
 refine jZ (fun ρ wJ=>w0=wJ∧Has ρ [(2,l1.v),(7,(vb ((Option.isNone p1) || (Option.isNone k1))))]) ?_ ?_
 refine rg (q (q2 (vb (Option.isNone p1)) (vS (by kernel_rfl) rfl underlying36) (q (jE 3 (fun ρ wJ=>∃b3'0:Bool,((Option.isNone p1)=b3'0)∧w0=wJ∧Has ρ [(2,l1.v),(13,(vb (b3'0 || (Option.isNone k1))))]) ?_ ?_))))
 rintro ρ w3 ⟨b3'0,he0,hw,hH⟩
 subst he0
 subst hw
 refine jJ hH (q (ln ⟨rfl,hm⟩))
 rcases bte (Option.isNone p1) with hg4 | hg4
 refine sj2 10 hg4 (q2 (vb true) (xT hg4) (jB ⟨true,hg4,rfl,hm⟩))
 refine qk 10 hg4 (stq (v:=(vb (Option.isNone k1))) (wy 10 hg4) (vS (by kernel_rfl) rfl underlying37) (q2 (vb (Option.isNone k1)) (xF hg4) (jB ⟨false,hg4,rfl,hm⟩)))
 rintro ρ w2 ⟨hw,hH⟩
 subst hw
 refine jP hH (jI (zF (t:=((Option.isNone p1) || (Option.isNone k1))) (by kernel_rfl) (fun hc1=>?_) (fun hc1=>?_)))
 refine eg (q (ln (er (qX (zI (rs1 results26 (v:=(vi 2)) ⟨true,_,_,⟨hc1,rfl,rfl⟩,by kernel_rfl,Ext.refl _⟩))))))
 refine eg (qd (ln (zF (t:=(decide ((l1.len:Int)>256))) (by kernel_rfl) (fun hc2=>?_) (fun hc2=>?_))))
 refine eg (q (ln (er (qX (zI (rs1 results26 (v:=(vi 6)) ⟨false,true,_,⟨hc1,hc2,rfl⟩,by kernel_rfl,Ext.refl _⟩))))))
 refine eg (qd (ln (zF (t:=(((l1.len:Int):Int) == 0)) (by kernel_rfl) (fun hc3=>?_) (fun hc3=>?_))))
 refine eg (q (ln (er (qX (zI (rs1 results26 (v:=(vi 3)) ⟨false,false,true,⟨hc1,hc2,hc3⟩,by kernel_rfl,Ext.refl _⟩))))))
 refine jC (qB (jI (eg (q (ln (er (rs1 results26 (v:=(vi 0)) ⟨false,false,false,⟨hc1,hc2,hc3⟩,by kernel_rfl,Ext.refl _⟩)))))))
theorem p_N (p1:Option Addr) (k1:Option Addr) (l1:Sl) (w0:World):Calls prog 26 #[(.pointer p1),(.pointer k1),l1.v] w0 (fun e w'=>e=.returned (.int .i64 (s_N p1 k1 l1))∧Pure w0 w'):=by
 refine (pw_N p1 k1 l1 w0).mono ?_;rintro e w' ⟨b'0,b'1,b'2,⟨e0,e1,e2⟩,h,E⟩;subst e0;subst e1;subst e2;exact ⟨h,E⟩
def m_L2 (c1:Option Addr) (w0:World) (K:(Option Nat)→WP):Prop :=∀p1 w1,New w0 (.cells #[(vp c1)] 98) p1 w1→∃v1,w1.cell? p1=some (vp v1)∧∃a1,v1=some a1∧∃v2,w1.cell? a1=some (vp v2)∧∀p2 w2,New w1 (.cells #[(vp none)] 36) p2 w2→zS w2 p2∧∀w3,w3=w2.setCell p2 (vp v2)→∀p3 w4,New w3 (.map #[] 0) p3 w4→∃w5:World,(Instr.mapUpdate 102 (.map (some p3.block)) (vi 0) (.func (.func 50) #[] #[(vp (some p1))])).run prog w4=.ok () w5∧∃w6:World,(Instr.mapUpdate 102 (.map (some p3.block)) (vi 1) (.func (.func 51) #[] #[(vp (some p2))])).run prog w5=.ok () w6∧∃w7:World,(Instr.mapUpdate 102 (.map (some p3.block)) (vi 2) (.func (.func 53) #[] #[(vp (some p2))])).run prog w6=.ok () w7∧∃w8:World,(Instr.mapUpdate 102 (.map (some p3.block)) (vi 3) (.func (.func 55) #[] #[(vp (some p2))])).run prog w7=.ok () w8∧∃w9:World,(Instr.mapUpdate 102 (.map (some p3.block)) (vi 4) (.func (.func 57) #[] #[(vp (some p1)),(vp (some p2))])).run prog w8=.ok () w9∧∃w10:World,(Instr.mapUpdate 102 (.map (some p3.block)) (vi 5) (.func (.func 60) #[] #[(vp (some p1)),(vp (some p2))])).run prog w9=.ok () w10∧∃w11:World,(Instr.mapUpdate 102 (.map (some p3.block)) (vi 6) (.func (.func 62) #[] #[(vp (some p1))])).run prog w10=.ok () w11∧∃w12:World,(Instr.mapUpdate 102 (.map (some p3.block)) (vi 7) (.func (.func 64) #[] #[(vp (some p1))])).run prog w11=.ok () w12∧∃v3,w12.cell? p1=some (vp v3)∧∃w13:World,(Instr.mapUpdate 102 (.map (some p3.block)) (vi 8) (.func (.func 65) #[(vp v3)] #[])).run prog w12=.ok () w13∧∃w14:World,(Instr.mapUpdate 102 (.map (some p3.block)) (vi 9) (.func (.func 66) #[] #[(vp (some p1)),(vp (some p2))])).run prog w13=.ok () w14∧∃w15:World,(Instr.mapUpdate 102 (.map (some p3.block)) (vi 10) (.func (.func 69) #[] #[(vp (some p1)),(vp (some p2))])).run prog w14=.ok () w15∧∃w16:World,(Instr.mapUpdate 102 (.map (some p3.block)) (vi 11) (.func (.func 73) #[] #[(vp (some p1)),(vp (some p2))])).run prog w15=.ok () w16∧K (some p3.block) w16
theorem w_L2 (c1 w0 K) (h:m_L2 c1 w0 K):
  Calls prog 39 #[(vp c1)] w0 (fun e w'=>∃r1:Option Nat,e=.returned (.map r1)∧K r1 w'):=by
 refine cw (args:=[(vp c1)]) func39 ntmps39 (eg (sn (O:=(.cells #[(vp c1)] 98)) xb ?_))
 intro p1 w1 hn4
 have h:=h p1 w1 hn4
 refine q (ln (eg (ql (isAgg98 _) h fun v1 h=>qm h fun a1 h=>q (ql (isAgg36 _) h fun v2 h=>sn (O:=(.cells #[(vp none)] 36)) (jX (zeroValue36 _) rfl) ?_))))
 intro p2 w2 hn3
 have h:=h p2 w2 hn3
 refine st1 (sizeOf36 _) h fun w3 h=>ln (eg (nw4 (fun p=>.map (some p.block)) h fun p3 w4 h=>q ?_))
 obtain ⟨w5,hv13,h⟩:=h
 refine zW (jM rfl) (kE (by kernel_rfl) (by kernel_rfl) (by kernel_rfl) hv13) (q0 (.func (.func 51) #[] #[(vp (some p2))]) ?_)
 obtain ⟨w6,hv12,h⟩:=h
 refine zW (jM rfl) (kE (by kernel_rfl) (by kernel_rfl) (by kernel_rfl) hv12) (q0 (.func (.func 53) #[] #[(vp (some p2))]) ?_)
 obtain ⟨w7,hv11,h⟩:=h
 refine zW (jM rfl) (kE (by kernel_rfl) (by kernel_rfl) (by kernel_rfl) hv11) (q0 (.func (.func 55) #[] #[(vp (some p2))]) ?_)
 obtain ⟨w8,hv10,h⟩:=h
 refine zW (jM rfl) (kE (by kernel_rfl) (by kernel_rfl) (by kernel_rfl) hv10) (q0 (.func (.func 57) #[] #[(vp (some p1)),(vp (some p2))]) ?_)
 obtain ⟨w9,hv9,h⟩:=h
 refine zW (jM rfl) (kE (by kernel_rfl) (by kernel_rfl) (by kernel_rfl) hv9) (q0 (.func (.func 60) #[] #[(vp (some p1)),(vp (some p2))]) ?_)
 obtain ⟨w10,hv8,h⟩:=h
 refine zW (jM rfl) (kE (by kernel_rfl) (by kernel_rfl) (by kernel_rfl) hv8) (q0 (.func (.func 62) #[] #[(vp (some p1))]) ?_)
 obtain ⟨w11,hv7,h⟩:=h
 refine zW (jM rfl) (kE (by kernel_rfl) (by kernel_rfl) (by kernel_rfl) hv7) (q0 (.func (.func 64) #[] #[(vp (some p1))]) ?_)
 obtain ⟨w12,hv6,h⟩:=h
 refine zW (jM rfl) (kE (by kernel_rfl) (by kernel_rfl) (by kernel_rfl) hv6) (ql (isAgg98 _) h fun v3 h=>q ?_)
 obtain ⟨w13,hv4,h⟩:=h
 refine zW (jM rfl) (kE (by kernel_rfl) (by kernel_rfl) (by kernel_rfl) hv4) (q0 (.func (.func 66) #[] #[(vp (some p1)),(vp (some p2))]) ?_)
 obtain ⟨w14,hv3,h⟩:=h
 refine zW (jM rfl) (kE (by kernel_rfl) (by kernel_rfl) (by kernel_rfl) hv3) (q0 (.func (.func 69) #[] #[(vp (some p1)),(vp (some p2))]) ?_)
 obtain ⟨w15,hv2,h⟩:=h
 refine zW (jM rfl) (kE (by kernel_rfl) (by kernel_rfl) (by kernel_rfl) hv2) (q0 (.func (.func 73) #[] #[(vp (some p1)),(vp (some p2))]) ?_)
 obtain ⟨w16,hv1,h⟩:=h
 refine zW (jM rfl) (kE (by kernel_rfl) (by kernel_rfl) (by kernel_rfl) hv1) (q0 (.map (some p3.block)) (q0 (.map (some p3.block)) (ln (er (rs1 results39 ⟨(some p3.block),rfl,h⟩)))))
def m_C1_l1 (l1:Sl) (p2:Addr) (r2:Option Nat) (x1:Int) (w0:World) (Hl1:NP) (wl1:World) (Kc1:Int→NP→WP) (K:Sl→Int→WP):Prop :=Br (decide (x1<(l1.len:Int))) (∃a1:Addr,At l1 x1 5 a1∧∃aM aN aO aP aQ,Row wl1 a1 (Ac aM aN aO aP aQ)∧∀H1 w5,Hst w0 Hl1 wl1 H1 w5→∃v1:Value,∃ok1,(Instr.lookup 102 (.map r2) (vi aM) true).run prog w5=.ok (.tuple #[v1,(vb ok1)]) w5∧Br (!ok1) (∃v2:Sl,w5.cell? (p2.add 2)=some v2.v∧K v2 90 w5) (∃(f1:FuncId) (fs1 cs1:Array Value),v1=.func (.func f1) fs1 cs1∧(∀args w,(callFunc f1 args).run prog w=.ok (.enter f1 args) w)∧Calls prog f1 (fs1++#[(.agg #[(vi aM),(vi aN),(vi aO),(vu aP),(vs aQ)])]++cs1) w5 (fun e w6=>∃r3 r4,e=.returned (.tuple #[(vi r3),(vi r4)])∧Kept H1 w5 w6∧Br (r4 != 0) (∃v3:Sl,w6.cell? (p2.add 2)=some v3.v∧K v3 r4 w6) (∃v4:Sl,w6.cell? (p2.add 2)=some v4.v∧∀p4 w7,New w6 (.cells #[(vi r3)] 32) p4 w7→∃s1:Sl,∃w8:World,(Builtin.append_ #[39,39] 39 #[v4.v,(Sl.mk (some p4) 1 1).v]).run prog w7=.ok s1.v w8∧Kept H1 w7 w8∧zS w8 (p2.add 2)∧¬ H1 (p2.add 2).block∧∀w9,w9=w8.setCell (p2.add 2) s1.v→Kc1 (q6.wrap (x1+1)) H1 w9)))) (∃v5:Sl,wl1.cell? (p2.add 2)=some v5.v∧K v5 0 wl1)
def m_C1 (p1:Option Addr) (k1:Option Addr) (l1:Sl) (w0:World) (K:Sl→Int→WP):Prop :=Calls prog 38 #[(vp k1)] w0 (fun e w1=>∃r1:Sl,e=.returned r1.v∧Kept None w0 w1∧∀p2 w2,New w1 (.cells #[(vp p1),r1.v,Sl.nil.v] 101) p2 w2→Calls prog 39 #[(vp (some p2))] w2 (fun e w3=>∃r2:Option Nat,e=.returned (.map r2)∧Kept None w2 w3∧∃(I1:Int→NP→WP) (mu1:Int→World→Nat),I1 0 None w3∧∀(x1:Int) (Hl1:NP) (wl1:World),Hst w0 Hl1 wl1 Hl1 wl1→I1 x1 Hl1 wl1→m_C1_l1 l1 p2 r2 x1 w0 Hl1 wl1 (fun y'0 H' w'=>I1 y'0 H' w'∧mu1 y'0 w'<mu1 x1 wl1) K))
theorem w_C1 (p1 k1 l1 w0 K) (h:m_C1 p1 k1 l1 w0 K):
  Calls prog 27 #[(vp p1),(vp k1),l1.v] w0 (fun e w'=>∃r5:Sl,∃r6,e=.returned (.tuple #[r5.v,(vi r6)])∧K r5 r6 w'):=by
 refine cw (args:=[(vp p1),(vp k1),l1.v]) func27 ntmps27 ?_
 obtain ⟨hs,hb⟩:=st0 w0
 refine eg (qb (ln (eg (qb (sc call38 (h.mono fun e w1 ⟨r1,k,hk,h⟩=>have ⟨hs,hb⟩:=hk.hh hs hb;⟨_,k,?_⟩))))))
 refine q (nw2 hs hb h xb fun p2 w2 hs hb h=>q (ln (eg (q (sc call39 (h.mono fun e w3 ⟨r2,k,hk,h⟩=>have ⟨hs,hb⟩:=hk.hh hs hb;⟨_,k,?_⟩))))))
 refine q (ln (jA (eg (qc (ln (jG ?_))))))
 obtain ⟨I1,mu1,h0,hr⟩:=h
 refine zH (σ:=Int×NP×World) (fun s ρ w=>w=s.2.2∧Has ρ [(8,(vp (some p2))),(9,(.map r2)),(23,l1.v),(24,(vi (l1.len:Int))),(25,(vi s.1))]∧Hst w0 s.2.1 w s.2.1 w∧HB s.2.1 w []∧I1 s.1 s.2.1 s.2.2) (fun s=>mu1 s.1 s.2.2) (0,None,w3) ⟨rfl,hm,hs,hb,h0⟩ ?_
 rintro ⟨x1,Hl1,wl1⟩ ρ w ⟨hw,hH,hs,hb,hI⟩
 dsimp only at hw hH hs hb;subst w
 have h:=hr x1 Hl1 wl1 hs hI
 refine jN hH (eg (q (ln (jA (cbr h ?_ ?_)))))<;>intro h
 refine jC (jI (jA (jG (eg (qi (runUnderlying23 _) (sizeOf49 _) h fun a1 h=>?_)))))
 obtain ⟨aM,aN,aO,aP,aQ,hv6,h⟩:=h
 refine qa (isAgg49 _) (sizeOf49 _) hv6 (nw3 [(vi 0),(vi 0),(vi 0),(vu 0),ve] 49 hs hb (jX (zeroValue49 _) rfl) fun p3 w4 H1 hs hb=>sbx 0 (Ac aM aN aO aP aQ) (sizeOf49 _) hs hb gZ fun w5 hs hb=>ln (eg (qb (q3 (xl (isAgg3 _) (hb.d0 0 gZ)) ?_))))
 have ⟨h,hs⟩:=hs.hr (h H1 w5)
 obtain ⟨v1,ok1,hv5,h⟩:=h
 refine q2 (.tuple #[v1,(vb ok1)]) (qL (by kernel_rfl) (by kernel_rfl) hv5) (q (qd (ln (jA (eg (q (q (ln (cbr h ?_ ?_)))))))))<;>intro h
 refine eg (qc (ql (isAgg39 _) h fun v2 h=>qb (ln (er (zI (qX (zI (zI (qX (zI (kB (.inl rfl) results27 (v:=v2.v) (by kernel_rfl) (v':=(vi 90)) (by kernel_rfl) ⟨v2,90,rfl,h⟩)))))))))))
 refine jC (jI (eg (q (q2 (Ah aM aN aO aP aQ) (xa p3 (Ac aM aN aO aP aQ) (isAgg49 _) (sizeOf49 _) (hb.r0 0 5 gZ)) ?_))))
 obtain ⟨f1,fs1,cs1,hp1,h⟩:=h
 obtain ⟨hf1,h⟩:=h
 refine zK (jM rfl) (jBO (fs:=fs1) (caps:=cs1) (args:=#[(Ah aM aN aO aP aQ)]) (by kernel_rfl) hp1 hf1 (by kernel_rfl) rfl) (h.mono ?_)
 rintro e w6 ⟨r3,r4,rfl,hk,h⟩
 refine ⟨_,rfl,?_⟩
 obtain ⟨hs,hb⟩:=hk.hh hs hb
 refine q (qd (ln (jA (eg (qb (ln (cbr h ?_ ?_)))))))<;>intro h
 refine eg (qc (ql (isAgg39 _) h fun v3 h=>qc (ln (er (zI (qX (zI (zI (qX (zI (kB (.inl rfl) results27 (v:=v3.v) (by kernel_rfl) (v':=(vi r4)) (by kernel_rfl) ⟨v3,r4,rfl,h⟩)))))))))))
 refine jC (jI (rg (qd (ql (isAgg39 _) h fun v4 h=>q (qT (O:=(.cells #[(vi r3)] 32)) (fun p=>(Sl.mk (some p) 1 1).v) (jM rfl) (zA (vs:=#[(0,(vi r3))]) (by kernel_rfl) (by kernel_rfl)) ?_)))))
 intro p4 w7 hn4
 have h:=h p4 w7 hn4
 obtain ⟨hs,hb⟩:=hs.nw hb hn4
 obtain ⟨s1,w8,hv3,hk,h⟩:=h
 refine st (v:=s1.v) (jM rfl) (zD (args:=#[v4.v,(Sl.mk (some p4) 1 1).v]) (by kernel_rfl) (fun _=>rfl) hv3) ?_
 obtain ⟨hs,hb⟩:=hk.hh hs hb
 refine qb (st2 (sizeOf39 _) hs hb h fun w9 hs hb h=>jB (qB (jI (rg (qb (ln ⟨((q6.wrap (x1+1)),H1,w9),⟨rfl,hm,hs,hb.drop 1,h.1⟩,h.2⟩))))))
 refine zB (vG (vG (kQ (jI (eg (q0 (vp (some p2)) (q0 (vp (some p2)) (q0 (vp (some (p2.add 2))) (ql (isAgg39 _) h fun v5 h=>qb (ln (er (kB (.inl rfl) results27 (v:=v5.v) (by kernel_rfl) (v':=(vi 0)) (by kernel_rfl) ⟨v5,0,rfl,h⟩))))))))))))
def m_M2 (p1:Option Addr) (k1:Option Addr) (l1:Sl) (w0:World) (K:Int→Int→Int→WP):Prop :=Br (((s_N p1 k1 l1):Int) != 0) (∀w1,Hst w0 None w0 None w1→K 0 (s_N p1 k1 l1) 0 w1) (∀w1,Hst w0 None w0 None w1→Calls prog 27 #[(vp p1),(vp k1),l1.v] w1 (fun e w2=>∃r1:Sl,∃r2,e=.returned (.tuple #[r1.v,(vi r2)])∧Kept None w1 w2∧Br (r2 != 0) (K 0 r2 (r1.len:Int) w2) (∃a1:Addr,At r1 (q6.wrap ((r1.len:Int) - 1)) 1 a1∧∃v1,w2.cell? a1=some (vi v1)∧K v1 0 0 w2)))
theorem w_M2 (p1 k1 l1 w0 K) (h:m_M2 p1 k1 l1 w0 K):
  Calls prog 11 #[(vp p1),(vp k1),l1.v] w0 (fun e w'=>∃r3 r4 r5,e=.returned (.tuple #[(vi r3),(vi r4),(vi r5)])∧K r3 r4 r5 w'):=by
 refine cw (args:=[(vp p1),(vp k1),l1.v]) func11 ntmps11 ?_
 obtain ⟨hs,hb⟩:=st0 w0
 refine eg (qc (ln (jA (eg (qb (q (sc call26 ((p_N p1 k1 l1 w0).mono ?_))))))))
 rintro e w1 ⟨he,hE⟩
 refine ⟨_,he,?_⟩
 obtain ⟨hs,hb⟩:=hs.pp hb hE
 refine q (ln (eg (qb (ln (cbr h ?_ ?_)))))<;>intro h
 refine eg (qd (ln (er (zI ?_))))
 have ⟨h,hs⟩:=hs.hr (h w1)
 refine jGV (.inl rfl) results11 (v:=(vi 0)) (by kernel_rfl) (v':=(vi (s_N p1 k1 l1))) (by kernel_rfl) (v'':=(vi 0)) (by kernel_rfl) ⟨0,(s_N p1 k1 l1),0,rfl,h⟩
 refine jC (jI (eg (qc ?_)))
 have ⟨h,hs⟩:=hs.hr (h w1)
 refine sc call27 (h.mono fun e w2 ⟨r1,r2,k,hk,h⟩=>have ⟨hs,hb⟩:=hk.hh hs hb;⟨_,k,?_⟩)
 refine q (qd (ln (jA (eg (qb (ln (cbr h ?_ ?_)))))))<;>intro h
 refine eg (qb (qd (ln (er (zI (jGV (.inl rfl) results11 (v:=(vi 0)) (by kernel_rfl) (v':=(vi r2)) (by kernel_rfl) (v'':=(vi (r1.len:Int))) (by kernel_rfl) ⟨0,r2,(r1.len:Int),rfl,h⟩))))))
 refine jC (jI (eg (qd (qi (runUnderlying39 _) (sizeOf32 _) h fun a1 h=>ql (isAgg32 _) h fun v1 h=>qc (ln (er (jGV (.inl rfl) results11 (v:=(vi v1)) (by kernel_rfl) (v':=(vi 0)) (by kernel_rfl) (v'':=(vi 0)) (by kernel_rfl) ⟨v1,0,0,rfl,h⟩)))))))
def s_F (code1:Int):Bool×Bool :=(((decide (code1≥4)) && (decide (code1≤11))),((code1 == 4) || ((decide (code1≥9)) && (decide (code1≤11)))))
theorem pw_F (code1:Int) (w0:World) :
  Calls prog 23 #[(vi code1)] w0 (fun e w'=>(e=.returned (.tuple #[(vb ((decide (code1≥4)) && (decide (code1≤11)))),(vb ((code1 == 4) || ((decide (code1≥9)) && (decide (code1≤11)))))]))∧Pure w0 w'):=by
 refine cw (args:=[(vi code1)]) func23 ntmps23 (eg (q0 (vb false) (q0 (vb false) (ln (jA ?_)))))
 refine jZ (fun ρ wJ=>w0=wJ∧Has ρ [(0,(vi code1)),(4,(vb ((decide (code1≥4)) && (decide (code1≤11)))))]) ?_ ?_
 refine rg (qc (jE 3 (fun ρ wJ=>∃b3'0:Bool,((decide (code1≥4))=b3'0)∧w0=wJ∧Has ρ [(0,(vi code1)),(10,(vb (b3'0 && (decide (code1≤11)))))]) ?_ ?_))
 rintro ρ w3 ⟨b3'0,he0,hw,hH⟩
 subst he0
 subst hw
 refine jJ hH (q (ln ⟨rfl,hm⟩))
 rcases bte (decide (code1≥4)) with hg4 | hg4
 refine qk 7 hg4 (qk 7 hg4 (q2 (vb (decide (code1≤11))) (xT hg4) (jB ⟨true,hg4,rfl,hm⟩)))
 refine sj2 7 hg4 (q2 (vb false) (xF hg4) (jB ⟨false,hg4,rfl,hm⟩))
 rintro ρ w2 ⟨hw,hH⟩
 subst hw
 refine jP hH (jI (jA (jZ (fun ρ wJ=>w0=wJ∧Has ρ [(2,(vb ((decide (code1≥4)) && (decide (code1≤11))))),(3,(vb ((code1 == 4) || ((decide (code1≥9)) && (decide (code1≤11))))))]) ?_ ?_)))
 refine rg (qd (jE 7 (fun ρ wJ=>∃b9'0:Bool,((code1 == 4)=b9'0)∧w0=wJ∧Has ρ [(11,(vb ((decide (code1≥4)) && (decide (code1≤11))))),(21,(vb (b9'0 || ((decide (code1≥9)) && (decide (code1≤11))))))]) ?_ ?_))
 rintro ρ w9 ⟨b9'0,he0,hw,hH⟩
 subst he0
 subst hw
 refine jJ hH (qb (ln ⟨rfl,hm⟩))
 rcases bte (code1 == 4) with hg14 | hg14
 refine sj3 14 hg14 (sm (sm (sj 14 hg14 (q2 (vb true) (xT hg14) (jB ⟨true,hg14,rfl,hm⟩)))))
 refine qk 14 hg14 (qk 14 hg14 (qk 14 hg14 (jE 3 (fun ρ wJ=>∃b10'0:Bool,((decide (code1≥9))=b10'0)∧w0=wJ∧Has ρ [(11,(vb ((decide (code1≥4)) && (decide (code1≤11))))),(14,(vb (code1 == 4))),(20,(vb (b10'0 && (decide (code1≤11)))))]) ?_ ?_)))
 rintro ρ w10 ⟨b10'0,he0,hw,hH⟩
 subst he0
 subst hw
 refine jJ hH (q2 (vb ((decide (code1≥9)) && (decide (code1≤11)))) (xF hg14) (jB ⟨false,hg14,rfl,hm⟩))
 rcases bte (decide (code1≥9)) with hg16 | hg16
 refine qk 17 hg16 (qk 17 hg16 (stq (v:=(vb (decide (code1≤11)))) (wy 14 hg14) (xT hg16) (jB ⟨true,hg16,rfl,hm⟩)))
 refine sj2 17 hg16 (stq (v:=(vb false)) (wy 14 hg14) (xF hg16) (jB ⟨false,hg16,rfl,hm⟩))
 rintro ρ w7 ⟨hw,hH⟩
 subst hw
 refine jP hH (jI (er (kB (.inl rfl) results23 (v:=(vb ((decide (code1≥4)) && (decide (code1≤11))))) (by kernel_rfl) (v':=(vb ((code1 == 4) || ((decide (code1≥9)) && (decide (code1≤11)))))) (by kernel_rfl) ⟨by kernel_rfl,Ext.refl _⟩)))
theorem p_F (code1:Int) (w0:World):Calls prog 23 #[(.int .i64 code1)] w0 (fun e w'=>e=.returned (.tuple #[(.bool (s_F code1).1),(.bool (s_F code1).2)])∧Pure w0 w'):=pw_F code1 w0
def m_R_j1 (aA:Int) (cap1:Addr) (x1:Bool) (w0:World) (H:NP) (w:World) (K:Int→Int→WP):Prop :=Br x1 (K 0 90 w) (∀w2,Hst w0 H w H w2→∃v1,w2.cell? cap1=some (vp v1)∧∃a1,v1=some a1∧∃v2:Sl,w2.cell? (a1.add 1)=some v2.v∧∃a2:Addr,At v2 aA 1 a2∧∃v3,w2.cell? a2=some (vi v3)∧K v3 0 w2)
def m_R (aE aA:Int) (aB aC:Int) (aD:ByteArray) (cap1:Addr) (w0:World) (K:Int→Int→WP):Prop :=Br (decide (aA<0)) (∀H1 w3,Hst w0 None w0 H1 w3→m_R_j1 aA cap1 true w0 H1 w3 K) (∀H1 w3,Hst w0 None w0 H1 w3→∃v4,w3.cell? cap1=some (vp v4)∧∃a3,v4=some a3∧∃v5:Sl,w3.cell? (a3.add 1)=some v5.v∧m_R_j1 aA cap1 (decide (aA≥(v5.len:Int))) w0 H1 w3 K)
theorem w_R (aE aA aB aC aD cap1 w0 K) (h:m_R aE aA aB aC aD cap1 w0 K):
  Calls prog 50 #[(.agg #[(vi aE),(vi aA),(vi aB),(vu aC),(vs aD)]),(vp (some cap1))] w0 (fun e w'=>∃r1 r2,e=.returned (.tuple #[(vi r1),(vi r2)])∧K r1 r2 w'):=by
 refine cw (args:=[(Ah aE aA aB aC aD),(vp (some cap1))]) func50 ntmps50 ?_
 obtain ⟨hs,hb⟩:=st0 w0
 refine eg (nw3 (Ac aE aA aB aC aD) 49 hs hb xb fun p1 w1 H1 hs hb=>qb (ln (jA (jA (zJ (fun ρ w=>∃x1,∃H:NP,Has ρ [(1,(vp (some cap1))),(2,(vp (some p1))),(17,(vb x1))]∧Hst w0 H w H w∧HB H w [(p1,(Ac aE aA aB aC aD),49)]∧m_R_j1 aA cap1 x1 w0 H w K) ?_ ?_)))))
 rintro ρ w ⟨x1,H,hH,hs,hb,h⟩
 refine jN hH (cbr h ?_ ?_)<;>intro h
 refine eg (qb (ln (er (zI (kB (.inl rfl) results50 (v:=(vi 0)) (by kernel_rfl) (v':=(vi 90)) (by kernel_rfl) ⟨0,90,rfl,h⟩)))))
 refine jC (jI (jA (vM (by kernel_rfl) (by kernel_rfl) (by kernel_rfl) (by kernel_rfl) ?_)))
 intro w2 hw2
 have hs:Hst w0 H w H w2:=by rw [hw2];exact hs.drew
 have hb:HB H w2 [(p1,(Ac aE aA aB aC aD),49)]:=by rw [hw2];exact hb.drew
 refine qg 0 ?_
 have ⟨h,hs⟩:=hs.hr (h w2)
 obtain ⟨v1,hv4,h⟩:=h
 refine sxQ Kp0 (jM rfl) rfl (xl (isAgg98 _) hv4) (qg 1 ?_)
 obtain ⟨a1,hp1,h⟩:=h
 refine sxQ Kp1 (jM rfl) rfl (xn hp1) (qq 2 (vp (some (a1.add 1))) Kp2 (qg 3 ?_))
 obtain ⟨v2,hv3,h⟩:=h
 refine sxQ Kp3 (jM rfl) rfl (xl (isAgg39 _) hv3) (qq 4 (vp (some (p1.add 1))) Kp4 (qr 5 (vi aA) Kp5 (xl (isAgg3 _) (hb.c 0 1 gZ)) (qg 6 ?_)))
 obtain ⟨a2,hv2,h⟩:=h
 refine sxQ Kp6 (jM rfl) rfl (xi (runUnderlying39 _) (sizeOf32 _) hv2) (qg 7 ?_)
 obtain ⟨v3,hv1,h⟩:=h
 refine sxQ Kp7 (jM rfl) rfl (xl (isAgg32 _) hv1) (qq 8 (vi v3) Kp8 (qq 9 (vi 0) Kp9 (wn (jI (er (kB (.inl rfl) results50 (v:=(vi v3)) (by kernel_rfl) (v':=(vi 0)) (by kernel_rfl) ⟨v3,0,rfl,h⟩))))))
 refine vM (by kernel_rfl) (by kernel_rfl) (by kernel_rfl) (by kernel_rfl) ?_
 intro w3 hw3
 have hs:Hst w0 None w0 H1 w3:=by rw [hw3];exact hs.drew
 have hb:HB H1 w3 [(p1,(Ac aE aA aB aC aD),49)]:=by rw [hw3];exact hb.drew
 refine qq 0 (vp (some (p1.add 1))) Kp0 (qr 1 (vi aA) Kp1 (xl (isAgg3 _) (hb.c 0 1 gZ)) (qq 2 (vb (decide (aA<0))) Kp2 (qq 3 (vb (decide (aA<0))) Kp3 (qg 4 ?_))))
 obtain ⟨hg1,h⟩|⟨hg1,h⟩:=h.br
 refine jBQ Kp4 (kR rfl (yD 8 hg1) rfl) (qn 5 Kp5 (kR rfl (yD 8 hg1) rfl) (qn 6 Kp6 (kR rfl (yD 8 hg1) rfl) (qn 7 Kp7 (kR rfl (yD 8 hg1) rfl) (qn 8 Kp8 (kR rfl (yD 8 hg1) rfl) (qn 9 Kp9 (kR rfl (yD 8 hg1) rfl) (qn 10 (jT (S8 (jH (jH jS)))) (kR rfl (yD 8 hg1) rfl) (qn 11 (jT (S8 (jH (jH (jH jS))))) (kR rfl (yD 8 hg1) rfl) (qr 12 (vb true) (jT (S8 (S4 jS))) (xT hg1) (wn ?_)))))))))
 have ⟨h,hs⟩:=hs.hr (h H1 w3)
 refine jI ⟨true,H1,hm,hs,hb,h⟩
 refine sxQ (v:=(vp (some (p1.add 1)))) Kp4 (wy 8 hg1) rfl (by kernel_rfl) (qg 5 (sxQ Kp5 (wy 8 hg1) rfl (xl (isAgg3 _) (hb.d 0 1 gZ)) (qg 6 ?_)))
 have ⟨h,hs⟩:=hs.hr (h H1 w3)
 obtain ⟨v4,hv6,h⟩:=h
 refine sxQ Kp6 (wy 8 hg1) rfl (xl (isAgg98 _) hv6) (qg 7 ?_)
 obtain ⟨a3,hp2,h⟩:=h
 refine sxQ Kp7 (wy 8 hg1) rfl (xn hp2) (qg 8 (sxQ (v:=(vp (some (a3.add 1)))) Kp8 (wy 8 hg1) rfl (by kernel_rfl) (qg 9 ?_)))
 obtain ⟨v5,hv5,h⟩:=h
 refine sxQ Kp9 (wy 8 hg1) rfl (xl (isAgg39 _) hv5) (qg 10 (sxQ (v:=(vi (v5.len:Int))) (jT (S8 (jH (jH jS)))) (wy 8 hg1) rfl (by kernel_rfl) (qg 11 (sxQ (v:=(vb (decide (aA≥(v5.len:Int))))) (jT (S8 (jH (jH (jH jS))))) (wy 8 hg1) rfl (by kernel_rfl) (qr 12 (vb (decide (aA≥(v5.len:Int)))) (jT (S8 (S4 jS))) (xF hg1) (wn (jI ⟨(decide (aA≥(v5.len:Int))),H1,hm,hs,hb,h⟩)))))))
def m_N2 (aE aA:Int) (aB aC:Int) (aD:ByteArray) (cap1:Addr) (w0:World) (K:Int→Int→WP):Prop :=∀H1 w1,Hst w0 None w0 H1 w1→∃v1,w1.cell? cap1=some (vp v1)∧Calls prog 52 #[(vp v1),(vi aA)] w1 (fun e w2=>∃r1 r2,e=.returned (.tuple #[(vi r1),(vi r2)])∧Kept H1 w1 w2∧K r1 r2 w2)
theorem w_N2 (aE aA aB aC aD cap1 w0 K) (h:m_N2 aE aA aB aC aD cap1 w0 K):
  Calls prog 51 #[(.agg #[(vi aE),(vi aA),(vi aB),(vu aC),(vs aD)]),(vp (some cap1))] w0 (fun e w'=>∃r3 r4,e=.returned (.tuple #[(vi r3),(vi r4)])∧K r3 r4 w'):=by
 refine cw (args:=[(Ah aE aA aB aC aD),(vp (some cap1))]) func51 ntmps51 ?_
 obtain ⟨hs,hb⟩:=st0 w0
 refine eg (nw3 (Ac aE aA aB aC aD) 49 hs hb xb fun p1 w1 H1 hs hb=>qb (ln (eg ?_)))
 have ⟨h,hs⟩:=hs.hr (h H1 w1)
 refine ql (isAgg36 _) h fun v1 h=>q (q3 (xl (isAgg3 _) (hb.d 0 1 gZ)) (sc call52 (h.mono fun e w2 ⟨r1,r2,k,hk,h⟩=>have ⟨hs,hb⟩:=hk.hh hs hb;⟨_,k,?_⟩)))
 refine qd (ln (er (kB (.inl rfl) results51 (v:=(vi r1)) (by kernel_rfl) (v':=(vi r2)) (by kernel_rfl) ⟨r1,r2,rfl,h⟩)))
def m_O2 (aE aA:Int) (aB aC:Int) (aD:ByteArray) (cap1:Addr) (w0:World) (K:Int→Int→WP):Prop :=∀H1 w1,Hst w0 None w0 H1 w1→∃v1,w1.cell? cap1=some (vp v1)∧Calls prog 54 #[(vp v1),(vu aC)] w1 (fun e w2=>∃r1 r2,e=.returned (.tuple #[(vi r1),(vi r2)])∧Kept H1 w1 w2∧K r1 r2 w2)
theorem w_O2 (aE aA aB aC aD cap1 w0 K) (h:m_O2 aE aA aB aC aD cap1 w0 K):
  Calls prog 53 #[(.agg #[(vi aE),(vi aA),(vi aB),(vu aC),(vs aD)]),(vp (some cap1))] w0 (fun e w'=>∃r3 r4,e=.returned (.tuple #[(vi r3),(vi r4)])∧K r3 r4 w'):=by
 refine cw (args:=[(Ah aE aA aB aC aD),(vp (some cap1))]) func53 ntmps53 ?_
 obtain ⟨hs,hb⟩:=st0 w0
 refine eg (nw3 (Ac aE aA aB aC aD) 49 hs hb xb fun p1 w1 H1 hs hb=>qb (ln (eg ?_)))
 have ⟨h,hs⟩:=hs.hr (h H1 w1)
 refine ql (isAgg36 _) h fun v1 h=>q (q3 (xl (isAgg45 _) (hb.d 0 3 gZ)) (sc call54 (h.mono fun e w2 ⟨r1,r2,k,hk,h⟩=>have ⟨hs,hb⟩:=hk.hh hs hb;⟨_,k,?_⟩)))
 refine qd (ln (er (kB (.inl rfl) results53 (v:=(vi r1)) (by kernel_rfl) (v':=(vi r2)) (by kernel_rfl) ⟨r1,r2,rfl,h⟩)))
def m_P2 (aE aA:Int) (aB aC:Int) (aD:ByteArray) (cap1:Addr) (w0:World) (K:Int→Int→WP):Prop :=∀H1 w1,Hst w0 None w0 H1 w1→∃v1,w1.cell? cap1=some (vp v1)∧Calls prog 56 #[(vp v1),(vs aD)] w1 (fun e w2=>∃r1 r2,e=.returned (.tuple #[(vi r1),(vi r2)])∧Kept H1 w1 w2∧K r1 r2 w2)
theorem w_P2 (aE aA aB aC aD cap1 w0 K) (h:m_P2 aE aA aB aC aD cap1 w0 K):
  Calls prog 55 #[(.agg #[(vi aE),(vi aA),(vi aB),(vu aC),(vs aD)]),(vp (some cap1))] w0 (fun e w'=>∃r3 r4,e=.returned (.tuple #[(vi r3),(vi r4)])∧K r3 r4 w'):=by
 refine cw (args:=[(Ah aE aA aB aC aD),(vp (some cap1))]) func55 ntmps55 ?_
 obtain ⟨hs,hb⟩:=st0 w0
 refine eg (nw3 (Ac aE aA aB aC aD) 49 hs hb xb fun p1 w1 H1 hs hb=>qb (ln (eg ?_)))
 have ⟨h,hs⟩:=hs.hr (h H1 w1)
 refine ql (isAgg36 _) h fun v1 h=>q (q3 (xl (isAgg9 _) (hb.d 0 4 gZ)) (sc call56 (h.mono fun e w2 ⟨r1,r2,k,hk,h⟩=>have ⟨hs,hb⟩:=hk.hh hs hb;⟨_,k,?_⟩)))
 refine qd (ln (er (kB (.inl rfl) results55 (v:=(vi r1)) (by kernel_rfl) (v':=(vi r2)) (by kernel_rfl) ⟨r1,r2,rfl,h⟩)))
def m_Q2 (c1:Option Addr) (i1:Int) (w0:World) (K:Int→Bool→WP):Prop :=Br (decide (i1<0)) (K 0 false w0) (∃a1,c1=some a1∧∃v1:Sl,w0.cell? (a1.add 2)=some v1.v∧Br (decide (i1≥(v1.len:Int))) (K 0 false w0) (∃a2,c1=some a2∧∃v2:Sl,w0.cell? (a2.add 2)=some v2.v∧∃a3:Addr,At v2 i1 1 a3∧∃v3,w0.cell? a3=some (vi v3)∧K v3 true w0))
theorem w_Q2 (c1 i1 w0 K) (h:m_Q2 c1 i1 w0 K):
  Calls prog 58 #[(vp c1),(vi i1)] w0 (fun e w'=>∃r1 r2,e=.returned (.tuple #[(vi r1),(vb r2)])∧K r1 r2 w'):=by
 refine cw (args:=[(vp c1),(vi i1)]) func58 ntmps58 (eg (q0 (vi 0) (q0 (vb false) (ln (jA (eg (q0 (vi i1) (q0 (vb (decide (i1<0))) ?_))))))))
 refine q ?_
 obtain ⟨hg1,h⟩|⟨hg1,h⟩:=h.br
 refine sj2 8 hg1 (sj5 8 hg1 (q2 (vb true) (xT hg1) (ln (kJ (by kernel_rfl) (jA (rg (qb (ln (er (zI (kB (.inl rfl) results58 (v:=(vi 0)) (by kernel_rfl) (v':=(vb false)) (by kernel_rfl) ⟨0,false,rfl,h⟩)))))))))))
 refine qk 8 hg1 (qk 8 hg1 ?_)
 obtain ⟨a1,hp1,h⟩:=h
 refine q4 8 hg1 (xn hp1) (qk 8 hg1 ?_)
 obtain ⟨v1,hv4,h⟩:=h
 refine q4 8 hg1 (xl (isAgg39 _) hv4) (qk 8 hg1 (qk 8 hg1 (q2 (vb (decide (i1≥(v1.len:Int)))) (xF hg1) (ln (cbr h ?_ ?_)))))<;>intro h
 refine eg (qb (ln (er (zI (kB (.inl rfl) results58 (v:=(vi 0)) (by kernel_rfl) (v':=(vb false)) (by kernel_rfl) ⟨0,false,rfl,h⟩)))))
 refine jC (jI (eg (q (qm h fun a2 h=>q (ql (isAgg39 _) h fun v2 h=>q (qi (runUnderlying39 _) (sizeOf32 _) h fun a3 h=>ql (isAgg32 _) h fun v3 h=>qb (ln (er (kB (.inl rfl) results58 (v:=(vi v3)) (by kernel_rfl) (v':=(vb true)) (by kernel_rfl) ⟨v3,true,rfl,h⟩)))))))))
def m_R2 (aE aA:Int) (aB aC:Int) (aD:ByteArray) (cap1 cap2:Addr) (w0:World) (K:Int→Int→WP):Prop :=∀H1 w1,Hst w0 None w0 H1 w1→∃v1,w1.cell? cap1=some (vp v1)∧Calls prog 58 #[(vp v1),(vi aA)] w1 (fun e w2=>∃r1 r2,e=.returned (.tuple #[(vi r1),(vb r2)])∧Kept H1 w1 w2∧∃v2,w2.cell? cap1=some (vp v2)∧Calls prog 58 #[(vp v2),(vi aB)] w2 (fun e w3=>∃r3 r4,e=.returned (.tuple #[(vi r3),(vb r4)])∧Kept H1 w2 w3∧Br ((!r2) || (!r4)) (∀H2 w4,Hst w0 H1 w3 H2 w4→K 0 90 w4) (∀H2 w4,Hst w0 H1 w3 H2 w4→∃v3,w4.cell? cap2=some (vp v3)∧Calls prog 59 #[(vp v3),(vi r1),(vi r3)] w4 (fun e w5=>∃r5 r6,e=.returned (.tuple #[(vi r5),(vi r6)])∧Kept H2 w4 w5∧K r5 r6 w5))))
theorem w_R2 (aE aA aB aC aD cap1 cap2 w0 K) (h:m_R2 aE aA aB aC aD cap1 cap2 w0 K):
  Calls prog 57 #[(.agg #[(vi aE),(vi aA),(vi aB),(vu aC),(vs aD)]),(vp (some cap1)),(vp (some cap2))] w0 (fun e w'=>∃r7 r8,e=.returned (.tuple #[(vi r7),(vi r8)])∧K r7 r8 w'):=by
 refine cw (args:=[(Ah aE aA aB aC aD),(vp (some cap1)),(vp (some cap2))]) func57 ntmps57 ?_
 obtain ⟨hs,hb⟩:=st0 w0
 refine eg (nw3 (Ac aE aA aB aC aD) 49 hs hb xb fun p1 w1 H1 hs hb=>qb (ln (eg ?_)))
 have ⟨h,hs⟩:=hs.hr (h H1 w1)
 refine ql (isAgg98 _) h fun v1 h=>q (q3 (xl (isAgg3 _) (hb.d 0 1 gZ)) (sc call58 (h.mono fun e w2 ⟨r1,r2,k,hk,h⟩=>have ⟨hs,hb⟩:=hk.hh hs hb;⟨_,k,?_⟩)))
 refine q (qd (ln (eg (ql (isAgg98 _) h fun v2 h=>q (q3 (xl (isAgg3 _) (hb.d 0 2 gZ)) (sc call58 (h.mono fun e w3 ⟨r3,r4,k,hk,h⟩=>have ⟨hs,hb⟩:=hk.hh hs hb;⟨_,k,?_⟩)))))))
 refine q (qd (ln (jA (jA (jZ (fun ρ wJ=>∃b1'0:Bool,∃HJ:NP,((!r2)=b1'0)∧Hst w0 H1 w3 HJ wJ∧HB HJ wJ [(p1,(Ac aE aA aB aC aD),49)]∧Has ρ [(2,(vp (some cap2))),(6,(vi r1)),(8,(vi r3)),(29,(vb (b1'0 || (!r4))))]) ?_ ?_)))))
 refine rg (qc ?_)
 rcases bte (!r2) with hg2 | hg2
 refine sj2 26 hg2 (q2 (vb true) (xT hg2) (ln ⟨true,_,hg2,hs,hb,hm⟩))
 refine qk 26 hg2 (qk 26 hg2 (q2 (vb (!r4)) (xF hg2) (ln ⟨false,_,hg2,hs,hb,hm⟩)))
 rintro ρ w4 ⟨b1'0,H2,he0,hs,hb,hH⟩
 subst he0
 refine jP hH (jI (cbr h ?_ ?_))<;>intro h
 refine eg (qb (ln (er (zI ?_))))
 have ⟨h,hs⟩:=hs.hr (h H2 w4)
 refine kB (.inl rfl) results57 (v:=(vi 0)) (by kernel_rfl) (v':=(vi 90)) (by kernel_rfl) ⟨0,90,rfl,h⟩
 refine jC (jI (eg ?_))
 have ⟨h,hs⟩:=hs.hr (h H2 w4)
 refine ql (isAgg36 _) h fun v3 h=>qb (sc call59 (h.mono fun e w5 ⟨r5,r6,k,hk,h⟩=>have ⟨hs,hb⟩:=hk.hh hs hb;⟨_,k,?_⟩))
 refine qd (ln (er (kB (.inl rfl) results57 (v:=(vi r5)) (by kernel_rfl) (v':=(vi r6)) (by kernel_rfl) ⟨r5,r6,rfl,h⟩)))
def m_S2 (aE aA:Int) (aB aC:Int) (aD:ByteArray) (cap1 cap2:Addr) (w0:World) (K:Int→Int→WP):Prop :=∀H1 w1,Hst w0 None w0 H1 w1→∃v1,w1.cell? cap1=some (vp v1)∧Calls prog 58 #[(vp v1),(vi aA)] w1 (fun e w2=>∃r1 r2,e=.returned (.tuple #[(vi r1),(vb r2)])∧Kept H1 w1 w2∧Br (!r2) (K 0 90 w2) (∃v2,w2.cell? cap2=some (vp v2)∧Calls prog 61 #[(vp v2),(vi r1)] w2 (fun e w3=>∃r3 r4,e=.returned (.tuple #[(vi r3),(vi r4)])∧Kept H1 w2 w3∧K r3 r4 w3)))
theorem w_S2 (aE aA aB aC aD cap1 cap2 w0 K) (h:m_S2 aE aA aB aC aD cap1 cap2 w0 K):
  Calls prog 60 #[(.agg #[(vi aE),(vi aA),(vi aB),(vu aC),(vs aD)]),(vp (some cap1)),(vp (some cap2))] w0 (fun e w'=>∃r5 r6,e=.returned (.tuple #[(vi r5),(vi r6)])∧K r5 r6 w'):=by
 refine cw (args:=[(Ah aE aA aB aC aD),(vp (some cap1)),(vp (some cap2))]) func60 ntmps60 ?_
 obtain ⟨hs,hb⟩:=st0 w0
 refine eg (nw3 (Ac aE aA aB aC aD) 49 hs hb xb fun p1 w1 H1 hs hb=>qb (ln (eg ?_)))
 have ⟨h,hs⟩:=hs.hr (h H1 w1)
 refine ql (isAgg98 _) h fun v1 h=>q (q3 (xl (isAgg3 _) (hb.d 0 1 gZ)) (sc call58 (h.mono fun e w2 ⟨r1,r2,k,hk,h⟩=>have ⟨hs,hb⟩:=hk.hh hs hb;⟨_,k,?_⟩)))
 refine q (qd (ln (jA (eg (qb (ln (cbr h ?_ ?_)))))))<;>intro h
 refine eg (qb (ln (er (zI (kB (.inl rfl) results60 (v:=(vi 0)) (by kernel_rfl) (v':=(vi 90)) (by kernel_rfl) ⟨0,90,rfl,h⟩)))))
 refine jC (jI (eg (ql (isAgg36 _) h fun v2 h=>q (sc call61 (h.mono fun e w3 ⟨r3,r4,k,hk,h⟩=>have ⟨hs,hb⟩:=hk.hh hs hb;⟨_,k,?_⟩)))))
 refine qd (ln (er (kB (.inl rfl) results60 (v:=(vi r3)) (by kernel_rfl) (v':=(vi r4)) (by kernel_rfl) ⟨r3,r4,rfl,h⟩)))
def m_T2 (c1:Option Addr) (i1:Int) (w0:World) (K:Int→Int→Int→Int→ByteArray→Int→Int→Bool→WP):Prop :=∀H1 w1,Hst w0 None w0 H1 w1→Calls prog 58 #[(vp c1),(vi i1)] w1 (fun e w2=>∃r1 r2,e=.returned (.tuple #[(vi r1),(vb r2)])∧Kept H1 w1 w2∧Br (!r2) (∀w3,Hst w0 H1 w2 H1 w3→K 0 0 0 0 ⟨#[]⟩ 0 0 false w3) (∃a1,c1=some a1∧∃v1,w2.cell? a1=some (vp v1)∧Calls prog 14 #[(vp v1),(vi r1)] w2 (fun e w4=>∃aF aI aJ aK aL aG aH r3,e=.returned (.tuple #[(Ab aF aI aJ aK aL aG aH),(vb r3)])∧Kept H1 w2 w4∧∀w5,Hst w0 H1 w4 H1 w5→K aF aI aJ aK aL aG aH r3 w5)))
theorem w_T2 (c1 i1 w0 K) (h:m_T2 c1 i1 w0 K):
  Calls prog 85 #[(vp c1),(vi i1)] w0 (fun e w'=>∃aR aS aT aU aV aW aX r4,e=.returned (.tuple #[(Ab aR aS aT aU aV aW aX),(vb r4)])∧K aR aS aT aU aV aW aX r4 w'):=by
 refine cw (args:=[(vp c1),(vi i1)]) func85 ntmps85 ?_
 obtain ⟨hs,hb⟩:=st0 w0
 refine eg (nw3 (Ak 0 0 0 0 0 0) 51 hs hb (jX (zeroValue51 _) rfl) fun p1 w1 H1 hs hb=>q (ln (eg (qb ?_))))
 have ⟨h,hs⟩:=hs.hr (h H1 w1)
 refine sc call58 (h.mono fun e w2 ⟨r1,r2,k,hk,h⟩=>have ⟨hs,hb⟩:=hk.hh hs hb;⟨_,k,?_⟩)
 refine q (qd (ln (jA (eg (qb (ln (cbr h ?_ ?_)))))))<;>intro h
 refine eg (q (qE (jM rfl) (xo p1 (Ak 0 0 0 0 0 0) (sizeOf51 _) (hb.k0 0 7 gZ)) ?_))
 intro w3 hn2
 obtain ⟨hs,hb⟩:=hb.st1 0 hs hn2 gZ
 refine q (ln (er (zI ?_)))
 have ⟨h,hs⟩:=hs.hr (h w3)
 refine resG (.inl rfl) (vs:=[(An 0 0 0 0 0 0),(vb false)]) (v:=(.tuple #[(An 0 0 0 0 0 0),(vb false)])) results85 ⟨(rva (isAgg51 _) (sizeOf51 _) (hb.r0 0 7 gZ)),(rvT (by kernel_rfl)),trivial⟩ (by kernel_rfl) ⟨0,0,0,0,⟨#[]⟩,0,0,false,rfl,h⟩
 refine jC (jI (eg (q (qm h fun a1 h=>q (ql (isAgg36 _) h fun v1 h=>q (sc call14 (h.mono fun e w4 ⟨aF,aI,aJ,aK,aL,aG,aH,r3,k,hk,h⟩=>have ⟨hs,hb⟩:=hk.hh hs hb;⟨_,k,?_⟩)))))))
 refine qb (qE (jM rfl) (xo p1 (Aa aF aI aJ aK aL aG aH) (sizeOf51 _) (hb.k0 0 7 gZ)) ?_)
 intro w5 hn3
 obtain ⟨hs,hb⟩:=hb.st1 0 hs hn3 gZ
 refine q (ln (er ?_))
 have ⟨h,hs⟩:=hs.hr (h w5)
 refine resG (.inl rfl) (vs:=[(Ab aF aI aJ aK aL aG aH),(vb r3)]) (v:=(.tuple #[(Ab aF aI aJ aK aL aG aH),(vb r3)])) results85 ⟨(rva (isAgg51 _) (sizeOf51 _) (hb.r0 0 7 gZ)),(rvT (by kernel_rfl)),trivial⟩ (by kernel_rfl) ⟨aF,aI,aJ,aK,aL,aG,aH,r3,rfl,h⟩
def m_U2 (c1:Option Addr) (aE aA:Int) (aB aC:Int) (aD:ByteArray) (second1:Bool) (w0:World) (K:Int→Int→WP):Prop :=∀H1 w1,Hst w0 None w0 H1 w1→Calls prog 85 #[(vp c1),(vi aA)] w1 (fun e w2=>∃aF aI aJ aK aL aG aH r1,e=.returned (.tuple #[(Ab aF aI aJ aK aL aG aH),(vb r1)])∧Kept H1 w1 w2∧Br ((!r1) || (aF != 4)) (∀H4 w6,Hst w0 H1 w2 H4 w6→K 0 90 w6) (Br second1 (∀H4 w6,Hst w0 H1 w2 H4 w6→K aH 0 w6) (∀H4 w6,Hst w0 H1 w2 H4 w6→K aG 0 w6)))
theorem w_U2 (c1 aE aA aB aC aD second1 w0 K) (h:m_U2 c1 aE aA aB aC aD second1 w0 K):
  Calls prog 63 #[(vp c1),(.agg #[(vi aE),(vi aA),(vi aB),(vu aC),(vs aD)]),(vb second1)] w0 (fun e w'=>∃r2 r3,e=.returned (.tuple #[(vi r2),(vi r3)])∧K r2 r3 w'):=by
 refine cw (args:=[(vp c1),(Ah aE aA aB aC aD),(vb second1)]) func63 ntmps63 ?_
 obtain ⟨hs,hb⟩:=st0 w0
 refine eg (nw3 (Ac aE aA aB aC aD) 49 hs hb xb fun p1 w1 H1 hs hb=>qb (ln (eg (qb (q3 (xl (isAgg3 _) (hb.d 0 1 gZ)) ?_)))))
 have ⟨h,hs⟩:=hs.hr (h H1 w1)
 refine sc call85 (h.mono fun e w2 ⟨aF,aI,aJ,aK,aL,aG,aH,r1,k,hk,h⟩=>have ⟨hs,hb⟩:=hk.hh hs hb;⟨_,k,?_⟩)
 refine qc (nw3 (Ak 0 0 0 0 0 0) 51 hs hb (jX (zeroValue51 _) rfl) fun p2 w3 H2 hs hb=>sbx 0 (Aa aF aI aJ aK aL aG aH) (sizeOf51 _) hs hb gZ fun w4 hs hb=>q (ln (jA (jG (jA (jZ (fun ρ wJ=>∃HJ:NP,Hst w0 H1 w2 HJ wJ∧HB HJ wJ [(p2,(Aa aF aI aJ aK aL aG aH),51),(p1,(Ac aE aA aB aC aD),49)]∧Has ρ [(2,(vb second1)),(8,(vp (some p2))),(17,(vb ((!r1) || (aF != 4))))]) ?_ ?_))))))
 refine rg (qc (jE 4 (fun ρ wJ=>∃b3'0:Bool,∃HJ:NP,((!r1)=b3'0)∧Hst w0 H1 w2 HJ wJ∧HB HJ wJ [(p2,(Aa aF aI aJ aK aL aG aH),51),(p1,(Ac aE aA aB aC aD),49)]∧Has ρ [(2,(vb second1)),(8,(vp (some p2))),(24,(vb (b3'0 || (aF != 4))))]) ?_ ?_))
 rintro ρ w7 ⟨b3'0,H5,he0,hs,hb,hH⟩
 subst he0
 refine jJ hH (q (ln ⟨_,hs,hb,hm⟩))
 rcases bte (!r1) with hg4 | hg4
 refine sj3 20 hg4 (q2 (vb true) (xT hg4) (jB ⟨true,_,hg4,hs,hb,hm⟩))
 refine qk 20 hg4 (q4 20 hg4 (xl (isAgg3 _) (hb.d0 0 gZ)) (qk 20 hg4 (q2 (vb (aF != 4)) (xF hg4) (jB ⟨false,_,hg4,hs,hb,hm⟩))))
 rintro ρ w6 ⟨H4,hs,hb,hH⟩
 refine jP hH (jI (cbr h ?_ ?_))<;>intro h
 refine eg (qb (ln (er (qX (zI ?_)))))
 have ⟨h,hs⟩:=hs.hr (h H4 w6)
 refine kB (.inl rfl) results63 (v:=(vi 0)) (by kernel_rfl) (v':=(vi 90)) (by kernel_rfl) ⟨0,90,rfl,h⟩
 refine eg (qb (ln (cbr h ?_ ?_)))<;>intro h
 refine eg (q (q3 (xl (isAgg32 _) (hb.d 0 6 gZ)) (qb (ln (er (qX (zI ?_)))))))
 have ⟨h,hs⟩:=hs.hr (h H4 w6)
 refine kB (.inl rfl) results63 (v:=(vi aH)) (by kernel_rfl) (v':=(vi 0)) (by kernel_rfl) ⟨aH,0,rfl,h⟩
 refine jC (qB (jI (eg (q (q3 (xl (isAgg32 _) (hb.d 0 5 gZ)) (qb (ln (er ?_))))))))
 have ⟨h,hs⟩:=hs.hr (h H4 w6)
 refine kB (.inl rfl) results63 (v:=(vi aG)) (by kernel_rfl) (v':=(vi 0)) (by kernel_rfl) ⟨aG,0,rfl,h⟩
def m_V2 (aE aA:Int) (aB aC:Int) (aD:ByteArray) (cap1:Addr) (w0:World) (K:Int→Int→WP):Prop :=∀H1 w1,Hst w0 None w0 H1 w1→∃v1,w1.cell? cap1=some (vp v1)∧Calls prog 63 #[(vp v1),(.agg #[(vi aE),(vi aA),(vi aB),(vu aC),(vs aD)]),(vb false)] w1 (fun e w2=>∃r1 r2,e=.returned (.tuple #[(vi r1),(vi r2)])∧Kept H1 w1 w2∧K r1 r2 w2)
theorem w_V2 (aE aA aB aC aD cap1 w0 K) (h:m_V2 aE aA aB aC aD cap1 w0 K):
  Calls prog 62 #[(.agg #[(vi aE),(vi aA),(vi aB),(vu aC),(vs aD)]),(vp (some cap1))] w0 (fun e w'=>∃r3 r4,e=.returned (.tuple #[(vi r3),(vi r4)])∧K r3 r4 w'):=by
 refine cw (args:=[(Ah aE aA aB aC aD),(vp (some cap1))]) func62 ntmps62 ?_
 obtain ⟨hs,hb⟩:=st0 w0
 refine eg (nw3 (Ac aE aA aB aC aD) 49 hs hb xb fun p1 w1 H1 hs hb=>qb (ln (eg ?_)))
 have ⟨h,hs⟩:=hs.hr (h H1 w1)
 refine ql (isAgg98 _) h fun v1 h=>q2 (Ah aE aA aB aC aD) (xa p1 (Ac aE aA aB aC aD) (isAgg49 _) (sizeOf49 _) (hb.r0 0 5 gZ)) (sc call63 (h.mono fun e w2 ⟨r1,r2,k,hk,h⟩=>have ⟨hs,hb⟩:=hk.hh hs hb;⟨_,k,?_⟩))
 refine qd (ln (er (kB (.inl rfl) results62 (v:=(vi r1)) (by kernel_rfl) (v':=(vi r2)) (by kernel_rfl) ⟨r1,r2,rfl,h⟩)))
def m_W2 (aE aA:Int) (aB aC:Int) (aD:ByteArray) (cap1:Addr) (w0:World) (K:Int→Int→WP):Prop :=∀H1 w1,Hst w0 None w0 H1 w1→∃v1,w1.cell? cap1=some (vp v1)∧Calls prog 63 #[(vp v1),(.agg #[(vi aE),(vi aA),(vi aB),(vu aC),(vs aD)]),(vb true)] w1 (fun e w2=>∃r1 r2,e=.returned (.tuple #[(vi r1),(vi r2)])∧Kept H1 w1 w2∧K r1 r2 w2)
theorem w_W2 (aE aA aB aC aD cap1 w0 K) (h:m_W2 aE aA aB aC aD cap1 w0 K):
  Calls prog 64 #[(.agg #[(vi aE),(vi aA),(vi aB),(vu aC),(vs aD)]),(vp (some cap1))] w0 (fun e w'=>∃r3 r4,e=.returned (.tuple #[(vi r3),(vi r4)])∧K r3 r4 w'):=by
 refine cw (args:=[(Ah aE aA aB aC aD),(vp (some cap1))]) func64 ntmps64 ?_
 obtain ⟨hs,hb⟩:=st0 w0
 refine eg (nw3 (Ac aE aA aB aC aD) 49 hs hb xb fun p1 w1 H1 hs hb=>qb (ln (eg ?_)))
 have ⟨h,hs⟩:=hs.hr (h H1 w1)
 refine ql (isAgg98 _) h fun v1 h=>q2 (Ah aE aA aB aC aD) (xa p1 (Ac aE aA aB aC aD) (isAgg49 _) (sizeOf49 _) (hb.r0 0 5 gZ)) (sc call63 (h.mono fun e w2 ⟨r1,r2,k,hk,h⟩=>have ⟨hs,hb⟩:=hk.hh hs hb;⟨_,k,?_⟩))
 refine qd (ln (er (kB (.inl rfl) results64 (v:=(vi r1)) (by kernel_rfl) (v':=(vi r2)) (by kernel_rfl) ⟨r1,r2,rfl,h⟩)))
def m_X2 (c1:Option Addr) (aE aA:Int) (aB aC:Int) (aD:ByteArray) (w0:World) (K:Int→Int→WP):Prop :=∀H1 w1,Hst w0 None w0 H1 w1→Calls prog 85 #[(vp c1),(vi aA)] w1 (fun e w2=>∃aF aI aJ aK aL aG aH r1,e=.returned (.tuple #[(Ab aF aI aJ aK aL aG aH),(vb r1)])∧Kept H1 w1 w2∧Br ((!r1) || (((aF != 7) && (aF != 8)) && (aF != 9))) (∀H5 w7,Hst w0 H1 w2 H5 w7→K 0 90 w7) (∀H5 w7,Hst w0 H1 w2 H5 w7→K aG 0 w7))
theorem w_X2 (c1 aE aA aB aC aD w0 K) (h:m_X2 c1 aE aA aB aC aD w0 K):
  Calls prog 65 #[(vp c1),(.agg #[(vi aE),(vi aA),(vi aB),(vu aC),(vs aD)])] w0 (fun e w'=>∃r2 r3,e=.returned (.tuple #[(vi r2),(vi r3)])∧K r2 r3 w'):=by
 refine cw (args:=[(vp c1),(Ah aE aA aB aC aD)]) func65 ntmps65 ?_
 obtain ⟨hs,hb⟩:=st0 w0
 refine eg (nw3 (Ac aE aA aB aC aD) 49 hs hb xb fun p1 w1 H1 hs hb=>qb (ln (eg (qb (q3 (xl (isAgg3 _) (hb.d 0 1 gZ)) ?_)))))
 have ⟨h,hs⟩:=hs.hr (h H1 w1)
 refine sc call85 (h.mono fun e w2 ⟨aF,aI,aJ,aK,aL,aG,aH,r1,k,hk,h⟩=>have ⟨hs,hb⟩:=hk.hh hs hb;⟨_,k,?_⟩)
 refine qc (nw3 (Ak 0 0 0 0 0 0) 51 hs hb (jX (zeroValue51 _) rfl) fun p2 w3 H2 hs hb=>sbx 0 (Aa aF aI aJ aK aL aG aH) (sizeOf51 _) hs hb gZ fun w4 hs hb=>q (ln (jA (jA (jZ (fun ρ wJ=>∃b3'0:Bool,∃HJ:NP,((!r1)=b3'0)∧Hst w0 H1 w2 HJ wJ∧HB HJ wJ [(p2,(Aa aF aI aJ aK aL aG aH),51),(p1,(Ac aE aA aB aC aD),49)]∧Has ρ [(6,(vp (some p2))),(31,(vb (b3'0 || (((aF != 7) && (aF != 8)) && (aF != 9)))))]) ?_ ?_)))))
 refine rg (qc ?_)
 rcases bte (!r1) with hg6 | hg6
 refine sj4 17 hg6 (sm (sm (sm (sj2 17 hg6 (sm (sm (sm (sj 17 hg6 (q2 (vb true) (xT hg6) (ln ⟨true,_,hg6,hs,hb,hm⟩))))))))))
 refine qk 17 hg6 (q4 17 hg6 (xl (isAgg3 _) (hb.d0 0 gZ)) (qk 17 hg6 (qk 17 hg6 (jE 4 (fun ρ wJ=>∃b4'0:Bool,∃HJ:NP,((aF != 7)=b4'0)∧Hst w0 H1 w2 HJ wJ∧HB HJ wJ [(p2,(Aa aF aI aJ aK aL aG aH),51),(p1,(Ac aE aA aB aC aD),49)]∧Has ρ [(6,(vp (some p2))),(17,(vb (!r1))),(25,(vb (b4'0 && (aF != 8))))]) ?_ ?_))))
 rintro ρ w8 ⟨b4'0,H6,he0,hs,hb,hH⟩
 subst he0
 refine jJ hH (qk 17 hg6 (jE 4 (fun ρ wJ=>∃b5'0:Bool,∃HJ:NP,(((aF != 7) && (aF != 8))=b5'0)∧Hst w0 H1 w2 HJ wJ∧HB HJ wJ [(p2,(Aa aF aI aJ aK aL aG aH),51),(p1,(Ac aE aA aB aC aD),49)]∧Has ρ [(6,(vp (some p2))),(17,(vb (!r1))),(30,(vb (b5'0 && (aF != 9))))]) ?_ ?_))
 rintro ρ w9 ⟨b5'0,H7,he0,hs,hb,hH⟩
 subst he0
 refine jJ hH (q2 (vb (((aF != 7) && (aF != 8)) && (aF != 9))) (xF hg6) (ln ⟨false,_,hg6,hs,hb,hm⟩))
 rcases bte ((aF != 7) && (aF != 8)) with hg10 | hg10
 refine qk 26 hg10 (q4 26 hg10 (xl (isAgg3 _) (hb.d0 0 gZ)) (qk 26 hg10 (stq (v:=(vb (aF != 9))) (wy 17 hg6) (xT hg10) (jB ⟨true,_,hg10,hs,hb,hm⟩))))
 refine sj3 26 hg10 (stq (v:=(vb false)) (wy 17 hg6) (xF hg10) (jB ⟨false,_,hg10,hs,hb,hm⟩))
 rcases bte (aF != 7) with hg8 | hg8
 refine qk 21 hg8 (q4 21 hg8 (xl (isAgg3 _) (hb.d0 0 gZ)) (qk 21 hg8 (stq (v:=(vb (aF != 8))) (wy 17 hg6) (xT hg8) (jB ⟨true,_,hg8,hs,hb,hm⟩))))
 refine sj3 21 hg8 (stq (v:=(vb false)) (wy 17 hg6) (xF hg8) (jB ⟨false,_,hg8,hs,hb,hm⟩))
 rintro ρ w7 ⟨b3'0,H5,he0,hs,hb,hH⟩
 subst he0
 refine jP hH (jI (cbr h ?_ ?_))<;>intro h
 refine eg (qb (ln (er (zI ?_))))
 have ⟨h,hs⟩:=hs.hr (h H5 w7)
 refine kB (.inl rfl) results65 (v:=(vi 0)) (by kernel_rfl) (v':=(vi 90)) (by kernel_rfl) ⟨0,90,rfl,h⟩
 refine jC (jI (eg (q (q3 (xl (isAgg32 _) (hb.d 0 5 gZ)) (qb (ln (er ?_)))))))
 have ⟨h,hs⟩:=hs.hr (h H5 w7)
 refine kB (.inl rfl) results65 (v:=(vi aG)) (by kernel_rfl) (v':=(vi 0)) (by kernel_rfl) ⟨aG,0,rfl,h⟩
def m_Y2 (c1:Option Addr) (aE aA:Int) (aB aC:Int) (aD:ByteArray) (how1:Value) (w0:World) (K:Int→Int→WP):Prop :=∀H1 w1,Hst w0 None w0 H1 w1→Calls prog 58 #[(vp c1),(vi aA)] w1 (fun e w2=>∃r1 r2,e=.returned (.tuple #[(vi r1),(vb r2)])∧Kept H1 w1 w2∧Calls prog 85 #[(vp c1),(vi aB)] w2 (fun e w3=>∃aF aI aJ aK aL aG aH r3,e=.returned (.tuple #[(Ab aF aI aJ aK aL aG aH),(vb r3)])∧Kept H1 w2 w3∧Br (((!r2) || (!r3)) || (aF != 6)) (∀H4 w7,Hst w0 H1 w3 H4 w7→K 0 90 w7) (∃(f1:FuncId) (fs1 cs1:Array Value),how1=.func (.func f1) fs1 cs1∧∀H4 w7,Hst w0 H1 w3 H4 w7→(∀args w,(callFunc f1 args).run prog w=.ok (.enter f1 args) w)∧Calls prog f1 (fs1++#[(vi aI),(vi r1)]++cs1) w7 (fun e w9=>∃r4 r5,e=.returned (.tuple #[(vi r4),(vi r5)])∧Kept H4 w7 w9∧K r4 r5 w9))))
theorem w_Y2 (c1 aE aA aB aC aD how1 w0 K) (h:m_Y2 c1 aE aA aB aC aD how1 w0 K):
  Calls prog 67 #[(vp c1),(.agg #[(vi aE),(vi aA),(vi aB),(vu aC),(vs aD)]),how1] w0 (fun e w'=>∃r6 r7,e=.returned (.tuple #[(vi r6),(vi r7)])∧K r6 r7 w'):=by
 refine cw (args:=[(vp c1),(Ah aE aA aB aC aD),how1]) func67 ntmps67 ?_
 obtain ⟨hs,hb⟩:=st0 w0
 refine eg (nw3 (Ac aE aA aB aC aD) 49 hs hb xb fun p1 w1 H1 hs hb=>qb (ln (eg (qb (q3 (xl (isAgg3 _) (hb.d 0 1 gZ)) ?_)))))
 have ⟨h,hs⟩:=hs.hr (h H1 w1)
 refine sc call58 (h.mono fun e w2 ⟨r1,r2,k,hk,h⟩=>have ⟨hs,hb⟩:=hk.hh hs hb;⟨_,k,?_⟩)
 refine q (qd (ln (eg (qb (q3 (xl (isAgg3 _) (hb.d 0 2 gZ)) (sc call85 (h.mono fun e w3 ⟨aF,aI,aJ,aK,aL,aG,aH,r3,k,hk,h⟩=>have ⟨hs,hb⟩:=hk.hh hs hb;⟨_,k,?_⟩)))))))
 refine qc (nw3 (Ak 0 0 0 0 0 0) 51 hs hb (jX (zeroValue51 _) rfl) fun p2 w4 H2 hs hb=>sbx 0 (Aa aF aI aJ aK aL aG aH) (sizeOf51 _) hs hb gZ fun w5 hs hb=>q (ln (jA (jA (jZ (fun ρ wJ=>∃b2'0:Bool,∃HJ:NP,(((!r2) || (!r3))=b2'0)∧Hst w0 H1 w3 HJ wJ∧HB HJ wJ [(p2,(Aa aF aI aJ aK aL aG aH),51),(p1,(Ac aE aA aB aC aD),49)]∧Has ρ [(2,how1),(8,(vi r1)),(10,(vp (some p2))),(36,(vb (b2'0 || (aF != 6))))]) ?_ ?_)))))
 refine rg (qc (jE 3 (fun ρ wJ=>∃b3'0:Bool,∃HJ:NP,((!r2)=b3'0)∧Hst w0 H1 w3 HJ wJ∧HB HJ wJ [(p2,(Aa aF aI aJ aK aL aG aH),51),(p1,(Ac aE aA aB aC aD),49)]∧Has ρ [(2,how1),(8,(vi r1)),(10,(vp (some p2))),(31,(vb (b3'0 || (!r3))))]) ?_ ?_))
 rintro ρ w8 ⟨b3'0,H5,he0,hs,hb,hH⟩
 subst he0
 refine jJ hH (q ?_)
 rcases bte ((!r2) || (!r3)) with hg6 | hg6
 refine sj3 32 hg6 (q2 (vb true) (xT hg6) (ln ⟨true,_,hg6,hs,hb,hm⟩))
 refine qk 32 hg6 (q4 32 hg6 (xl (isAgg3 _) (hb.d0 0 gZ)) (qk 32 hg6 (q2 (vb (aF != 6)) (xF hg6) (ln ⟨false,_,hg6,hs,hb,hm⟩))))
 rcases bte (!r2) with hg5 | hg5
 refine sj2 28 hg5 (q2 (vb true) (xT hg5) (jB ⟨true,_,hg5,hs,hb,hm⟩))
 refine qk 28 hg5 (qk 28 hg5 (q2 (vb (!r3)) (xF hg5) (jB ⟨false,_,hg5,hs,hb,hm⟩)))
 rintro ρ w7 ⟨b2'0,H4,he0,hs,hb,hH⟩
 subst he0
 refine jP hH (jI (cbr h ?_ ?_))<;>intro h
 refine eg (qb (ln (er (zI ?_))))
 have ⟨h,hs⟩:=hs.hr (h H4 w7)
 refine kB (.inl rfl) results67 (v:=(vi 0)) (by kernel_rfl) (v':=(vi 90)) (by kernel_rfl) ⟨0,90,rfl,h⟩
 refine jC (jI (eg (qb (q3 (xl (isAgg3 _) (hb.d 0 1 gZ)) (q ?_)))))
 obtain ⟨f1,fs1,cs1,hp1,h⟩:=h
 have ⟨h,hs⟩:=hs.hr (h H4 w7)
 obtain ⟨hf1,h⟩:=h
 refine zK (jM rfl) (jBO (fs:=fs1) (caps:=cs1) (args:=#[(vi aI),(vi r1)]) (by kernel_rfl) hp1 hf1 (by kernel_rfl) rfl) (h.mono ?_)
 rintro e w9 ⟨r4,r5,rfl,hk,h⟩
 refine ⟨_,rfl,?_⟩
 obtain ⟨hs,hb⟩:=hk.hh hs hb
 refine qd (ln (er (kB (.inl rfl) results67 (v:=(vi r4)) (by kernel_rfl) (v':=(vi r5)) (by kernel_rfl) ⟨r4,r5,rfl,h⟩)))
def m_Z2 (aE aA:Int) (aB aC:Int) (aD:ByteArray) (cap1 cap2:Addr) (w0:World) (K:Int→Int→WP):Prop :=∀H1 w1,Hst w0 None w0 H1 w1→∃v1,w1.cell? cap1=some (vp v1)∧∃v2,w1.cell? cap2=some (vp v2)∧Calls prog 67 #[(vp v1),(.agg #[(vi aE),(vi aA),(vi aB),(vu aC),(vs aD)]),(.func (.func 68) #[(vp v2)] #[])] w1 (fun e w2=>∃r1 r2,e=.returned (.tuple #[(vi r1),(vi r2)])∧Kept H1 w1 w2∧K r1 r2 w2)
theorem w_Z2 (aE aA aB aC aD cap1 cap2 w0 K) (h:m_Z2 aE aA aB aC aD cap1 cap2 w0 K):
  Calls prog 66 #[(.agg #[(vi aE),(vi aA),(vi aB),(vu aC),(vs aD)]),(vp (some cap1)),(vp (some cap2))] w0 (fun e w'=>∃r3 r4,e=.returned (.tuple #[(vi r3),(vi r4)])∧K r3 r4 w'):=by
 refine cw (args:=[(Ah aE aA aB aC aD),(vp (some cap1)),(vp (some cap2))]) func66 ntmps66 ?_
 obtain ⟨hs,hb⟩:=st0 w0
 refine eg (nw3 (Ac aE aA aB aC aD) 49 hs hb xb fun p1 w1 H1 hs hb=>qb (ln (eg ?_)))
 have ⟨h,hs⟩:=hs.hr (h H1 w1)
 refine ql (isAgg98 _) h fun v1 h=>q2 (Ah aE aA aB aC aD) (xa p1 (Ac aE aA aB aC aD) (isAgg49 _) (sizeOf49 _) (hb.r0 0 5 gZ)) (ql (isAgg36 _) h fun v2 h=>q (sc call67 (h.mono fun e w2 ⟨r1,r2,k,hk,h⟩=>have ⟨hs,hb⟩:=hk.hh hs hb;⟨_,k,?_⟩)))
 refine qd (ln (er (kB (.inl rfl) results66 (v:=(vi r1)) (by kernel_rfl) (v':=(vi r2)) (by kernel_rfl) ⟨r1,r2,rfl,h⟩)))
def m_A3 (aE aA:Int) (aB aC:Int) (aD:ByteArray) (cap1 cap2:Addr) (w0:World) (K:Int→Int→WP):Prop :=∀p1 w1,New w0 (.cells #[(vi aE),(vi aA),(vi aB),(vu aC),(vs aD)] 49) p1 w1→∃v1,w1.cell? cap1=some (vp v1)∧∃aM aN aO aP aQ,Row w1 p1 (Ac aM aN aO aP aQ)∧Calls prog 67 #[(vp v1),(.agg #[(vi aM),(vi aN),(vi aO),(vu aP),(vs aQ)]),(.func (.func 70) #[] #[(vp (some cap2)),(vp (some p1))])] w1 (fun e w2=>∃r1 r2,e=.returned (.tuple #[(vi r1),(vi r2)])∧K r1 r2 w2)
theorem w_A3 (aE aA aB aC aD cap1 cap2 w0 K) (h:m_A3 aE aA aB aC aD cap1 cap2 w0 K):
  Calls prog 69 #[(.agg #[(vi aE),(vi aA),(vi aB),(vu aC),(vs aD)]),(vp (some cap1)),(vp (some cap2))] w0 (fun e w'=>∃r3 r4,e=.returned (.tuple #[(vi r3),(vi r4)])∧K r3 r4 w'):=by
 refine cw (args:=[(Ah aE aA aB aC aD),(vp (some cap1)),(vp (some cap2))]) func69 ntmps69 (eg (sn (O:=(.cells #[(vi aE),(vi aA),(vi aB),(vu aC),(vs aD)] 49)) xb ?_))
 intro p1 w1 hn1
 have h:=h p1 w1 hn1
 refine qb (ln (eg (ql (isAgg98 _) h fun v1 h=>?_)))
 obtain ⟨aM,aN,aO,aP,aQ,hv1,h⟩:=h
 refine qa (isAgg49 _) (sizeOf49 _) hv1 (q (sc call67 (h.mono fun e w2 ⟨r1,r2,k,h⟩=>⟨_,k,?_⟩)))
 refine qd (ln (er (kB (.inl rfl) results69 (v:=(vi r1)) (by kernel_rfl) (v':=(vi r2)) (by kernel_rfl) ⟨r1,r2,rfl,h⟩)))
def s_H1 (n1:Int):Int :=(cond (decide (n1>2147483648)) (-1) (q6.wrap n1))
theorem pw_H1 (n1:Int) (w0:World) :
  Calls prog 72 #[(vu n1)] w0 (fun e w'=>∃b'0:Bool,((decide (n1>2147483648))=b'0)∧(e=.returned (vi (cond b'0 (-1) (q6.wrap n1))))∧Pure w0 w'):=by
 refine cw (args:=[(vu n1)]) func72 ntmps72 (eg (q0 (vi 0) (ln (jA (eg (q0 (vu n1) (q0 (vb (decide (n1>2147483648))) (jB ?_))))))))
 refine jI (zF (t:=(decide (n1>2147483648))) (by kernel_rfl) (fun hc1=>?_) (fun hc1=>?_))
 refine eg (q (ln (er (zI (rs1 results72 (v:=(vi (-1))) ⟨true,hc1,by kernel_rfl,Ext.refl _⟩)))))
 refine jC (jI (eg (qc (ln (er (rs1 results72 (v:=(vi (q6.wrap n1))) ⟨false,hc1,by kernel_rfl,Ext.refl _⟩))))))
theorem p_H1 (n1:Int) (w0:World):Calls prog 72 #[(.int .u64 n1)] w0 (fun e w'=>e=.returned (.int .i64 (s_H1 n1))∧Pure w0 w'):=by
 refine (pw_H1 n1 w0).mono ?_;rintro e w' ⟨b'0,e0,h,E⟩;subst e0;exact ⟨h,E⟩
def m_B3 (who1 a1:Int) (cap1 cap2:Addr) (w0:World) (K:Int→Int→WP):Prop :=∃C1:WP,C1 w0.drew∧∀w1,w1=w0.drew→∃v1,(∀w',C1 w'→w'.cell? cap1=some (vp v1))∧∃v2,(∀w',C1 w'→w'.cell? (cap2.add 3)=some (vu v2))∧Calls prog 72 #[(vu v2)] w1 (fun e w2=>∃r1,e=.returned (vi r1)∧C1 w2∧Kept None w1 w2∧Calls prog 71 #[(vp v1),(vi who1),(vi r1),(vi a1)] w2 (fun e w3=>∃r2 r3,e=.returned (.tuple #[(vi r2),(vi r3)])∧C1 w3∧Kept None w2 w3∧K r2 r3 w3))
theorem w_B3 (who1 a1 cap1 cap2 w0 K) (h:m_B3 who1 a1 cap1 cap2 w0 K):
  Calls prog 70 #[(vi who1),(vi a1),(vp (some cap1)),(vp (some cap2))] w0 (fun e w'=>∃r4 r5,e=.returned (.tuple #[(vi r4),(vi r5)])∧K r4 r5 w'):=by
 refine cw (args:=[(vi who1),(vi a1),(vp (some cap1)),(vp (some cap2))]) func70 ntmps70 ?_
 obtain ⟨hs,hb⟩:=st0 w0
 refine eg (qb (ln (jA ?_)))
 obtain ⟨C1,hC,h⟩:=h
 refine dr2 C1 [4,6] [] hC h hs hb fun w1 hs hb h=>?_
 have hs:=hs.here
 refine qg 0 ?_
 obtain ⟨v1,hv2,h⟩:=h
 refine sy Kp0 (fun _ k=>xl (isAgg36 _) (hv2 _ k)) (qx 1 (vi who1) Kp1 (qx 2 (vp (some (cap2.add 3))) Kp2 (qg 3 ?_)))
 obtain ⟨v2,hv1,h⟩:=h
 refine sy Kp3 (fun _ k=>xl (isAgg45 _) (hv1 _ k)) (qx 5 (vi a1) Kp5 (lg 4 (slc Kp4 call72 (h.mono ?_))))
 rintro e w2 ⟨r1,rfl,hC,hk,h⟩
 refine ⟨_,rfl,.inr hC,?_⟩
 obtain ⟨hs,hb⟩:=hk.hh hs hb
 refine lg 6 (slc Kp6 call71 (h.mono ?_))
 rintro e w3 ⟨r2,r3,rfl,hC,hk,h⟩
 refine ⟨_,rfl,.inr hC,?_⟩
 obtain ⟨hs,hb⟩:=hk.hh hs hb
 refine qx 7 (vi r2) Kp7 (qx 8 (vi r3) Kp8 (qx 9 (vi r2) Kp9 (qx 10 (vi r3) (jT (S8 (jH (jH jS)))) (wn (jI (er (kB (.inl rfl) results70 (v:=(vi r2)) (by kernel_rfl) (v':=(vi r3)) (by kernel_rfl) ⟨r2,r3,rfl,h⟩)))))))
def m_C3 (aE aA:Int) (aB aC:Int) (aD:ByteArray) (cap1 cap2:Addr) (w0:World) (K:Int→Int→WP):Prop :=∀p1 w1,New w0 (.cells #[(vi aE),(vi aA),(vi aB),(vu aC),(vs aD)] 49) p1 w1→∃v1,w1.cell? cap1=some (vp v1)∧∃aM aN aO aP aQ,Row w1 p1 (Ac aM aN aO aP aQ)∧Calls prog 67 #[(vp v1),(.agg #[(vi aM),(vi aN),(vi aO),(vu aP),(vs aQ)]),(.func (.func 74) #[] #[(vp (some cap2)),(vp (some p1))])] w1 (fun e w2=>∃r1 r2,e=.returned (.tuple #[(vi r1),(vi r2)])∧K r1 r2 w2)
theorem w_C3 (aE aA aB aC aD cap1 cap2 w0 K) (h:m_C3 aE aA aB aC aD cap1 cap2 w0 K):
  Calls prog 73 #[(.agg #[(vi aE),(vi aA),(vi aB),(vu aC),(vs aD)]),(vp (some cap1)),(vp (some cap2))] w0 (fun e w'=>∃r3 r4,e=.returned (.tuple #[(vi r3),(vi r4)])∧K r3 r4 w'):=by
 refine cw (args:=[(Ah aE aA aB aC aD),(vp (some cap1)),(vp (some cap2))]) func73 ntmps73 (eg (sn (O:=(.cells #[(vi aE),(vi aA),(vi aB),(vu aC),(vs aD)] 49)) xb ?_))
 intro p1 w1 hn1
 have h:=h p1 w1 hn1
 refine qb (ln (eg (ql (isAgg98 _) h fun v1 h=>?_)))
 obtain ⟨aM,aN,aO,aP,aQ,hv1,h⟩:=h
 refine qa (isAgg49 _) (sizeOf49 _) hv1 (q (sc call67 (h.mono fun e w2 ⟨r1,r2,k,h⟩=>⟨_,k,?_⟩)))
 refine qd (ln (er (kB (.inl rfl) results73 (v:=(vi r1)) (by kernel_rfl) (v':=(vi r2)) (by kernel_rfl) ⟨r1,r2,rfl,h⟩)))
def m_D3 (who1 a1:Int) (cap1 cap2:Addr) (w0:World) (K:Int→Int→WP):Prop :=∃C1:WP,C1 w0.drew∧∀w1,w1=w0.drew→∃v1,(∀w',C1 w'→w'.cell? cap1=some (vp v1))∧∃v2,(∀w',C1 w'→w'.cell? (cap2.add 3)=some (vu v2))∧Calls prog 72 #[(vu v2)] w1 (fun e w2=>∃r1,e=.returned (vi r1)∧C1 w2∧Kept None w1 w2∧Calls prog 75 #[(vp v1),(vi r1),(vi who1),(vi a1)] w2 (fun e w3=>∃r2 r3,e=.returned (.tuple #[(vi r2),(vi r3)])∧C1 w3∧Kept None w2 w3∧K r2 r3 w3))
theorem w_D3 (who1 a1 cap1 cap2 w0 K) (h:m_D3 who1 a1 cap1 cap2 w0 K):
  Calls prog 74 #[(vi who1),(vi a1),(vp (some cap1)),(vp (some cap2))] w0 (fun e w'=>∃r4 r5,e=.returned (.tuple #[(vi r4),(vi r5)])∧K r4 r5 w'):=by
 refine cw (args:=[(vi who1),(vi a1),(vp (some cap1)),(vp (some cap2))]) func74 ntmps74 ?_
 obtain ⟨hs,hb⟩:=st0 w0
 refine eg (qb (ln (jA ?_)))
 obtain ⟨C1,hC,h⟩:=h
 refine dr2 C1 [3,6] [] hC h hs hb fun w1 hs hb h=>?_
 have hs:=hs.here
 refine qg 0 ?_
 obtain ⟨v1,hv2,h⟩:=h
 refine sy Kp0 (fun _ k=>xl (isAgg36 _) (hv2 _ k)) (qx 1 (vp (some (cap2.add 3))) Kp1 (qg 2 ?_))
 obtain ⟨v2,hv1,h⟩:=h
 refine sy Kp2 (fun _ k=>xl (isAgg45 _) (hv1 _ k)) (qx 4 (vi who1) Kp4 (qx 5 (vi a1) Kp5 (lg 3 (slc Kp3 call72 (h.mono ?_)))))
 rintro e w2 ⟨r1,rfl,hC,hk,h⟩
 refine ⟨_,rfl,.inr hC,?_⟩
 obtain ⟨hs,hb⟩:=hk.hh hs hb
 refine lg 6 (slc Kp6 call75 (h.mono ?_))
 rintro e w3 ⟨r2,r3,rfl,hC,hk,h⟩
 refine ⟨_,rfl,.inr hC,?_⟩
 obtain ⟨hs,hb⟩:=hk.hh hs hb
 refine qx 7 (vi r2) Kp7 (qx 8 (vi r3) Kp8 (qx 9 (vi r2) Kp9 (qx 10 (vi r3) (jT (S8 (jH (jH jS)))) (wn (jI (er (kB (.inl rfl) results74 (v:=(vi r2)) (by kernel_rfl) (v':=(vi r3)) (by kernel_rfl) ⟨r2,r3,rfl,h⟩)))))))
end Go.Proofs
end
section
open Go Go.SE
namespace Go.Proofs
open Try
attribute [local irreducible] Calls
abbrev DoPost (p:Addr) (F:NP) (w:World) (R:Sp.Res) (e:Ending) (w':World):Prop :=
 ∃r1:Int,∃r2:Int,e=.returned (.tuple #[.int .i64 r1,.int .i64 r2])∧((r1,r2)=(R.1,R.2.1)∧∃F',jL w' p R.2.2 F'∧Ext F w w'∧∀b,F' b→F b∨w.heap.size≤b)
section
variable (p:Addr) (w0:World) {L:Sp.Pool} {F:NP} (hP:jL w0 p L F) (hok:Sp.Ok L)
include hP hok
theorem c_Prom (n t a:Int):Calls prog 71 #[.pointer (some p),.int .i64 n,.int .i64 t,.int .i64 a] w0 (MakePost p L F w0 ⟨8,n,t,0,⟨#[]⟩,a,0⟩):=by
 refine w_Z1 _ _ _ _ w0 (fun r1 r2 w'=>(r1,r2)=((Sp.make L ⟨8,n,t,0,⟨#[]⟩,a,0⟩).1,(Sp.make L ⟨8,n,t,0,⟨#[]⟩,a,0⟩).2.1)∧∃F',jL w' p (Sp.make L ⟨8,n,t,0,⟨#[]⟩,a,0⟩).2.2 F'∧Ext F w0 w'∧∀b,F' b→F b∨w0.heap.size≤b) ?_;unfold m_Z1;refine (yT p _ _ _ _ _ _ _ w0 hP hok).mono ?_;rintro _ w1 ⟨r1,r2,rfl,h⟩;exact ⟨r1,r2,rfl,h⟩
theorem c_Fake (n t a:Int):Calls prog 75 #[.pointer (some p),.int .i64 n,.int .i64 t,.int .i64 a] w0 (MakePost p L F w0 ⟨9,n,t,0,⟨#[]⟩,a,0⟩):=by
 refine w_A2 _ _ _ _ w0 (fun r1 r2 w'=>(r1,r2)=((Sp.make L ⟨9,n,t,0,⟨#[]⟩,a,0⟩).1,(Sp.make L ⟨9,n,t,0,⟨#[]⟩,a,0⟩).2.1)∧∃F',jL w' p (Sp.make L ⟨9,n,t,0,⟨#[]⟩,a,0⟩).2.2 F'∧Ext F w0 w'∧∀b,F' b→F b∨w0.heap.size≤b) ?_;unfold m_A2;refine (yT p _ _ _ _ _ _ _ w0 hP hok).mono ?_;rintro _ w1 ⟨r1,r2,rfl,h⟩;exact ⟨r1,r2,rfl,h⟩
theorem c_Data (x:ByteArray):Calls prog 56 #[.pointer (some p),.string x] w0 (MakePost p L F w0 ⟨3,0,0,0,x,0,0⟩):=by
 refine w_V1 _ _ w0 (fun r1 r2 w'=>(r1,r2)=((Sp.make L ⟨3,0,0,0,x,0,0⟩).1,(Sp.make L ⟨3,0,0,0,x,0,0⟩).2.1)∧∃F',jL w' p (Sp.make L ⟨3,0,0,0,x,0,0⟩).2.2 F'∧Ext F w0 w'∧∀b,F' b→F b∨w0.heap.size≤b) ?_;unfold m_V1;refine (yT p _ _ _ _ _ _ _ w0 hP hok).mono ?_;rintro _ w1 ⟨r1,r2,rfl,h⟩;exact ⟨r1,r2,rfl,h⟩
end
def zU (o:Sp.Op):List Value:=[.int .i64 o.code,.int .i64 o.a,.int .i64 o.b,.int .u64 o.num,.string o.text]
def opv (o:Sp.Op):Value:=.agg #[.int .i64 o.code,.int .i64 o.a,.int .i64 o.b,.int .u64 o.num,.string o.text]
structure CookS (w:World) (c p:Addr) (sg sm:Sl) (G M:List Int):Prop where
 box:Box w c [.pointer (some p),sg.v,sm.v] 101
 giv:Rws w 32 1 sg (tmr G)
 made:Rws w 32 1 sm (tmr M)
def jIP (c:Addr) (sg sm:Sl) (b:Nat):Prop:=b=c.block∨sg.blk b∨sm.blk b
section
variable {w w':World} {c p:Addr} {sg sm:Sl} {G M:List Int}
theorem CookS.ext {X:NP} (h:CookS w c p sg sm G M) (hE:Ext X w w') (hd:∀b,jIP c sg sm b→¬ X b):CookS w' c p sg sm G M :=
 ⟨h.box.ext hE (hd _ (.inl rfl)),h.giv.ext hE (fun b hb=>hd _ (.inr (.inl hb))),h.made.ext hE (fun b hb=>hd _ (.inr (.inr hb)))⟩
theorem CookS.pure (h:CookS w c p sg sm G M) (hE:Pure w w'):CookS w' c p sg sm G M:=h.ext hE (fun _ _ h=>h)
theorem CookS.lt (h:CookS w c p sg sm G M) {b:Nat} (hb:jIP c sg sm b):b<w.heap.size:=by
 rcases hb with rfl | hb | hb
 ·exact h.box.lt
 ·exact h.giv.lt hb
 ·exact h.made.lt hb
end
theorem jAR {w:World} {e:TypeId} {s:Sl} {ts:List Int} (h:Rws w e 1 s (tmr ts)) {i t:Int} (hi:Sp.atM ts i=some t):∃a,At s i 1 a∧w.cell? a=some (.int .i64 t):=by
 obtain ⟨h0,h1,rfl⟩:=Sp.jGM hi;obtain ⟨a,h2,h3,_⟩:=h.at h0 (by simpa [tmr] using h1);exact ⟨a,h2,qP (by simpa [tmr] using h3)⟩
section
variable {w0:World} {c p:Addr} {sg sm:Sl} {G M:List Int} (hC:CookS w0 c p sg sm G M)
include hC
theorem qK (i:Int):Calls prog 58 #[.pointer (some c),.int .i64 i] w0 (fun e w'=>∃r:Int,∃ok:Bool,e=.returned (.tuple #[.int .i64 r,.bool ok])∧((match Sp.atM M i with | none=>r=0∧ok=false | some t=>r=t∧ok=true)∧w'=w0)):=by
 refine w_Q2 _ _ w0 (fun r ok w'=>(match Sp.atM M i with | none=>r=0∧ok=false | some t=>r=t∧ok=true)∧w'=w0) ?_;unfold m_Q2;have hl:sm.len=M.length:=by rw [hC.made.len,zO]
 refine ⟨fun h=>?_,fun h=>?_⟩
 ·rw [Sp.xA (.inl (of_decide_eq_true h))];exact ⟨⟨rfl,rfl⟩,rfl⟩
 ·have h:=of_decide_eq_false h;refine ⟨c,rfl,sm,hC.box.cell rfl,fun h1=>?_,fun h1=>?_⟩
  ·rw [Sp.xA (.inr (by have:=of_decide_eq_true h1;omega))];exact ⟨⟨rfl,rfl⟩,rfl⟩
  ·have h1:=of_decide_eq_false h1;have e:Sp.atM M i=some (M[i.toNat]'(by omega)):=Sp.jFC (by omega) (by omega);obtain ⟨a,ha,hc⟩:=jAR hC.made e;refine ⟨c,rfl,sm,hC.box.cell rfl,a,ha,_,hc,?_⟩;rw [e];exact ⟨⟨rfl,rfl⟩,rfl⟩
variable {L:Sp.Pool} {F:NP} (hP:jL w0 p L F) (hok:Sp.Ok L)
include hP hok
theorem yI (i:Int):Calls prog 85 #[.pointer (some c),.int .i64 i] w0
  (fun e w'=>∃k:Int,∃f:Int,∃t':Int,∃u:Int,∃x:ByteArray,∃a:Int,∃b:Int,∃r:Bool,e=.returned (.tuple #[.agg #[.int .i64 k,.int .i64 f,.int .i64 t',.int .u64 u,.string x,.int .i64 a,.int .i64 b],.bool r])∧(((⟨k,f,t',u,x,a,b⟩:Sp.Node)=Sp.zT L M i∧(r=false→Sp.zT L M i=Sp.qW))∧Pure w0 w')):=by
 refine w_T2 _ _ w0 (fun k f t' u x a b r w'=>((⟨k,f,t',u,x,a,b⟩:Sp.Node)=Sp.zT L M i∧(r=false→Sp.zT L M i=Sp.qW))∧Pure w0 w') ?_
 unfold m_T2
 intro H1 w1 hs1
 have E1:=hs1.first
 refine (qK (hC.pure E1) i).mono ?_
 rintro _ _ ⟨r,ok,rfl,hr,rfl⟩
 refine ⟨_,_,rfl,Kept.refl _,?_⟩
 unfold Sp.zT
 cases ht:Sp.atM M i with
 | none =>
  rw [ht] at hr;obtain ⟨rfl,rfl⟩:=hr
  exact Br.t rfl (fun w3 hs3=>⟨⟨rfl,fun _=>rfl⟩,E1.hst hs3⟩)
 | some t =>
  rw [ht] at hr;obtain ⟨rfl,rfl⟩:=hr
  refine Br.f rfl ⟨c,rfl,some p,(hC.pure E1).box.cell0,?_⟩
  refine (jAL p r _ (hP.pure E1) hok).mono ?_
  rintro _ w4 ⟨k,f,t',u,x,a,b,o,rfl,⟨h1,h2⟩,E4⟩
  refine ⟨_,_,_,_,_,_,_,_,rfl,E4.keptP,fun w5 hs5=>⟨⟨h1,fun ho=>?_⟩,(E1.trans E4).hst hs5⟩⟩
  exact Sp.lB (h2.symm.trans ho)
theorem gX (o:Sp.Op) (s:Bool):Calls prog 63 #[.pointer (some c),opv o,.bool s] w0 (DoPost p F w0 (Sp.kH L M o s)):=by
 obtain ⟨co,oa,ob,on,ox⟩:=o;refine w_U2 _ _ _ _ _ _ _ w0 (fun r1 r2 w'=>(r1,r2)=((Sp.kH L M ⟨co,oa,ob,on,ox⟩ s).1,(Sp.kH L M ⟨co,oa,ob,on,ox⟩ s).2.1)∧∃F',jL w' p (Sp.kH L M ⟨co,oa,ob,on,ox⟩ s).2.2 F'∧Ext F w0 w'∧∀b,F' b→F b∨w0.heap.size≤b) ?_;unfold m_U2;intro H1 w1 hs1;have E1:=hs1.first;refine (yI (hC.pure E1) (hP.pure E1) hok oa).mono ?_;rintro _ w2 ⟨k,f,t',u,x,a,b,r,rfl,⟨hn,hr⟩,E2⟩;refine ⟨_,_,_,_,_,_,_,_,rfl,E2.keptP,?_⟩;have fin:∀{H' w'},Hst w0 H1 w2 H' w'→∃F',jL w' p L F'∧Ext F w0 w'∧∀b,F' b→F b∨w0.heap.size≤b:=fun hs=>by
  have E:=(E1.trans E2).hst hs;exact ⟨F,hP.pure E,E.pure,fun b hb=>.inl hb⟩
 unfold Sp.kH;simp only;rw [← hn] at hr ⊢;refine ⟨fun h=>fun H w hs=>?_,fun h=>?_⟩
 ·rw [if_neg]
  ·exact ⟨rfl,fin hs⟩
  ·intro h4;simp only at h4;subst h4;have:r=false:=by simpa using h
   have:=hr this;simp [Sp.qW] at this
 ·have hk : k = 4 := by
   rw [Bool.or_eq_false_iff] at h;simpa using h.2
  rw [if_pos hk];refine ⟨fun h=>?_,fun h=>?_⟩ <;> subst h <;> exact fun H w hs=>⟨rfl,fin hs⟩
theorem jAK (o:Sp.Op):Calls prog 65 #[.pointer (some c),opv o] w0 (DoPost p F w0 (Sp.vC L M o)):=by
 obtain ⟨co,oa,ob,on,ox⟩:=o;refine w_X2 _ _ _ _ _ _ w0 (fun r1 r2 w'=>(r1,r2)=((Sp.vC L M ⟨co,oa,ob,on,ox⟩).1,(Sp.vC L M ⟨co,oa,ob,on,ox⟩).2.1)∧∃F',jL w' p (Sp.vC L M ⟨co,oa,ob,on,ox⟩).2.2 F'∧Ext F w0 w'∧∀b,F' b→F b∨w0.heap.size≤b) ?_;unfold m_X2;intro H1 w1 hs1;have E1:=hs1.first;refine (yI (hC.pure E1) (hP.pure E1) hok oa).mono ?_;rintro _ w2 ⟨k,f,t',u,x,a,b,r,rfl,⟨hn,hr⟩,E2⟩;refine ⟨_,_,_,_,_,_,_,_,rfl,E2.keptP,?_⟩;have fin:∀{H' w'},Hst w0 H1 w2 H' w'→∃F',jL w' p L F'∧Ext F w0 w'∧∀b,F' b→F b∨w0.heap.size≤b:=fun hs=>by
  have E:=(E1.trans E2).hst hs;exact ⟨F,hP.pure E,E.pure,fun b hb=>.inl hb⟩
 unfold Sp.vC;simp only;rw [← hn] at hr ⊢;have hsk:Sp.kL k=!((((k:Int) != 7) && ((k:Int) != 8)) && ((k:Int) != 9)):=by
  unfold Sp.kL;by_cases h7:k=7 <;> by_cases h8:k=8 <;> by_cases h9:k=9 <;> simp [bne,h7,h8,h9]
 refine ⟨fun h=>fun H w hs=>?_,fun h=>fun H w hs=>?_⟩
 ·rw [if_neg]
  ·exact ⟨rfl,fin hs⟩
  ·intro h4;simp only at h4;rw [hsk] at h4;have h4':((((k:Int) != 7) && ((k:Int) != 8)) && ((k:Int) != 9))=false:=by simpa only [Bool.not_eq_true'] using h4
   rw [h4',Bool.or_false] at h;have hrf:r=false:=by simpa using h
   have hz:=hr hrf;simp only [Sp.qW,Sp.Node.mk.injEq] at hz;rw [hz.1] at h4';revert h4';decide
 ·have hk : Sp.kL k = true := by
   rw [Bool.or_eq_false_iff] at h;rw [hsk,h.2];rfl
  rw [if_pos hk];exact ⟨rfl,fin hs⟩
theorem qJ (o:Sp.Op) (f1:FuncId) (fs cs:Array Value) (mk:Int→Int→Sp.Node) (hf:∀args w,(callFunc f1 args).run prog w=.ok (.enter f1 args) w)
  (how:∀(k a:Int) (w1:World),Pure w0 w1→Calls prog f1 (fs++#[.int .i64 k,.int .i64 a]++cs) w1 (MakePost p L F w1 (mk k a))) :
  Calls prog 67 #[.pointer (some c),opv o,.func (.func f1) fs cs] w0 (DoPost p F w0 (Sp.zG L M o mk)):=by
 obtain ⟨co,oa,ob,on,ox⟩:=o
 refine w_Y2 _ _ _ _ _ _ _ w0 (fun r1 r2 w'=>(r1,r2)=((Sp.zG L M ⟨co,oa,ob,on,ox⟩ mk).1,(Sp.zG L M ⟨co,oa,ob,on,ox⟩ mk).2.1)∧∃F',jL w' p (Sp.zG L M ⟨co,oa,ob,on,ox⟩ mk).2.2 F'∧Ext F w0 w'∧∀b,F' b→F b∨w0.heap.size≤b) ?_
 unfold m_Y2
 intro H1 w1 hs1
 have E1:=hs1.first
 refine (qK (hC.pure E1) oa).mono ?_
 rintro _ _ ⟨ra,oka,rfl,hra,rfl⟩
 refine ⟨_,_,rfl,Kept.refl _,?_⟩
 refine (yI (hC.pure E1) (hP.pure E1) hok ob).mono ?_
 rintro _ w2 ⟨k,f,t',u,x,a,b,r,rfl,⟨hn,hr⟩,E2⟩
 refine ⟨_,_,_,_,_,_,_,_,rfl,E2.keptP,?_⟩
 have fin:∀{H' w'},Hst w0 H1 w2 H' w'→∃F',jL w' p L F'∧Ext F w0 w'∧∀b,F' b→F b∨w0.heap.size≤b:=fun hs=>by
  have E:=(E1.trans E2).hst hs;exact ⟨F,hP.pure E,E.pure,fun b hb=>.inl hb⟩
 unfold Sp.zG
 simp only
 rw [← hn] at hr ⊢
 have hrk:k=6→r=true:=fun h6=>by
  cases r with
  | true=>rfl
  | false=>have:=hr rfl;simp only [Sp.qW,Sp.Node.mk.injEq] at this;omega
 cases ht:Sp.atM M oa with
 | none =>
  rw [ht] at hra;obtain ⟨rfl,rfl⟩:=hra
  exact Br.t (by simp) (fun H w hs=>⟨rfl,fin hs⟩)
 | some t =>
  rw [ht] at hra;obtain ⟨rfl,rfl⟩:=hra
  simp only
  refine ⟨fun h=>fun H w hs=>?_,fun h=>?_⟩
  ·rw [if_neg]
   ·exact ⟨rfl,fin hs⟩
   ·intro h6
    rw [hrk h6,h6] at h
    revert h;decide
  ·have hk : k = 6 := by
    rw [Bool.or_eq_false_iff] at h;simpa using h.2
   rw [if_pos hk]
   refine ⟨f1,fs,cs,rfl,fun H w hs=>⟨hf,?_⟩⟩
   have E:=(E1.trans E2).hst hs
   refine (how f ra w E).mono ?_
   rintro _ w9 ⟨r4,r5,rfl,h1,F',hP',X,hF'⟩
   exact ⟨r4,r5,rfl,X.kept (fun b hb hx=>by have:=hs.old b hb;have:=hP.lt hx;omega),h1,F',hP',(E.pure (F:=F)).trans X,fun b hb=>(hF' b hb).imp_right (fun h=>by have:=E.size;omega)⟩
end
end Go.Proofs
end
section
open Go Go.SE
open Go.IntKind renaming i64 → q6
namespace Go.Proofs
open Try
set_option maxRecDepth 100000
set_option maxHeartbeats 4000000
attribute [local irreducible] wpL wpX opE wpE Calls
def m_X_l1 (aE:Sl) (most1 n1 i1:Int) (w0:World) (Hl1:NP) (wl1:World) (Kc1:Int→Int→NP→WP) (K:Int→WP):Prop :=Br ((decide (i1<(aE.len:Int))) && (decide (n1≤most1))) (∃a1:Addr,At aE i1 6 a1∧∀H2 w2,Hst w0 Hl1 wl1 H2 w2→∃aN aO aP aQ aR aS,Row w2 a1 (Af aN aO aP aQ aR aS)∧Calls prog 13 #[(.agg #[(vi aN),(vi aO),(vi aP),(vu aQ),(vs aR),aS.v]),(vi (q6.wrap (most1 - n1)))] w2 (fun e w3=>∃r1,e=.returned (vi r1)∧Kept H2 w2 w3∧Kc1 (q6.wrap (n1+r1)) (q6.wrap (i1+1)) H2 w3)) (∀H2 w2,Hst w0 Hl1 wl1 H2 w2→K n1 w2)
def m_X (aD aG:Int) (aH aI:Int) (aJ:ByteArray) (aE:Sl) (most1:Int) (w0:World) (K:Int→WP):Prop :=∀H1 w1,Hst w0 None w0 H1 w1→∃(I1:Int→Int→NP→WP) (mu1:Int→Int→World→Nat),I1 1 0 H1 w1∧∀(n1 i1:Int) (Hl1:NP) (wl1:World),Hst w0 Hl1 wl1 Hl1 wl1→I1 n1 i1 Hl1 wl1→m_X_l1 aE most1 n1 i1 w0 Hl1 wl1 (fun y'0 y'1 H' w'=>I1 y'0 y'1 H' w'∧mu1 y'0 y'1 w'<mu1 n1 i1 wl1) K
theorem w_X (aD aG aH aI aJ aE most1 w0 K) (h:m_X aD aG aH aI aJ aE most1 w0 K):
  Calls prog 13 #[(.agg #[(vi aD),(vi aG),(vi aH),(vu aI),(vs aJ),aE.v]),(vi most1)] w0 (fun e w'=>∃r2,e=.returned (vi r2)∧K r2 w'):=by
 refine cw (args:=[(Ag aD aG aH aI aJ aE),(vi most1)]) func13 ntmps13 ?_
 obtain ⟨hs,hb⟩:=st0 w0
 refine eg (nw3 (Af aD aG aH aI aJ aE) 47 hs hb xb fun p1 w1 H1 hs hb=>q (ln (eg (q (ln (jA (eg (q (ln (jG ?_))))))))))
 have ⟨h,hs⟩:=hs.hr (h H1 w1)
 obtain ⟨I1,mu1,h0,hr⟩:=h
 refine zH (σ:=Int×Int×NP×World) (fun s ρ w=>w=s.2.2.2∧Has ρ [(1,(vi most1)),(2,(vp (some p1))),(5,(vi s.1)),(6,(vi s.2.1))]∧Hst w0 s.2.2.1 w s.2.2.1 w∧HB s.2.2.1 w [(p1,(Af aD aG aH aI aJ aE),47)]∧I1 s.1 s.2.1 s.2.2.1 s.2.2.2) (fun s=>mu1 s.1 s.2.1 s.2.2.2) (1,0,H1,w1) ⟨rfl,hm,hs,hb,h0⟩ ?_
 rintro ⟨n1,i1,Hl1,wl1⟩ ρ w ⟨hw,hH,hs,hb,hI⟩
 dsimp only at hw hH hs hb;subst w
 have h:=hr n1 i1 Hl1 wl1 hs hI
 refine jN hH (jA (jA (jZ (fun ρ wJ=>∃b1'0:Bool,∃HJ:NP,((decide (i1<(aE.len:Int)))=b1'0)∧Hst w0 Hl1 wl1 HJ wJ∧HB HJ wJ [(p1,(Af aD aG aH aI aJ aE),47)]∧Has ρ [(1,(vi most1)),(2,(vp (some p1))),(5,(vi n1)),(6,(vi i1)),(16,(vb (b1'0 && (decide (n1≤most1)))))]) ?_ ?_)))
 refine rg (qb (q3 (xl (isAgg22 _) (hb.d 0 5 gZ)) (qc ?_)))
 rcases bte (decide (i1<(aE.len:Int))) with hg2 | hg2
 refine qk 12 hg2 (qk 12 hg2 (qk 12 hg2 (q2 (vb (decide (n1≤most1))) (xT hg2) (ln ⟨true,_,hg2,hs,hb,hm⟩))))
 refine sj3 12 hg2 (q2 (vb false) (xF hg2) (ln ⟨false,_,hg2,hs,hb,hm⟩))
 rintro ρ w2 ⟨b1'0,H2,he0,hs,hb,hH⟩
 subst he0
 refine jP hH (jI (cbr h ?_ ?_))<;>intro h
 refine jC (jI (jA (jG (rg (qb (q3 (xl (isAgg22 _) (hb.d 0 5 gZ)) (q (qi (runUnderlying22 _) (sizeOf47 _) h fun a1 h=>?_))))))))
 have ⟨h,hs⟩:=hs.hr (h H2 w2)
 obtain ⟨aN,aO,aP,aQ,aR,aS,hv1,h⟩:=h
 refine qa (isAgg47 _) (sizeOf47 _) hv1 (qc (sc call13 (h.mono fun e w3 ⟨r1,k,hk,h⟩=>have ⟨hs,hb⟩:=hk.hh hs hb;⟨_,k,?_⟩)))
 refine qb (jB (qB (jI (rg (qc (ln ⟨((q6.wrap (n1+r1)),(q6.wrap (i1+1)),H2,w3),⟨rfl,hm,hs,hb,h.1⟩,h.2⟩))))))
 refine zB (vG (vG (kQ (jI (eg (q0 (vi n1) (q0 (vi n1) (ln (er ?_)))))))))
 have ⟨h,hs⟩:=hs.hr (h H2 w2)
 refine rs1 results13 ⟨n1,rfl,h⟩
def m_E3  (w0:World) (K:(Option Addr)→WP):Prop :=∀p1 w1,New w0 (.cells #[Sl.nil.v,Sl.nil.v,Sl.nil.v] 85) p1 w1→K (some p1) w1
theorem w_E3  (w0:World) (K:(Option Addr)→WP) (h:m_E3  w0 K) :
  Calls prog 16 #[] w0 (fun e w'=>∃r1,e=.returned (vp r1)∧K r1 w'):=by
 refine cw (args:=[]) func16 ntmps16 (eg (q0 (vp none) (ln (eg (q0 (.agg #[Sl.nil.v,Sl.nil.v,Sl.nil.v]) (sn (O:=(.cells #[Sl.nil.v,Sl.nil.v,Sl.nil.v] 85)) xb ?_))))))
 intro p1 w1 hn1
 have h:=h p1 w1 hn1
 refine q (ln (er (rs1 results16 ⟨(some p1),rfl,h⟩)))
def m_Y_l1 (aD aG:Int) (aH aI:Int) (aJ:ByteArray) (aE:Sl) (i1 aU:Int) (aV aW aX:Int) (aY:ByteArray) (aT:Sl) (w0:World) (Hl1:NP) (wl1:World) (Kc1:Int→Int→Int→Int→Int→ByteArray→Sl→NP→WP) (K:Int→Int→Int→Int→ByteArray→Sl→WP):Prop :=Br (decide (i1<(aE.len:Int))) (∃C1:WP,C1 wl1.drew∧∀w6,w6=wl1.drew→∃a1:Addr,At aE i1 6 a1∧∃aN aO aP aQ aR aS,(∀w',C1 w'→Row w' a1 (Af aN aO aP aQ aR aS))∧Calls prog 19 #[(.agg #[(vi aN),(vi aO),(vi aP),(vu aQ),(vs aR),aS.v])] w6 (fun e w7=>∃bB bC bD bE bF bG,e=.returned (Ag bB bC bD bE bF bG)∧C1 w7∧Kept Hl1 w6 w7∧∀p4 w8,New w7 (.cells #[(vi bB),(vi bC),(vi bD),(vu bE),(vs bF),bG.v] 47) p4 w8→C1 w8∧∃s1:Sl,∃w9:World,(Builtin.append_ #[22,22] 22 #[aT.v,(Sl.mk (some p4) 1 1).v]).run prog w8=.ok s1.v w9∧C1 w9∧Kept Hl1 w8 w9∧∀w10,Hst w0 Hl1 w9 Hl1 w10→Kc1 (q6.wrap (i1+1)) aU aV aW aX aY s1 Hl1 w10)) (∃C2:WP,C2 wl1.drew∧∀w11,w11=wl1.drew→∀p5 w12,New w11 (.cells #[(vi (-1)),(vi 0),(vi 0),(vu 0),ve,Sl.nil.v] 47) p5 w12→C2 w12∧∃s2:Sl,∃w13:World,(Builtin.append_ #[22,22] 22 #[aT.v,(Sl.mk (some p5) 1 1).v]).run prog w12=.ok s2.v w13∧C2 w13∧Kept Hl1 w12 w13∧∃s3:Sl,(∀w',C2 w'→(Instr.sliceAt 22 s2.v none (some (vi (aT.len:Int))) none).run prog w'=.ok s3.v w')∧∀w14,Hst w0 Hl1 w13 Hl1 w14→K aD aG aH aI aJ s3 w14)
def m_Y (aD aG:Int) (aH aI:Int) (aJ:ByteArray) (aE:Sl) (w0:World) (K:Int→Int→Int→Int→ByteArray→Sl→WP):Prop :=∀H3 w5,Hst w0 None w0 H3 w5→∃(I1:Int→Int→Int→Int→Int→ByteArray→Sl→NP→WP) (mu1:Int→Int→Int→Int→Int→ByteArray→Sl→World→Nat),I1 0 aD aG aH aI aJ Sl.nil H3 w5∧∀(i1 aU:Int) (aV aW aX:Int) (aY:ByteArray) (aT:Sl) (Hl1:NP) (wl1:World),Hst w0 Hl1 wl1 Hl1 wl1→I1 i1 aU aV aW aX aY aT Hl1 wl1→m_Y_l1 aD aG aH aI aJ aE i1 aU aV aW aX aY aT w0 Hl1 wl1 (fun y'0 y'1 y'2 y'3 y'4 y'5 y'6 H' w'=>I1 y'0 y'1 y'2 y'3 y'4 y'5 y'6 H' w'∧mu1 y'0 y'1 y'2 y'3 y'4 y'5 y'6 w'<mu1 i1 aU aV aW aX aY aT wl1) K
theorem w_Y (aD aG aH aI aJ aE w0 K) (h:m_Y aD aG aH aI aJ aE w0 K):
  Calls prog 19 #[(.agg #[(vi aD),(vi aG),(vi aH),(vu aI),(vs aJ),aE.v])] w0 (fun e w'=>∃bH bI bJ bK bL bM,e=.returned (Ag bH bI bJ bK bL bM)∧K bH bI bJ bK bL bM w'):=by
 refine cw (args:=[(Ag aD aG aH aI aJ aE)]) func19 ntmps19 ?_
 obtain ⟨hs,hb⟩:=st0 w0
 refine eg (nw3 (Af aD aG aH aI aJ aE) 47 hs hb xb fun p1 w1 H1 hs hb=>nw3 [(vi 0),(vi 0),(vi 0),(vu 0),ve,Sl.nil.v] 47 hs hb (jX (zeroValue47 _) rfl) fun p2 w2 H2 hs hb=>ln (eg (q2 (Ag aD aG aH aI aJ aE) (xa p1 (Af aD aG aH aI aJ aE) (isAgg47 _) (sizeOf47 _) (hb.r0 1 6 (gS gZ))) (nw3 [(vi 0),(vi 0),(vi 0),(vu 0),ve,Sl.nil.v] 47 hs hb (jX (zeroValue47 _) rfl) fun p3 w3 H3 hs hb=>sbx 0 (Af aD aG aH aI aJ aE) (sizeOf47 _) hs hb gZ fun w4 hs hb=>ln (eg (q (qE (jM rfl) (vJ (a:=(p3.add 5)) (v:=Sl.nil.v) (by kernel_rfl) (by kernel_rfl) rfl (sizeOf22 _) (hb.canW 0 5 gZ (by kernel_rfl))) ?_)))))))
 intro w5 hn5
 have hsb:Hst w0 None w0 H3 w5∧HB H3 w5 [(p3,[(vi aD),(vi aG),(vi aH),(vu aI),(vs aJ),Sl.nil.v],47),(p2,[(vi 0),(vi 0),(vi 0),(vu 0),ve,Sl.nil.v],47),(p1,(Af aD aG aH aI aJ aE),47)]:=by
  rw [hn5];exact hb.set (i:=0) 5 (v:=Sl.nil.v) hs gZ (by kernel_rfl)
 obtain ⟨hs,hb⟩:=hsb
 refine ln (jA (eg (q (ln (jG ?_)))))
 have ⟨h,hs⟩:=hs.hr (h H3 w5)
 obtain ⟨I1,mu1,h0,hr⟩:=h
 refine zH (σ:=Int×Int×Int×Int×Int×ByteArray×Sl×NP×World) (fun s ρ w=>w=s.2.2.2.2.2.2.2.2∧Has ρ [(1,(vp (some p1))),(2,(vp (some p2))),(3,(vp (some p3))),(4,(vi s.1))]∧Hst w0 s.2.2.2.2.2.2.2.1 w s.2.2.2.2.2.2.2.1 w∧HB s.2.2.2.2.2.2.2.1 w [(p3,[(vi s.2.1),(vi s.2.2.1),(vi s.2.2.2.1),(vu s.2.2.2.2.1),(vs s.2.2.2.2.2.1),s.2.2.2.2.2.2.1.v],47),(p2,[(vi 0),(vi 0),(vi 0),(vu 0),ve,Sl.nil.v],47),(p1,(Af aD aG aH aI aJ aE),47)]∧I1 s.1 s.2.1 s.2.2.1 s.2.2.2.1 s.2.2.2.2.1 s.2.2.2.2.2.1 s.2.2.2.2.2.2.1 s.2.2.2.2.2.2.2.1 s.2.2.2.2.2.2.2.2) (fun s=>mu1 s.1 s.2.1 s.2.2.1 s.2.2.2.1 s.2.2.2.2.1 s.2.2.2.2.2.1 s.2.2.2.2.2.2.1 s.2.2.2.2.2.2.2.2) (0,aD,aG,aH,aI,aJ,Sl.nil,H3,w5) ⟨rfl,hm,hs,hb,h0⟩ ?_
 rintro ⟨i1,aU,aV,aW,aX,aY,aT,Hl1,wl1⟩ ρ w ⟨hw,hH,hs,hb,hI⟩
 dsimp only at hw hH hs hb;subst w
 have h:=hr i1 aU aV aW aX aY aT Hl1 wl1 hs hI
 refine jN hH (jA (eg (qb (q3 (xl (isAgg22 _) (hb.d 2 5 (gS (gS gZ)))) (qb (ln (cbr h ?_ ?_)))))))<;>intro h
 refine jC (jI (jA (jG ?_)))
 obtain ⟨C1,hC,h⟩:=h
 refine dr2 (fun x=>C1 x∧HB Hl1 x _) [7,8,9,11] [11] ⟨hC,hb.drew⟩ h hs hb fun w6 hs hb h=>?_
 have hs:=hs.here
 refine qx 0 (vp (some (p3.add 5))) Kp0 (qz 1 aT.v Kp1 (fun w' hw'=>(xl (isAgg22 _) (hw'.2.cell 0 5 gZ (by kernel_rfl)))) (qx 2 (vp (some (p1.add 5))) Kp2 (qz 3 aE.v Kp3 (fun w' hw'=>(xl (isAgg22 _) (hw'.2.cell 2 5 (gS (gS gZ)) (by kernel_rfl)))) (qx 4 (vi i1) Kp4 (qg 5 ?_)))))
 obtain ⟨a1,hv3,h⟩:=h
 refine sy Kp5 (fun _ _=>xi (runUnderlying22 _) (sizeOf47 _) hv3) (qg 6 ?_)
 obtain ⟨aN,aO,aP,aQ,aR,aS,hv2,h⟩:=h
 refine sy (v:=(Ag aN aO aP aQ aR aS)) Kp6 (fun w' hw'=>(xa a1 (Af aN aO aP aQ aR aS) (isAgg47 _) (sizeOf47 _) (hv2 w' hw'.1))) (lg 7 (slc Kp7 call19 (h.mono ?_)))
 rintro e w7 ⟨bB,bC,bD,bE,bF,bG,rfl,hC,hk,h⟩
 refine ⟨_,rfl,.inr ⟨hC,hb.kept hk⟩,?_⟩
 obtain ⟨hs,hb⟩:=hk.hh hs hb
 refine lg 8 (qU (O:=(.cells #[(vi bB),(vi bC),(vi bD),(vu bE),(vs bF),bG.v] 47)) (fun p=>(Sl.mk (some p) 1 1).v) Kp8 (jM rfl) (by kernel_rfl) (zA (vs:=#[(0,(Ag bB bC bD bE bF bG))]) (by kernel_rfl) (by kernel_rfl)) ?_)
 intro p4 w8 hn7
 have h:=h p4 w8 hn7
 refine ⟨.inr ⟨h.1,hb.kept (Ext.new (F:=None) hn7).keptP⟩,?_⟩
 have h:=h.2
 obtain ⟨hs,hb⟩:=hs.nw hb hn7
 refine lg 9 ?_
 obtain ⟨s1,w9,hv1,hC,hk,h⟩:=h
 refine sl (v:=s1.v) Kp9 (jM rfl) (by kernel_rfl) (zD (args:=#[aT.v,(Sl.mk (some p4) 1 1).v]) (by kernel_rfl) (fun _=>rfl) hv1) (.inr ⟨hC,hb.kept hk⟩) ?_
 obtain ⟨hs,hb⟩:=hk.hh hs hb
 refine qx 10 (vp (some (p3.add 5))) (jT (S8 (jH (jH jS)))) (lg 11 (sl_t (jT (S8 (jH (jH (jH jS))))) (xs (v:=s1.v) (sizeOf22 _) (hb.canW 0 5 gZ (by kernel_rfl))) ?_))
 intro w10 hn6
 have hsb:Hst w0 Hl1 w9 Hl1 w10∧HB Hl1 w10 [(p3,(Af aU aV aW aX aY s1),47),(p2,[(vi 0),(vi 0),(vi 0),(vu 0),ve,Sl.nil.v],47),(p1,(Af aD aG aH aI aJ aE),47)]:=by
  rw [hn6];exact hb.set (i:=0) 5 (v:=s1.v) hs gZ (by kernel_rfl)
 obtain ⟨hs,hb⟩:=hsb
 refine ⟨.inl (by kernel_rfl),?_⟩
 refine wn (qB (jI (rg (qc (jB ?_)))))
 have ⟨h,hs⟩:=hs.hr (h w10)
 refine jI ⟨((q6.wrap (i1+1)),aU,aV,aW,aX,aY,s1,Hl1,w10),⟨rfl,hm,hs,hb,h.1⟩,h.2⟩
 refine zB (vG (vG (kQ (jI (eg (q0 (vp (some (p3.add 5))) (q2 aT.v (xl (isAgg22 _) (hb.c 0 5 gZ)) (q0 (vi (aT.len:Int)) (q0 (vi (aT.len:Int)) (jB (jI (jA ?_))))))))))))
 obtain ⟨C2,hC,h⟩:=h
 refine dr2 (fun x=>C2 x∧HB Hl1 x _) [13,14,18] [18] ⟨hC,hb.drew⟩ h hs hb fun w11 hs hb h=>?_
 have hs:=hs.here
 refine qx 0 (vp (some p1)) Kp0 (qz 1 (vi aD) Kp1 (fun w' hw'=>(xl (isAgg3 _) (hw'.2.cell0 2 (gS (gS gZ)) (by kernel_rfl)))) (qx 2 (vp (some (p1.add 1))) Kp2 (qz 3 (vi aG) Kp3 (fun w' hw'=>(xl (isAgg3 _) (hw'.2.cell 2 1 (gS (gS gZ)) (by kernel_rfl)))) (qx 4 (vp (some (p1.add 2))) Kp4 (qz 5 (vi aH) Kp5 (fun w' hw'=>(xl (isAgg3 _) (hw'.2.cell 2 2 (gS (gS gZ)) (by kernel_rfl)))) (qx 6 (vp (some (p1.add 3))) Kp6 (qz 7 (vu aI) Kp7 (fun w' hw'=>(xl (isAgg45 _) (hw'.2.cell 2 3 (gS (gS gZ)) (by kernel_rfl)))) (qx 8 (vp (some (p1.add 4))) Kp8 (qz 9 (vs aJ) Kp9 (fun w' hw'=>(xl (isAgg9 _) (hw'.2.cell 2 4 (gS (gS gZ)) (by kernel_rfl)))) (qx 10 (vp (some (p3.add 5))) (jT (S8 (jH (jH jS)))) (qz 11 aT.v (jT (S8 (jH (jH (jH jS))))) (fun w' hw'=>(xl (isAgg22 _) (hw'.2.cell 0 5 gZ (by kernel_rfl)))) (qx 12 (.agg #[(vi (-1)),(vi 0),(vi 0),(vu 0),ve,Sl.nil.v]) (jT (S8 (S4 jS))) (qx 15 (vi (aT.len:Int)) (jT (S8 (S4 (jH (jH (jH jS)))))) (lg 13 (qU (O:=(.cells #[(vi (-1)),(vi 0),(vi 0),(vu 0),ve,Sl.nil.v] 47)) (fun p=>(Sl.mk (some p) 1 1).v) (jT (S8 (S4 (jH jS)))) (jM rfl) (by kernel_rfl) (zA (vs:=#[(0,(.agg #[(vi (-1)),(vi 0),(vi 0),(vu 0),ve,Sl.nil.v]))]) (by kernel_rfl) (by kernel_rfl)) ?_)))))))))))))))
 intro p5 w12 hn9
 have h:=h p5 w12 hn9
 refine ⟨.inr ⟨h.1,hb.kept (Ext.new (F:=None) hn9).keptP⟩,?_⟩
 have h:=h.2
 obtain ⟨hs,hb⟩:=hs.nw hb hn9
 refine lg 14 ?_
 obtain ⟨s2,w13,hv5,hC,hk,h⟩:=h
 refine sl (v:=s2.v) (jT (S8 (S4 (jH (jH jS))))) (jM rfl) (by kernel_rfl) (zD (args:=#[aT.v,(Sl.mk (some p5) 1 1).v]) (by kernel_rfl) (fun _=>rfl) hv5) (.inr ⟨hC,hb.kept hk⟩) ?_
 obtain ⟨hs,hb⟩:=hk.hh hs hb
 refine qg 16 ?_
 obtain ⟨s3,hv4,h⟩:=h
 refine sy (v:=s3.v) (jT (S8 (S8 jS))) (fun w' hw'=>(qY (by kernel_rfl) (by kernel_rfl) (by kernel_rfl) (by kernel_rfl) (hv4 w' hw'.1))) (qx 17 (Ag aD aG aH aI aJ s3) (jT (S8 (S8 (jH jS)))) (lg 18 (jBR (jT (S8 (S8 (jH (jH jS))))) (jM rfl) (by kernel_rfl) (xo p2 (Af aD aG aH aI aJ s3) (sizeOf47 _) (hb.k0 1 6 (gS gZ))) ?_)))
 intro w14 hn8
 obtain ⟨hs,hb⟩:=hb.st1 1 hs hn8 (gS gZ)
 refine ⟨.inl (by kernel_rfl),?_⟩
 refine wn (jI (er ?_))
 have ⟨h,hs⟩:=hs.hr (h w14)
 refine resG (.inl rfl) (vs:=[(Ag aD aG aH aI aJ s3)]) (v:=(Ag aD aG aH aI aJ s3)) results19 ⟨(rva (isAgg47 _) (sizeOf47 _) (hb.r0 1 6 (gS gZ))),trivial⟩ (by kernel_rfl) ⟨aD,aG,aH,aI,aJ,s3,rfl,h⟩
def s_S (aD aG:Int) (aH aI:Int) (aJ:ByteArray) (aE:Sl):Int×Int×Int×Int×ByteArray×Int×Int :=(aD,aG,aH,aI,aJ,0,0)
theorem pw_S (aD aG:Int) (aH aI:Int) (aJ:ByteArray) (aE:Sl) (w0:World) :
  Calls prog 45 #[(.agg #[(vi aD),(vi aG),(vi aH),(vu aI),(vs aJ),aE.v])] w0 (fun e w'=>(e=.returned (Ab aD aG aH aI aJ 0 0))∧Pure w0 w'):=by
 refine cw (args:=[(Ag aD aG aH aI aJ aE)]) func45 ntmps45 ?_
 obtain ⟨hs,hb⟩:=st0 w0
 refine eg (nw3 (Af aD aG aH aI aJ aE) 47 hs hb xb fun p1 w1 H1 hs hb=>nw3 (Ak 0 0 0 0 0 0) 51 hs hb (jX (zeroValue51 _) rfl) fun p2 w2 H2 hs hb=>ln (eg (q (q3 (xl (isAgg3 _) (hb.d0 1 (gS gZ))) (q (q3 (xl (isAgg3 _) (hb.d 1 1 (gS gZ))) (q (q3 (xl (isAgg3 _) (hb.d 1 2 (gS gZ))) (q (q3 (xl (isAgg45 _) (hb.d 1 3 (gS gZ))) (q (q3 (xl (isAgg9 _) (hb.d 1 4 (gS gZ))) (q (qE (jM rfl) (xo p2 (Aa aD aG aH aI aJ 0 0) (sizeOf51 _) (hb.k0 0 7 gZ)) ?_))))))))))))))
 intro w3 hn3
 obtain ⟨hs,hb⟩:=hb.st1 0 hs hn3 gZ
 refine ln (er (resG (.inl rfl) (vs:=[(Ab aD aG aH aI aJ 0 0)]) (v:=(Ab aD aG aH aI aJ 0 0)) results45 ⟨(rva (isAgg51 _) (sizeOf51 _) (hb.r0 0 7 gZ)),trivial⟩ (by kernel_rfl) ⟨by kernel_rfl,(Ext.refl (F:=None) _).hst hs⟩))
theorem p_S (aD aG:Int) (aH aI:Int) (aJ:ByteArray) (aE:Sl) (w0:World):Calls prog 45 #[(.agg #[(.int .i64 aD),(.int .i64 aG),(.int .i64 aH),(.int .u64 aI),(.string aJ),aE.v])] w0 (fun e w'=>e=.returned (.agg #[(.int .i64 (s_S aD aG aH aI aJ aE).1),(.int .i64 (s_S aD aG aH aI aJ aE).2.1),(.int .i64 (s_S aD aG aH aI aJ aE).2.2.1),(.int .u64 (s_S aD aG aH aI aJ aE).2.2.2.1),(.string (s_S aD aG aH aI aJ aE).2.2.2.2.1),(.int .i64 (s_S aD aG aH aI aJ aE).2.2.2.2.2.1),(.int .i64 (s_S aD aG aH aI aJ aE).2.2.2.2.2.2)])∧Pure w0 w'):=pw_S aD aG aH aI aJ aE w0
def s_I1 (kind1:Int):Bool :=((kind1 == 8) || (kind1 == 9))
theorem pw_I1 (kind1:Int) (w0:World) :
  Calls prog 92 #[(vi kind1)] w0 (fun e w'=>(e=.returned (vb ((kind1 == 8) || (kind1 == 9))))∧Pure w0 w'):=by
 refine cw (args:=[(vi kind1)]) func92 ntmps92 (eg (q0 (vb false) (ln (jA ?_))))
 refine jZ (fun ρ wJ=>w0=wJ∧Has ρ [(2,(vb ((kind1 == 8) || (kind1 == 9))))]) ?_ ?_
 refine rg (qc (jE 3 (fun ρ wJ=>∃b3'0:Bool,((kind1 == 8)=b3'0)∧w0=wJ∧Has ρ [(8,(vb (b3'0 || (kind1 == 9))))]) ?_ ?_))
 rintro ρ w3 ⟨b3'0,he0,hw,hH⟩
 subst he0
 subst hw
 refine jJ hH (q (ln ⟨rfl,hm⟩))
 rcases bte (kind1 == 8) with hg4 | hg4
 refine sj2 5 hg4 (q2 (vb true) (xT hg4) (jB ⟨true,hg4,rfl,hm⟩))
 refine qk 5 hg4 (qk 5 hg4 (q2 (vb (kind1 == 9)) (xF hg4) (jB ⟨false,hg4,rfl,hm⟩)))
 rintro ρ w2 ⟨hw,hH⟩
 subst hw
 refine jP hH (jI (er (rs1 results92 (v:=(vb ((kind1 == 8) || (kind1 == 9)))) ⟨by kernel_rfl,Ext.refl _⟩)))
theorem p_I1 (kind1:Int) (w0:World):Calls prog 92 #[(.int .i64 kind1)] w0 (fun e w'=>e=.returned (.bool (s_I1 kind1))∧Pure w0 w'):=pw_I1 kind1 w0
def s_C (kind1:Int):Bool :=((((kind1 == 1) || (kind1 == 6)) || (kind1 == 7)) || ((kind1 == 8) || (kind1 == 9)))
theorem pw_C (kind1:Int) (w0:World) :
  Calls prog 90 #[(vi kind1)] w0 (fun e w'=>(e=.returned (vb ((((kind1 == 1) || (kind1 == 6)) || (kind1 == 7)) || ((kind1 == 8) || (kind1 == 9)))))∧Pure w0 w'):=by
 refine cw (args:=[(vi kind1)]) func90 ntmps90 ?_
 obtain ⟨hs,hb⟩:=st0 w0
 refine eg (q (ln (jA (jZ (fun ρ wJ=>∃HJ:NP,Hst w0 None w0 HJ wJ∧HB HJ wJ []∧Has ρ [(2,(vb ((((kind1 == 1) || (kind1 == 6)) || (kind1 == 7)) || ((kind1 == 8) || (kind1 == 9)))))]) ?_ ?_))))
 refine rg (qc (jE 3 (fun ρ wJ=>∃b5'0:Bool,∃HJ:NP,((kind1 == 1)=b5'0)∧Hst w0 None w0 HJ wJ∧HB HJ wJ []∧Has ρ [(0,(vi kind1)),(8,(vb (b5'0 || (kind1 == 6))))]) ?_ ?_))
 rintro ρ w7 ⟨b5'0,H5,he0,hs,hb,hH⟩
 subst he0
 refine jJ hH (q (jE 3 (fun ρ wJ=>∃b6'0:Bool,∃HJ:NP,(((kind1 == 1) || (kind1 == 6))=b6'0)∧Hst w0 None w0 HJ wJ∧HB HJ wJ []∧Has ρ [(0,(vi kind1)),(12,(vb (b6'0 || (kind1 == 7))))]) ?_ ?_))
 rintro ρ w8 ⟨b6'0,H6,he0,hs,hb,hH⟩
 subst he0
 refine jJ hH (q (jE 3 (fun ρ wJ=>∃b7'0:Bool,∃HJ:NP,((((kind1 == 1) || (kind1 == 6)) || (kind1 == 7))=b7'0)∧Hst w0 None w0 HJ wJ∧HB HJ wJ []∧Has ρ [(16,(vb (b7'0 || ((kind1 == 8) || (kind1 == 9)))))]) ?_ ?_))
 rintro ρ w10 ⟨b7'0,H7,he0,hs,hb,hH⟩
 subst he0
 refine jJ hH (q (ln ⟨_,hs,hb,hm⟩))
 rcases bte (((kind1 == 1) || (kind1 == 6)) || (kind1 == 7)) with hg12 | hg12
 refine sj2 13 hg12 (q2 (vb true) (xT hg12) (jB ⟨true,_,hg12,hs,hb,hm⟩))
 refine qk 13 hg12 (zK (wy 13 hg12) (xc call92) ((p_I1 kind1 w8).mono ?_))
 rintro e w11 ⟨he,hE⟩
 refine ⟨_,he,?_⟩
 obtain ⟨hs,hb⟩:=hs.pp hb hE
 refine q2 (vb ((kind1 == 8) || (kind1 == 9))) (xF hg12) (jB ⟨false,_,hg12,hs,hb,hm⟩)
 rcases bte ((kind1 == 1) || (kind1 == 6)) with hg10 | hg10
 refine sj2 9 hg10 (q2 (vb true) (xT hg10) (jB ⟨true,_,hg10,hs,hb,hm⟩))
 refine qk 9 hg10 (qk 9 hg10 (q2 (vb (kind1 == 7)) (xF hg10) (jB ⟨false,_,hg10,hs,hb,hm⟩)))
 rcases bte (kind1 == 1) with hg8 | hg8
 refine sj2 5 hg8 (q2 (vb true) (xT hg8) (jB ⟨true,_,hg8,hs,hb,hm⟩))
 refine qk 5 hg8 (qk 5 hg8 (q2 (vb (kind1 == 6)) (xF hg8) (jB ⟨false,_,hg8,hs,hb,hm⟩)))
 rintro ρ w6 ⟨H4,hs,hb,hH⟩
 refine jP hH (jI (er (rs1 results90 (v:=(vb ((((kind1 == 1) || (kind1 == 6)) || (kind1 == 7)) || ((kind1 == 8) || (kind1 == 9))))) ⟨by kernel_rfl,(Ext.refl (F:=None) _).hst hs⟩)))
theorem p_C (kind1:Int) (w0:World):Calls prog 90 #[(.int .i64 kind1)] w0 (fun e w'=>e=.returned (.bool (s_C kind1))∧Pure w0 w'):=pw_C kind1 w0
def s_B (kind1:Int):Int :=(cond (kind1 == 4) 2 (cond (cond (kind1 == 5) (kind1 == 5) (cond (kind1 == 7) (kind1 == 7) (cond (kind1 == 8) (kind1 == 8) (kind1 == 9)))) 1 0))
theorem pw_B (kind1:Int) (w0:World) :
  Calls prog 80 #[(vi kind1)] w0 (fun e w'=>∃b'0 b'1:Bool,((kind1 == 4)=b'0∧(cond (kind1 == 5) (kind1 == 5) (cond (kind1 == 7) (kind1 == 7) (cond (kind1 == 8) (kind1 == 8) (kind1 == 9))))=b'1)∧(e=.returned (vi (cond b'0 2 (cond b'1 1 0))))∧Pure w0 w'):=by
 refine cw (args:=[(vi kind1)]) func80 ntmps80 (eg (q0 (vi 0) (ln (jA (eg (q0 (vi kind1) (ln ?_)))))))
 refine jG (eg (qb (ln (zF (t:=(kind1 == 4)) (by kernel_rfl) (fun hc1=>?_) (fun hc1=>?_)))))
 refine eg (q (ln (er (qX (zI (rs1 results80 (v:=(vi 2)) ⟨true,_,⟨hc1,rfl⟩,by kernel_rfl,Ext.refl _⟩))))))
 refine jA (eg (qb (ln (jZ (fun ρ wJ=>∃b1'0 b1'1 b1'2:Bool,((kind1 == 5)=b1'0)∧((kind1 == 7)=b1'1)∧((kind1 == 8)=b1'2)∧w0=wJ∧Has ρ [(6,(vb (cond b1'0 (kind1 == 5) (cond b1'1 (kind1 == 7) (cond b1'2 (kind1 == 8) (kind1 == 9))))))]) ?_ ?_))))
 refine zF (t:=(kind1 == 5)) (by kernel_rfl) (fun hc5=>?_) (fun hc5=>?_)
 refine jC (jI ⟨true,_,_,hc5,rfl,rfl,rfl,hm⟩)
 refine eg (qb (ln (zF (t:=(kind1 == 7)) (by kernel_rfl) (fun hc6=>?_) (fun hc6=>?_))))
 refine jC (jI ⟨false,true,_,hc5,hc6,rfl,rfl,hm⟩)
 refine eg (qb (ln (zF (t:=(kind1 == 8)) (by kernel_rfl) (fun hc7=>?_) (fun hc7=>?_))))
 refine jC (jI ⟨false,false,true,hc5,hc6,hc7,rfl,hm⟩)
 refine rg (qb (ln ⟨false,false,false,hc5,hc6,hc7,rfl,hm⟩))
 rintro ρ w1 ⟨b1'0,b1'1,b1'2,he0,he1,he2,hw,hH⟩
 subst he0
 subst he1
 subst he2
 subst hw
 refine jP hH (jI (zF (t:=(cond (kind1 == 5) (kind1 == 5) (cond (kind1 == 7) (kind1 == 7) (cond (kind1 == 8) (kind1 == 8) (kind1 == 9))))) (by kernel_rfl) (fun hc8=>?_) (fun hc8=>?_)))
 refine eg (q (ln (er (qX (zI (rs1 results80 (v:=(vi 1)) ⟨false,true,⟨hc1,hc8⟩,by kernel_rfl,Ext.refl _⟩))))))
 refine jC (qB (jI (eg (q (ln (er (rs1 results80 (v:=(vi 0)) ⟨false,false,⟨hc1,hc8⟩,by kernel_rfl,Ext.refl _⟩)))))))
theorem p_B (kind1:Int) (w0:World):Calls prog 80 #[(.int .i64 kind1)] w0 (fun e w'=>e=.returned (.int .i64 (s_B kind1))∧Pure w0 w'):=by
 refine (pw_B kind1 w0).mono ?_;rintro e w' ⟨b'0,b'1,⟨e0,e1⟩,h,E⟩;subst e0;subst e1;exact ⟨h,E⟩
def s_T (aA aB:Int) (aC aK:Int) (aF:ByteArray) (aL aM:Int):Bool :=(!((decide (aA<1)) || (decide (aA>9))) && (((((((s_C aA) || (aB == 0)) && (((aA == 8) || (aA == 9)) || (aC == 0))) && ((aA == 2) || (aK == 0))) && ((aA == 3) || (decide (aF=⟨#[]⟩)))) && ((decide ((s_B aA)≥1)) || (aL == 0))) && ((((s_B aA):Int) == 2) || (aM == 0))))
theorem pw_T (aA aB:Int) (aC aK:Int) (aF:ByteArray) (aL aM:Int) (w0:World) :
  Calls prog 89 #[(.agg #[(vi aA),(vi aB),(vi aC),(vu aK),(vs aF),(vi aL),(vi aM)])] w0 (fun e w'=>∃b'0:Bool,(((decide (aA<1)) || (decide (aA>9)))=b'0)∧(e=.returned (vb (!b'0 && (((((((s_C aA) || (aB == 0)) && (((aA == 8) || (aA == 9)) || (aC == 0))) && ((aA == 2) || (aK == 0))) && ((aA == 3) || (decide (aF=⟨#[]⟩)))) && ((decide ((s_B aA)≥1)) || (aL == 0))) && ((((s_B aA):Int) == 2) || (aM == 0))))))∧Pure w0 w'):=by
 refine cw (args:=[(Ab aA aB aC aK aF aL aM)]) func89 ntmps89 ?_
 obtain ⟨hs,hb⟩:=st0 w0
 refine eg (nw3 (Aa aA aB aC aK aF aL aM) 51 hs hb xb fun p1 w1 H1 hs hb=>q (ln (jA (jA (jZ (fun ρ wJ=>∃b1'0:Bool,∃HJ:NP,((decide (aA<1))=b1'0)∧Hst w0 None w0 HJ wJ∧HB HJ wJ [(p1,(Aa aA aB aC aK aF aL aM),51)]∧Has ρ [(1,(vp (some p1))),(10,(vb (b1'0 || (decide (aA>9)))))]) ?_ ?_)))))
 refine rg (q (q3 (xl (isAgg3 _) (hb.d0 0 gZ)) (qb ?_)))
 rcases bte (decide (aA<1)) with hg2 | hg2
 refine sj3 6 hg2 (q2 (vb true) (xT hg2) (ln ⟨true,_,hg2,hs,hb,hm⟩))
 refine qk 6 hg2 (q4 6 hg2 (xl (isAgg3 _) (hb.d0 0 gZ)) (qk 6 hg2 (q2 (vb (decide (aA>9))) (xF hg2) (ln ⟨false,_,hg2,hs,hb,hm⟩))))
 rintro ρ w2 ⟨b1'0,H2,he0,hs,hb,hH⟩
 subst he0
 refine jP hH (jI (zF (t:=((decide (aA<1)) || (decide (aA>9)))) (by kernel_rfl) (fun hc1=>?_) (fun hc1=>?_)))
 refine eg (q (ln (er (zI (rs1 results89 (v:=(vb false)) ⟨true,hc1,by kernel_rfl,(Ext.refl (F:=None) _).hst hs⟩)))))
 refine jC (jI (jA (jZ (fun ρ wJ=>∃HJ:NP,Hst w0 None w0 HJ wJ∧HB HJ wJ [(p1,(Aa aA aB aC aK aF aL aM),51)]∧Has ρ [(2,(vb (((((((s_C aA) || (aB == 0)) && (((aA == 8) || (aA == 9)) || (aC == 0))) && ((aA == 2) || (aK == 0))) && ((aA == 3) || (decide (aF=⟨#[]⟩)))) && ((decide ((s_B aA)≥1)) || (aL == 0))) && ((((s_B aA):Int) == 2) || (aM == 0)))))]) ?_ ?_)))
 refine rg (q (q3 (xl (isAgg3 _) (hb.d0 0 gZ)) (sc call90 ((p_C aA w2).mono ?_))))
 rintro e w27 ⟨he,hE⟩
 refine ⟨_,he,?_⟩
 obtain ⟨hs,hb⟩:=hs.pp hb hE
 refine q (jE 4 (fun ρ wJ=>∃b19'0:Bool,∃HJ:NP,((s_C aA)=b19'0)∧Hst w0 None w0 HJ wJ∧HB HJ wJ [(p1,(Aa aA aB aC aK aF aL aM),51)]∧Has ρ [(1,(vp (some p1))),(18,(vb (b19'0 || (aB == 0))))]) ?_ ?_)
 rintro ρ w28 ⟨b19'0,H20,he0,hs,hb,hH⟩
 subst he0
 refine jJ hH (q (jE 9 (fun ρ wJ=>∃b21'0:Bool,∃HJ:NP,(((s_C aA) || (aB == 0))=b21'0)∧Hst w0 None w0 HJ wJ∧HB HJ wJ [(p1,(Aa aA aB aC aK aF aL aM),51)]∧Has ρ [(1,(vp (some p1))),(28,(vb (b21'0 && (((aA == 8) || (aA == 9)) || (aC == 0)))))]) ?_ ?_))
 rintro ρ w31 ⟨b21'0,H22,he0,hs,hb,hH⟩
 subst he0
 refine jJ hH (q (jE 9 (fun ρ wJ=>∃b24'0:Bool,∃HJ:NP,((((s_C aA) || (aB == 0)) && (((aA == 8) || (aA == 9)) || (aC == 0)))=b24'0)∧Hst w0 None w0 HJ wJ∧HB HJ wJ [(p1,(Aa aA aB aC aK aF aL aM),51)]∧Has ρ [(1,(vp (some p1))),(38,(vb (b24'0 && ((aA == 2) || (aK == 0)))))]) ?_ ?_))
 rintro ρ w35 ⟨b24'0,H25,he0,hs,hb,hH⟩
 subst he0
 refine jJ hH (q (jE 9 (fun ρ wJ=>∃b27'0:Bool,∃HJ:NP,(((((s_C aA) || (aB == 0)) && (((aA == 8) || (aA == 9)) || (aC == 0))) && ((aA == 2) || (aK == 0)))=b27'0)∧Hst w0 None w0 HJ wJ∧HB HJ wJ [(p1,(Aa aA aB aC aK aF aL aM),51)]∧Has ρ [(1,(vp (some p1))),(48,(vb (b27'0 && ((aA == 3) || (decide (aF=⟨#[]⟩))))))]) ?_ ?_))
 rintro ρ w38 ⟨b27'0,H28,he0,hs,hb,hH⟩
 subst he0
 refine jJ hH (q (jE 10 (fun ρ wJ=>∃b30'0:Bool,∃HJ:NP,((((((s_C aA) || (aB == 0)) && (((aA == 8) || (aA == 9)) || (aC == 0))) && ((aA == 2) || (aK == 0))) && ((aA == 3) || (decide (aF=⟨#[]⟩))))=b30'0)∧Hst w0 None w0 HJ wJ∧HB HJ wJ [(p1,(Aa aA aB aC aK aF aL aM),51)]∧Has ρ [(1,(vp (some p1))),(59,(vb (b30'0 && ((decide ((s_B aA)≥1)) || (aL == 0)))))]) ?_ ?_))
 rintro ρ w42 ⟨b30'0,H31,he0,hs,hb,hH⟩
 subst he0
 refine jJ hH (q (jE 10 (fun ρ wJ=>∃b33'0:Bool,∃HJ:NP,(((((((s_C aA) || (aB == 0)) && (((aA == 8) || (aA == 9)) || (aC == 0))) && ((aA == 2) || (aK == 0))) && ((aA == 3) || (decide (aF=⟨#[]⟩)))) && ((decide ((s_B aA)≥1)) || (aL == 0)))=b33'0)∧Hst w0 None w0 HJ wJ∧HB HJ wJ [(p1,(Aa aA aB aC aK aF aL aM),51)]∧Has ρ [(70,(vb (b33'0 && ((((s_B aA):Int) == 2) || (aM == 0)))))]) ?_ ?_))
 rintro ρ w47 ⟨b33'0,H34,he0,hs,hb,hH⟩
 subst he0
 refine jJ hH (q (ln ⟨_,hs,hb,hm⟩))
 rcases bte ((((((s_C aA) || (aB == 0)) && (((aA == 8) || (aA == 9)) || (aC == 0))) && ((aA == 2) || (aK == 0))) && ((aA == 3) || (decide (aF=⟨#[]⟩)))) && ((decide ((s_B aA)≥1)) || (aL == 0))) with hg64 | hg64
 refine qk 60 hg64 (q4 60 hg64 (xl (isAgg3 _) (hb.d0 0 gZ)) (zK (wy 60 hg64) (xc call80) ((p_B aA w42).mono ?_)))
 rintro e w48 ⟨he,hE⟩
 refine ⟨_,he,?_⟩
 obtain ⟨hs,hb⟩:=hs.pp hb hE
 refine qk 60 hg64 (qk 60 hg64 (jE 4 (fun ρ wJ=>∃b34'0:Bool,∃HJ:NP,((((s_B aA):Int) == 2)=b34'0)∧Hst w0 None w0 HJ wJ∧HB HJ wJ [(p1,(Aa aA aB aC aK aF aL aM),51)]∧Has ρ [(60,(vb ((((((s_C aA) || (aB == 0)) && (((aA == 8) || (aA == 9)) || (aC == 0))) && ((aA == 2) || (aK == 0))) && ((aA == 3) || (decide (aF=⟨#[]⟩)))) && ((decide ((s_B aA)≥1)) || (aL == 0))))),(69,(vb (b34'0 || (aM == 0))))]) ?_ ?_))
 rintro ρ w49 ⟨b34'0,H35,he0,hs,hb,hH⟩
 subst he0
 refine jJ hH (q2 (vb ((((s_B aA):Int) == 2) || (aM == 0))) (xT hg64) (jB ⟨true,_,hg64,hs,hb,hm⟩))
 rcases bte (((s_B aA):Int) == 2) with hg66 | hg66
 refine sj3 65 hg66 (stq (v:=(vb true)) (wy 60 hg64) (xT hg66) (jB ⟨true,_,hg66,hs,hb,hm⟩))
 refine qk 65 hg66 (q4 65 hg66 (xl (isAgg32 _) (hb.d 0 6 gZ)) (qk 65 hg66 (stq (v:=(vb (aM == 0))) (wy 60 hg64) (xF hg66) (jB ⟨false,_,hg66,hs,hb,hm⟩))))
 refine sj5 60 hg64 (sm (sm (sm (sj 60 hg64 (q2 (vb false) (xF hg64) (jB ⟨false,_,hg64,hs,hb,hm⟩))))))
 rcases bte (((((s_C aA) || (aB == 0)) && (((aA == 8) || (aA == 9)) || (aC == 0))) && ((aA == 2) || (aK == 0))) && ((aA == 3) || (decide (aF=⟨#[]⟩)))) with hg58 | hg58
 refine qk 49 hg58 (q4 49 hg58 (xl (isAgg3 _) (hb.d0 0 gZ)) (zK (wy 49 hg58) (xc call80) ((p_B aA w38).mono ?_)))
 rintro e w43 ⟨he,hE⟩
 refine ⟨_,he,?_⟩
 obtain ⟨hs,hb⟩:=hs.pp hb hE
 refine qk 49 hg58 (qk 49 hg58 (jE 4 (fun ρ wJ=>∃b31'0:Bool,∃HJ:NP,((decide ((s_B aA)≥1))=b31'0)∧Hst w0 None w0 HJ wJ∧HB HJ wJ [(p1,(Aa aA aB aC aK aF aL aM),51)]∧Has ρ [(1,(vp (some p1))),(49,(vb (((((s_C aA) || (aB == 0)) && (((aA == 8) || (aA == 9)) || (aC == 0))) && ((aA == 2) || (aK == 0))) && ((aA == 3) || (decide (aF=⟨#[]⟩)))))),(58,(vb (b31'0 || (aL == 0))))]) ?_ ?_))
 rintro ρ w44 ⟨b31'0,H32,he0,hs,hb,hH⟩
 subst he0
 refine jJ hH (q2 (vb ((decide ((s_B aA)≥1)) || (aL == 0))) (xT hg58) (jB ⟨true,_,hg58,hs,hb,hm⟩))
 rcases bte (decide ((s_B aA)≥1)) with hg60 | hg60
 refine sj3 54 hg60 (stq (v:=(vb true)) (wy 49 hg58) (xT hg60) (jB ⟨true,_,hg60,hs,hb,hm⟩))
 refine qk 54 hg60 (q4 54 hg60 (xl (isAgg32 _) (hb.d 0 5 gZ)) (qk 54 hg60 (stq (v:=(vb (aL == 0))) (wy 49 hg58) (xF hg60) (jB ⟨false,_,hg60,hs,hb,hm⟩))))
 refine sj5 49 hg58 (sm (sm (sm (sj 49 hg58 (q2 (vb false) (xF hg58) (jB ⟨false,_,hg58,hs,hb,hm⟩))))))
 rcases bte ((((s_C aA) || (aB == 0)) && (((aA == 8) || (aA == 9)) || (aC == 0))) && ((aA == 2) || (aK == 0))) with hg52 | hg52
 refine qk 39 hg52 (q4 39 hg52 (xl (isAgg3 _) (hb.d0 0 gZ)) (qk 39 hg52 (qk 39 hg52 (jE 4 (fun ρ wJ=>∃b28'0:Bool,∃HJ:NP,((aA == 3)=b28'0)∧Hst w0 None w0 HJ wJ∧HB HJ wJ [(p1,(Aa aA aB aC aK aF aL aM),51)]∧Has ρ [(1,(vp (some p1))),(39,(vb ((((s_C aA) || (aB == 0)) && (((aA == 8) || (aA == 9)) || (aC == 0))) && ((aA == 2) || (aK == 0))))),(47,(vb (b28'0 || (decide (aF=⟨#[]⟩)))))]) ?_ ?_))))
 rintro ρ w39 ⟨b28'0,H29,he0,hs,hb,hH⟩
 subst he0
 refine jJ hH (q2 (vb ((aA == 3) || (decide (aF=⟨#[]⟩)))) (xT hg52) (jB ⟨true,_,hg52,hs,hb,hm⟩))
 rcases bte (aA == 3) with hg54 | hg54
 refine sj3 43 hg54 (stq (v:=(vb true)) (wy 39 hg52) (xT hg54) (jB ⟨true,_,hg54,hs,hb,hm⟩))
 refine qk 43 hg54 (q4 43 hg54 (xl (isAgg9 _) (hb.d 0 4 gZ)) (stq (v:=(vb (decide (aF=⟨#[]⟩)))) (wy 43 hg54) (jHB (by kernel_rfl) (by kernel_rfl)) (stq (v:=(vb (decide (aF=⟨#[]⟩)))) (wy 39 hg52) (xF hg54) (jB ⟨false,_,hg54,hs,hb,hm⟩))))
 refine sj4 39 hg52 (sm (sm (sm (sj 39 hg52 (q2 (vb false) (xF hg52) (jB ⟨false,_,hg52,hs,hb,hm⟩))))))
 rcases bte (((s_C aA) || (aB == 0)) && (((aA == 8) || (aA == 9)) || (aC == 0))) with hg46 | hg46
 refine qk 29 hg46 (q4 29 hg46 (xl (isAgg3 _) (hb.d0 0 gZ)) (qk 29 hg46 (qk 29 hg46 (jE 4 (fun ρ wJ=>∃b25'0:Bool,∃HJ:NP,((aA == 2)=b25'0)∧Hst w0 None w0 HJ wJ∧HB HJ wJ [(p1,(Aa aA aB aC aK aF aL aM),51)]∧Has ρ [(1,(vp (some p1))),(29,(vb (((s_C aA) || (aB == 0)) && (((aA == 8) || (aA == 9)) || (aC == 0))))),(37,(vb (b25'0 || (aK == 0))))]) ?_ ?_))))
 rintro ρ w36 ⟨b25'0,H26,he0,hs,hb,hH⟩
 subst he0
 refine jJ hH (q2 (vb ((aA == 2) || (aK == 0))) (xT hg46) (jB ⟨true,_,hg46,hs,hb,hm⟩))
 rcases bte (aA == 2) with hg48 | hg48
 refine sj3 33 hg48 (stq (v:=(vb true)) (wy 29 hg46) (xT hg48) (jB ⟨true,_,hg48,hs,hb,hm⟩))
 refine qk 33 hg48 (q4 33 hg48 (xl (isAgg45 _) (hb.d 0 3 gZ)) (qk 33 hg48 (stq (v:=(vb (aK == 0))) (wy 29 hg46) (xF hg48) (jB ⟨false,_,hg48,hs,hb,hm⟩))))
 refine sj4 29 hg46 (sm (sm (sm (sj 29 hg46 (q2 (vb false) (xF hg46) (jB ⟨false,_,hg46,hs,hb,hm⟩))))))
 rcases bte ((s_C aA) || (aB == 0)) with hg40 | hg40
 refine qk 19 hg40 (q4 19 hg40 (xl (isAgg3 _) (hb.d0 0 gZ)) (zK (wy 19 hg40) (xc call92) ((p_I1 aA w28).mono ?_)))
 rintro e w32 ⟨he,hE⟩
 refine ⟨_,he,?_⟩
 obtain ⟨hs,hb⟩:=hs.pp hb hE
 refine qk 19 hg40 (jE 4 (fun ρ wJ=>∃b22'0:Bool,∃HJ:NP,(((aA == 8) || (aA == 9))=b22'0)∧Hst w0 None w0 HJ wJ∧HB HJ wJ [(p1,(Aa aA aB aC aK aF aL aM),51)]∧Has ρ [(1,(vp (some p1))),(19,(vb ((s_C aA) || (aB == 0)))),(27,(vb (b22'0 || (aC == 0))))]) ?_ ?_)
 rintro ρ w33 ⟨b22'0,H23,he0,hs,hb,hH⟩
 subst he0
 refine jJ hH (q2 (vb (((aA == 8) || (aA == 9)) || (aC == 0))) (xT hg40) (jB ⟨true,_,hg40,hs,hb,hm⟩))
 rcases bte ((aA == 8) || (aA == 9)) with hg42 | hg42
 refine sj3 23 hg42 (stq (v:=(vb true)) (wy 19 hg40) (xT hg42) (jB ⟨true,_,hg42,hs,hb,hm⟩))
 refine qk 23 hg42 (q4 23 hg42 (xl (isAgg3 _) (hb.d 0 2 gZ)) (qk 23 hg42 (stq (v:=(vb (aC == 0))) (wy 19 hg40) (xF hg42) (jB ⟨false,_,hg42,hs,hb,hm⟩))))
 refine sj4 19 hg40 (sm (sm (sm (sj 19 hg40 (q2 (vb false) (xF hg40) (jB ⟨false,_,hg40,hs,hb,hm⟩))))))
 rcases bte (s_C aA) with hg36 | hg36
 refine sj3 14 hg36 (q2 (vb true) (xT hg36) (jB ⟨true,_,hg36,hs,hb,hm⟩))
 refine qk 14 hg36 (q4 14 hg36 (xl (isAgg3 _) (hb.d 0 1 gZ)) (qk 14 hg36 (q2 (vb (aB == 0)) (xF hg36) (jB ⟨false,_,hg36,hs,hb,hm⟩))))
 rintro ρ w26 ⟨H19,hs,hb,hH⟩
 refine jP hH (jI (er (rs1 results89 (v:=(vb (((((((s_C aA) || (aB == 0)) && (((aA == 8) || (aA == 9)) || (aC == 0))) && ((aA == 2) || (aK == 0))) && ((aA == 3) || (decide (aF=⟨#[]⟩)))) && ((decide ((s_B aA)≥1)) || (aL == 0))) && ((((s_B aA):Int) == 2) || (aM == 0))))) ⟨false,hc1,by kernel_rfl,(Ext.refl (F:=None) _).hst hs⟩)))
theorem p_T (aA aB:Int) (aC aK:Int) (aF:ByteArray) (aL aM:Int) (w0:World):Calls prog 89 #[(.agg #[(.int .i64 aA),(.int .i64 aB),(.int .i64 aC),(.int .u64 aK),(.string aF),(.int .i64 aL),(.int .i64 aM)])] w0 (fun e w'=>e=.returned (.bool (s_T aA aB aC aK aF aL aM))∧Pure w0 w'):=by
 refine (pw_T aA aB aC aK aF aL aM w0).mono ?_;rintro e w' ⟨b'0,e0,h,E⟩;subst e0;exact ⟨h,E⟩
def s_M1 (n1:Int):Bool :=((decide (n1≥0)) && (decide (n1<16)))
theorem pw_M1 (n1:Int) (w0:World) :
  Calls prog 91 #[(vi n1)] w0 (fun e w'=>(e=.returned (vb ((decide (n1≥0)) && (decide (n1<16)))))∧Pure w0 w'):=by
 refine cw (args:=[(vi n1)]) func91 ntmps91 (eg (q0 (vb false) (ln (jA ?_))))
 refine jZ (fun ρ wJ=>w0=wJ∧Has ρ [(2,(vb ((decide (n1≥0)) && (decide (n1<16)))))]) ?_ ?_
 refine rg (qc (jE 3 (fun ρ wJ=>∃b3'0:Bool,((decide (n1≥0))=b3'0)∧w0=wJ∧Has ρ [(8,(vb (b3'0 && (decide (n1<16)))))]) ?_ ?_))
 rintro ρ w3 ⟨b3'0,he0,hw,hH⟩
 subst he0
 subst hw
 refine jJ hH (q (ln ⟨rfl,hm⟩))
 rcases bte (decide (n1≥0)) with hg4 | hg4
 refine qk 5 hg4 (qk 5 hg4 (q2 (vb (decide (n1<16))) (xT hg4) (jB ⟨true,hg4,rfl,hm⟩)))
 refine sj2 5 hg4 (q2 (vb false) (xF hg4) (jB ⟨false,hg4,rfl,hm⟩))
 rintro ρ w2 ⟨hw,hH⟩
 subst hw
 refine jP hH (jI (er (rs1 results91 (v:=(vb ((decide (n1≥0)) && (decide (n1<16))))) ⟨by kernel_rfl,Ext.refl _⟩)))
theorem p_M1 (n1:Int) (w0:World):Calls prog 91 #[(.int .i64 n1)] w0 (fun e w'=>e=.returned (.bool (s_M1 n1))∧Pure w0 w'):=pw_M1 n1 w0
def s_G (aA aB:Int) (aC aK:Int) (aF:ByteArray) (aL aM:Int):Int :=(cond (!(s_T aA aB aC aK aF aL aM)) 53 (cond (((s_C aA) && (!((decide (aB≥0)) && (decide (aB<16))))) || (((aA == 8) || (aA == 9)) && ((!((decide (aC≥0)) && (decide (aC<16)))) || (aB == aC)))) 50 (cond (decide ((aF.size:Int)>64)) 1 0)))
theorem pw_G (aA aB:Int) (aC aK:Int) (aF:ByteArray) (aL aM:Int) (w0:World) :
  Calls prog 79 #[(.agg #[(vi aA),(vi aB),(vi aC),(vu aK),(vs aF),(vi aL),(vi aM)])] w0 (fun e w'=>∃b'0 b'1 b'2:Bool,((!(s_T aA aB aC aK aF aL aM))=b'0∧(((s_C aA) && (!((decide (aB≥0)) && (decide (aB<16))))) || (((aA == 8) || (aA == 9)) && ((!((decide (aC≥0)) && (decide (aC<16)))) || (aB == aC))))=b'1∧(decide ((aF.size:Int)>64))=b'2)∧(e=.returned (vi (cond b'0 53 (cond b'1 50 (cond b'2 1 0)))))∧Pure w0 w'):=by
 refine cw (args:=[(Ab aA aB aC aK aF aL aM)]) func79 ntmps79 ?_
 obtain ⟨hs,hb⟩:=st0 w0
 refine eg (nw3 (Aa aA aB aC aK aF aL aM) 51 hs hb xb fun p1 w1 H1 hs hb=>q (ln (jA (eg (q2 (Ab aA aB aC aK aF aL aM) (xa p1 (Aa aA aB aC aK aF aL aM) (isAgg51 _) (sizeOf51 _) (hb.r0 0 7 gZ)) (sc call89 ((p_T aA aB aC aK aF aL aM w1).mono ?_)))))))
 rintro e w2 ⟨he,hE⟩
 refine ⟨_,he,?_⟩
 obtain ⟨hs,hb⟩:=hs.pp hb hE
 refine q (ln (zF (t:=(!(s_T aA aB aC aK aF aL aM))) (by kernel_rfl) (fun hc1=>?_) (fun hc1=>?_)))
 refine eg (q (ln (er (zI (rs1 results79 (v:=(vi 53)) ⟨true,_,_,⟨hc1,rfl,rfl⟩,by kernel_rfl,(Ext.refl (F:=None) _).hst hs⟩)))))
 refine jC (jI (jA (jA (jZ (fun ρ wJ=>∃b5'0:Bool,∃HJ:NP,(((s_C aA) && (!((decide (aB≥0)) && (decide (aB<16)))))=b5'0)∧Hst w0 None w0 HJ wJ∧HB HJ wJ [(p1,(Aa aA aB aC aK aF aL aM),51)]∧Has ρ [(1,(vp (some p1))),(32,(vb (b5'0 || (((aA == 8) || (aA == 9)) && ((!((decide (aC≥0)) && (decide (aC<16)))) || (aB == aC))))))]) ?_ ?_))))
 refine rg (q (q3 (xl (isAgg3 _) (hb.d0 0 gZ)) (sc call90 ((p_C aA w2).mono ?_))))
 rintro e w14 ⟨he,hE⟩
 refine ⟨_,he,?_⟩
 obtain ⟨hs,hb⟩:=hs.pp hb hE
 refine q (jE 5 (fun ρ wJ=>∃b6'0:Bool,∃HJ:NP,((s_C aA)=b6'0)∧Hst w0 None w0 HJ wJ∧HB HJ wJ [(p1,(Aa aA aB aC aK aF aL aM),51)]∧Has ρ [(1,(vp (some p1))),(14,(vb (b6'0 && (!((decide (aB≥0)) && (decide (aB<16)))))))]) ?_ ?_)
 rintro ρ w16 ⟨b6'0,H7,he0,hs,hb,hH⟩
 subst he0
 refine jJ hH (q ?_)
 rcases bte ((s_C aA) && (!((decide (aB≥0)) && (decide (aB<16))))) with hg12 | hg12
 refine sj4 15 hg12 (sm (sm (sm (sm (sm (sm (sm (sm (sm (sm (sm (sj 15 hg12 (q2 (vb true) (xT hg12) (ln ⟨true,_,hg12,hs,hb,hm⟩))))))))))))))
 refine qk 15 hg12 (q4 15 hg12 (xl (isAgg3 _) (hb.d0 0 gZ)) (zK (wy 15 hg12) (xc call92) ((p_I1 aA w16).mono ?_)))
 rintro e w18 ⟨he,hE⟩
 refine ⟨_,he,?_⟩
 obtain ⟨hs,hb⟩:=hs.pp hb hE
 refine qk 15 hg12 (jE 12 (fun ρ wJ=>∃b8'0:Bool,∃HJ:NP,(((aA == 8) || (aA == 9))=b8'0)∧Hst w0 None w0 HJ wJ∧HB HJ wJ [(p1,(Aa aA aB aC aK aF aL aM),51)]∧Has ρ [(1,(vp (some p1))),(15,(vb ((s_C aA) && (!((decide (aB≥0)) && (decide (aB<16))))))),(31,(vb (b8'0 && ((!((decide (aC≥0)) && (decide (aC<16)))) || (aB == aC)))))]) ?_ ?_)
 rintro ρ w21 ⟨b8'0,H9,he0,hs,hb,hH⟩
 subst he0
 refine jJ hH (q2 (vb (((aA == 8) || (aA == 9)) && ((!((decide (aC≥0)) && (decide (aC<16)))) || (aB == aC)))) (xF hg12) (ln ⟨false,_,hg12,hs,hb,hm⟩))
 rcases bte ((aA == 8) || (aA == 9)) with hg16 | hg16
 refine qk 19 hg16 (q4 19 hg16 (xl (isAgg3 _) (hb.d 0 2 gZ)) (zK (wy 19 hg16) (xc call91) ((p_M1 aC w18).mono ?_)))
 rintro e w22 ⟨he,hE⟩
 refine ⟨_,he,?_⟩
 obtain ⟨hs,hb⟩:=hs.pp hb hE
 refine qk 19 hg16 (qk 19 hg16 (jE 6 (fun ρ wJ=>∃b9'0:Bool,∃HJ:NP,((!((decide (aC≥0)) && (decide (aC<16))))=b9'0)∧Hst w0 None w0 HJ wJ∧HB HJ wJ [(p1,(Aa aA aB aC aK aF aL aM),51)]∧Has ρ [(1,(vp (some p1))),(15,(vb ((s_C aA) && (!((decide (aB≥0)) && (decide (aB<16))))))),(19,(vb ((aA == 8) || (aA == 9)))),(30,(vb (b9'0 || (aB == aC))))]) ?_ ?_))
 rintro ρ w23 ⟨b9'0,H10,he0,hs,hb,hH⟩
 subst he0
 refine jJ hH (stq (v:=(vb ((!((decide (aC≥0)) && (decide (aC<16)))) || (aB == aC)))) (wy 15 hg12) (xT hg16) (jB ⟨true,_,hg16,hs,hb,hm⟩))
 rcases bte (!((decide (aC≥0)) && (decide (aC<16)))) with hg18 | hg18
 refine sj5 24 hg18 (stq (v:=(vb true)) (wy 19 hg16) (xT hg18) (jB ⟨true,_,hg18,hs,hb,hm⟩))
 refine qk 24 hg18 (q4 24 hg18 (xl (isAgg3 _) (hb.d 0 1 gZ)) (qk 24 hg18 (q4 24 hg18 (xl (isAgg3 _) (hb.d 0 2 gZ)) (qk 24 hg18 (stq (v:=(vb (aB == aC))) (wy 19 hg16) (xF hg18) (jB ⟨false,_,hg18,hs,hb,hm⟩))))))
 refine sj5 19 hg16 (sm (sm (sm (sm (sm (sj 19 hg16 (stq (v:=(vb false)) (wy 15 hg12) (xF hg16) (jB ⟨false,_,hg16,hs,hb,hm⟩))))))))
 rcases bte (s_C aA) with hg11 | hg11
 refine qk 9 hg11 (q4 9 hg11 (xl (isAgg3 _) (hb.d 0 1 gZ)) (zK (wy 9 hg11) (xc call91) ((p_M1 aB w14).mono ?_)))
 rintro e w17 ⟨he,hE⟩
 refine ⟨_,he,?_⟩
 obtain ⟨hs,hb⟩:=hs.pp hb hE
 refine qk 9 hg11 (q2 (vb (!((decide (aB≥0)) && (decide (aB<16))))) (xT hg11) (jB ⟨true,_,hg11,hs,hb,hm⟩))
 refine sj4 9 hg11 (q2 (vb false) (xF hg11) (jB ⟨false,_,hg11,hs,hb,hm⟩))
 rintro ρ w13 ⟨b5'0,H6,he0,hs,hb,hH⟩
 subst he0
 refine jP hH (jI (zF (t:=(((s_C aA) && (!((decide (aB≥0)) && (decide (aB<16))))) || (((aA == 8) || (aA == 9)) && ((!((decide (aC≥0)) && (decide (aC<16)))) || (aB == aC))))) (by kernel_rfl) (fun hc2=>?_) (fun hc2=>?_)))
 refine eg (q (ln (er (zI (rs1 results79 (v:=(vi 50)) ⟨false,true,_,⟨hc1,hc2,rfl⟩,by kernel_rfl,(Ext.refl (F:=None) _).hst hs⟩)))))
 refine jC (jI (jA (eg (q (q3 (xl (isAgg9 _) (hb.d 0 4 gZ)) (qb (ln (zF (t:=(decide ((aF.size:Int)>64))) (by kernel_rfl) (fun hc3=>?_) (fun hc3=>?_)))))))))
 refine eg (q (ln (er (zI (rs1 results79 (v:=(vi 1)) ⟨false,false,true,⟨hc1,hc2,hc3⟩,by kernel_rfl,(Ext.refl (F:=None) _).hst hs⟩)))))
 refine jC (jI (eg (q (ln (er (rs1 results79 (v:=(vi 0)) ⟨false,false,false,⟨hc1,hc2,hc3⟩,by kernel_rfl,(Ext.refl (F:=None) _).hst hs⟩))))))
theorem p_G (aA aB:Int) (aC aK:Int) (aF:ByteArray) (aL aM:Int) (w0:World):Calls prog 79 #[(.agg #[(.int .i64 aA),(.int .i64 aB),(.int .i64 aC),(.int .u64 aK),(.string aF),(.int .i64 aL),(.int .i64 aM)])] w0 (fun e w'=>e=.returned (.int .i64 (s_G aA aB aC aK aF aL aM))∧Pure w0 w'):=by
 refine (pw_G aA aB aC aK aF aL aM w0).mono ?_;rintro e w' ⟨b'0,b'1,b'2,⟨e0,e1,e2⟩,h,E⟩;subst e0;subst e1;subst e2;exact ⟨h,E⟩
def m_P_l2 (aE:Sl) (deep1:Int) (seen1:Option Addr) (e1 i1:Int) (w0:World) (Hl1:NP) (wl1:World) (Kc2:Int→Int→NP→WP) (K:Int→WP):Prop :=Br ((e1 == 0) && (decide (i1<(aE.len:Int)))) (∃a3:Addr,At aE i1 6 a3∧∀H4 w11,Hst w0 Hl1 wl1 H4 w11→∃aN aO aP aQ aR aS,Row w11 a3 (Af aN aO aP aQ aR aS)∧Calls prog 44 #[(.agg #[(vi aN),(vi aO),(vi aP),(vu aQ),(vs aR),aS.v]),(vi (q6.wrap (deep1+1))),(vp seen1)] w11 (fun e w12=>∃r1,e=.returned (vi r1)∧Kept H4 w11 w12∧Kc2 r1 (q6.wrap (i1+1)) H4 w12)) (∀H4 w11,Hst w0 Hl1 wl1 H4 w11→K e1 w11)
def m_P_j1 (aD aG:Int) (aH aI:Int) (aJ:ByteArray) (aE:Sl) (deep1:Int) (seen1:Option Addr) (x1:Bool) (w0:World) (H:NP) (w:World) (K:Int→WP):Prop :=Br x1 (K 52 w) (∃a1,seen1=some a1∧∃v1,w.cell? a1=some (vi v1)∧∃a2,seen1=some a2∧zS w a2∧¬ H a2.block∧∀w2,w2=w.setCell a2 (vi (q6.wrap (v1+1)))→∀y1:Bool,y1=((((s_G aD aG aH aI aJ 0 0):Int) != 53) && (((aE.len:Int):Int) != (s_B aD)))→∀H3 w10,Hst w0 H w2 H3 w10→∃(I1:Int→Int→NP→WP) (mu1:Int→Int→World→Nat),I1 (cond y1 53 (s_G aD aG aH aI aJ 0 0)) 0 H3 w10∧∀(e1 i1:Int) (Hl1:NP) (wl1:World),Hst w0 Hl1 wl1 Hl1 wl1→I1 e1 i1 Hl1 wl1→m_P_l2 aE deep1 seen1 e1 i1 w0 Hl1 wl1 (fun y'0 y'1 H' w'=>I1 y'0 y'1 H' w'∧mu1 y'0 y'1 w'<mu1 e1 i1 wl1) K)
def m_P (aD aG:Int) (aH aI:Int) (aJ:ByteArray) (aE:Sl) (deep1:Int) (seen1:Option Addr) (w0:World) (K:Int→WP):Prop :=∃a4,seen1=some a4∧∀H1 w1,Hst w0 None w0 H1 w1→∃v2,w1.cell? a4=some (vi v2)∧∀H5 w13,Hst w0 H1 w1 H5 w13→m_P_j1 aD aG aH aI aJ aE deep1 seen1 ((decide (v2≥4096)) || (decide (deep1≥64))) w0 H5 w13 K
theorem w_P (aD aG aH aI aJ aE deep1 seen1 w0 K) (h:m_P aD aG aH aI aJ aE deep1 seen1 w0 K):
  Calls prog 44 #[(.agg #[(vi aD),(vi aG),(vi aH),(vu aI),(vs aJ),aE.v]),(vi deep1),(vp seen1)] w0 (fun e w'=>∃r2,e=.returned (vi r2)∧K r2 w'):=by
 refine cw (args:=[(Ag aD aG aH aI aJ aE),(vi deep1),(vp seen1)]) func44 ntmps44 ?_
 obtain ⟨hs,hb⟩:=st0 w0
 refine eg (nw3 (Af aD aG aH aI aJ aE) 47 hs hb xb fun p1 w1 H1 hs hb=>q (ln (jA (jA (zJ (fun ρ w=>∃x1,∃H:NP,Has ρ [(1,(vi deep1)),(2,(vp seen1)),(3,(vp (some p1))),(16,(vb x1))]∧Hst w0 H w H w∧HB H w [(p1,(Af aD aG aH aI aJ aE),47)]∧m_P_j1 aD aG aH aI aJ aE deep1 seen1 x1 w0 H w K) ?_ ?_)))))
 rintro ρ w ⟨x1,H,hH,hs,hb,h⟩
 refine jN hH (cbr h ?_ ?_)<;>intro h
 refine eg (q (ln (er (zI (rs1 results44 ⟨52,rfl,h⟩)))))
 refine jC (jI (eg (qb (qm h fun a1 h=>ql (isAgg3 _) h fun v1 h=>q (qm h fun a2 h=>st2 (sizeOf3 _) hs hb h fun w2 hs hb h=>ln (eg (q2 (Ag aD aG aH aI aJ aE) (xa p1 (Af aD aG aH aI aJ aE) (isAgg47 _) (sizeOf47 _) (hb.r0 0 6 gZ)) (sc call45 ((p_S aD aG aH aI aJ aE w2).mono ?_)))))))))
 rintro e w3 ⟨he,hE⟩
 refine ⟨_,he,?_⟩
 obtain ⟨hs,hb⟩:=hs.pp hb hE
 refine sc call79 ((p_G aD aG aH aI aJ 0 0 w3).mono ?_)
 rintro e w4 ⟨he,hE⟩
 refine ⟨_,he,?_⟩
 obtain ⟨hs,hb⟩:=hs.pp hb hE
 refine q (ln (jA (jA (jZ (fun ρ wJ=>∃b1'0 y1:Bool,∃HJ:NP,((((s_G aD aG aH aI aJ 0 0):Int) != 53)=b1'0)∧(y1=(b1'0 && (((aE.len:Int):Int) != (s_B aD))))∧Hst w0 H w2 HJ wJ∧HB HJ wJ [(p1,(Af aD aG aH aI aJ aE),47)]∧Has ρ [(1,(vi deep1)),(2,(vp seen1)),(3,(vp (some p1))),(7,(vi (s_G aD aG aH aI aJ 0 0))),(36,(vb y1))]) ?_ ?_))))
 refine yW (fun x=>∃H',Hst w0 H w2 H' x∧HB H' x [(p1,(Af aD aG aH aI aJ aE),47)]) [8] [] (by kernel_rfl) (by kernel_rfl) (by kernel_rfl) (by kernel_rfl) ⟨_,hs.drew,hb.drew⟩ ?_
 intro w8 hw8
 have hs:Hst w0 H w2 H w8:=by rw [hw8];exact hs.drew
 have hb:HB H w8 [(p1,(Af aD aG aH aI aJ aE),47)]:=by rw [hw8];exact hb.drew
 refine qx 0 (vi (s_G aD aG aH aI aJ 0 0)) Kp0 (qx 1 (vb (((s_G aD aG aH aI aJ 0 0):Int) != 53)) Kp1 (qx 2 (vb (((s_G aD aG aH aI aJ 0 0):Int) != 53)) Kp2 (qg 3 ?_)))
 rcases bte (((s_G aD aG aH aI aJ 0 0):Int) != 53) with hg2 | hg2
 refine sz (v:=(vp (some (p1.add 5)))) Kp3 (wy 28 hg2) (fun _ _=>(by kernel_rfl)) (qg 4 (sz (v:=aE.v) Kp4 (wy 28 hg2) (fun w' hw'=>(by obtain ⟨H',hs',hb'⟩:=hw';exact (xl (isAgg22 _) (hb'.cell 0 5 gZ (by kernel_rfl))))) (qw 5 (vi (aE.len:Int)) Kp5 (wy 28 hg2) (qw 6 (vp (some p1)) Kp6 (wy 28 hg2) (qg 7 (sz (v:=(vi aD)) Kp7 (wy 28 hg2) (fun w' hw'=>(by obtain ⟨H',hs',hb'⟩:=hw';exact (xl (isAgg3 _) (hb'.cell0 0 gZ (by kernel_rfl))))) (lg 8 (jDV Kp8 (wy 28 hg2) (by kernel_rfl) (xc call80) ((p_B aD w8).mono ?_)))))))))
 rintro e w9 ⟨he,hE⟩
 obtain ⟨hs,hb⟩:=hs.pp hb hE
 refine ⟨(vi (s_B aD)),he.trans (by kernel_rfl),.inr ⟨_,hs,hb⟩,?_⟩
 refine qw 9 (vb (((aE.len:Int):Int) != (s_B aD))) Kp9 (wy 28 hg2) (qz 10 (vb (((aE.len:Int):Int) != (s_B aD))) (jT (S8 (jH (jH jS)))) (fun _ _=>(xT hg2)) (wn (jI ⟨true,_,_,hg2,rfl,hs,hb,hm⟩)))
 refine jBQ Kp3 (kR rfl (yD 28 hg2) rfl) (qn 4 Kp4 (kR rfl (yD 28 hg2) rfl) (qn 5 Kp5 (kR rfl (yD 28 hg2) rfl) (qn 6 Kp6 (kR rfl (yD 28 hg2) rfl) (qn 7 Kp7 (kR rfl (yD 28 hg2) rfl) (lg 8 (jBQ Kp8 (kR rfl (yD 28 hg2) rfl) (qn 9 Kp9 (kR rfl (yD 28 hg2) rfl) (qz 10 (vb false) (jT (S8 (jH (jH jS)))) (fun _ _=>(xF hg2)) (wn (jI ⟨false,_,_,hg2,rfl,hs,hb,hm⟩))))))))))
 rintro ρ w7 ⟨b1'0,y1,H2,he0,hy1,hs,hb,hH⟩
 subst he0
 have h:=h y1 hy1
 refine jP hH (jI (jZ (fun ρ wJ=>∃b2'0:Bool,∃HJ:NP,(y1=b2'0)∧Hst w0 H w2 HJ wJ∧HB HJ wJ [(p1,(Af aD aG aH aI aJ aE),47)]∧Has ρ [(1,(vi deep1)),(2,(vp seen1)),(3,(vp (some p1))),(7,(vi (cond b2'0 53 (s_G aD aG aH aI aJ 0 0))))]) ?_ ?_))
 refine zF (t:=y1) (by kernel_rfl) (fun hc3=>?_) (fun hc3=>?_)
 refine rg (q (ln ⟨true,_,hc3,hs,hb,hm⟩))
 refine jC (jI ⟨false,_,hc3,hs,hb,hm⟩)
 rintro ρ w10 ⟨b2'0,H3,he0,hs,hb,hH⟩
 subst he0
 refine jP hH (jI (jA (eg (q (ln (jG ?_))))))
 have ⟨h,hs⟩:=hs.hr (h H3 w10)
 obtain ⟨I1,mu1,h0,hr⟩:=h
 refine zH (σ:=Int×Int×NP×World) (fun s ρ w=>w=s.2.2.2∧Has ρ [(1,(vi deep1)),(2,(vp seen1)),(3,(vp (some p1))),(7,(vi s.1)),(8,(vi s.2.1))]∧Hst w0 s.2.2.1 w s.2.2.1 w∧HB s.2.2.1 w [(p1,(Af aD aG aH aI aJ aE),47)]∧I1 s.1 s.2.1 s.2.2.1 s.2.2.2) (fun s=>mu1 s.1 s.2.1 s.2.2.2) ((cond y1 53 (s_G aD aG aH aI aJ 0 0)),0,H3,w10) ⟨rfl,hm,hs,hb,h0⟩ ?_
 rintro ⟨e1,i1,Hl1,wl1⟩ ρ w ⟨hw,hH,hs,hb,hI⟩
 dsimp only at hw hH hs hb;subst w
 have h:=hr e1 i1 Hl1 wl1 hs hI
 refine jN hH (jA (jA (jZ (fun ρ wJ=>∃b3'0:Bool,∃HJ:NP,((e1 == 0)=b3'0)∧Hst w0 Hl1 wl1 HJ wJ∧HB HJ wJ [(p1,(Af aD aG aH aI aJ aE),47)]∧Has ρ [(1,(vi deep1)),(2,(vp seen1)),(3,(vp (some p1))),(7,(vi e1)),(8,(vi i1)),(45,(vb (b3'0 && (decide (i1<(aE.len:Int))))))]) ?_ ?_)))
 refine rg (qc ?_)
 rcases bte (e1 == 0) with hg4 | hg4
 refine qk 39 hg4 (qk 39 hg4 (q4 39 hg4 (xl (isAgg22 _) (hb.d 0 5 gZ)) (qk 39 hg4 (qk 39 hg4 (q2 (vb (decide (i1<(aE.len:Int)))) (xT hg4) (ln ⟨true,_,hg4,hs,hb,hm⟩))))))
 refine sj5 39 hg4 (q2 (vb false) (xF hg4) (ln ⟨false,_,hg4,hs,hb,hm⟩))
 rintro ρ w11 ⟨b3'0,H4,he0,hs,hb,hH⟩
 subst he0
 refine jP hH (jI (cbr h ?_ ?_))<;>intro h
 refine jC (jI (jA (jG (rg (q (q3 (xl (isAgg22 _) (hb.d 0 5 gZ)) (q (qi (runUnderlying22 _) (sizeOf47 _) h fun a3 h=>?_))))))))
 have ⟨h,hs⟩:=hs.hr (h H4 w11)
 obtain ⟨aN,aO,aP,aQ,aR,aS,hv1,h⟩:=h
 refine qa (isAgg47 _) (sizeOf47 _) hv1 (qc (sc call44 (h.mono fun e w12 ⟨r1,k,hk,h⟩=>have ⟨hs,hb⟩:=hk.hh hs hb;⟨_,k,?_⟩)))
 refine q (jB (qB (jI (rg (qc (ln ⟨(r1,(q6.wrap (i1+1)),H4,w12),⟨rfl,hm,hs,hb,h.1⟩,h.2⟩))))))
 refine zB (vG (vG (kQ (jI (eg (q0 (vi e1) (q0 (vi e1) (ln (er ?_)))))))))
 have ⟨h,hs⟩:=hs.hr (h H4 w11)
 refine rs1 results44 ⟨e1,rfl,h⟩
 refine rg (q (qm h fun a4 h=>?_))
 have ⟨h,hs⟩:=hs.hr (h H1 w1)
 refine ql (isAgg3 _) h fun v2 h=>qb (jE 3 (fun ρ wJ=>∃b4'0:Bool,∃HJ:NP,((decide (v2≥4096))=b4'0)∧Hst w0 H1 w1 HJ wJ∧HB HJ wJ [(p1,(Af aD aG aH aI aJ aE),47)]∧Has ρ [(1,(vi deep1)),(2,(vp seen1)),(3,(vp (some p1))),(16,(vb (b4'0 || (decide (deep1≥64)))))]) ?_ ?_)
 rintro ρ w13 ⟨b4'0,H5,he0,hs,hb,hH⟩
 subst he0
 refine jJ hH (jB ?_)
 have ⟨h,hs⟩:=hs.hr (h H5 w13)
 refine jI ⟨((decide (v2≥4096)) || (decide (deep1≥64))),H5,hm,hs,hb,h⟩
 rcases bte (decide (v2≥4096)) with hg6 | hg6
 refine sj2 13 hg6 (q2 (vb true) (xT hg6) (jB ⟨true,_,hg6,hs,hb,hm⟩))
 refine qk 13 hg6 (qk 13 hg6 (q2 (vb (decide (deep1≥64))) (xF hg6) (jB ⟨false,_,hg6,hs,hb,hm⟩)))
def m_F3 (aD aG:Int) (aH aI:Int) (aJ:ByteArray) (aE:Sl) (w0:World) (K:Int→WP):Prop :=∀H1 w1,Hst w0 None w0 H1 w1→∀p2 w2,New w1 (.cells #[(vi 0)] 3) p2 w2→zS w2 p2∧¬ H1 p2.block∧∀w3,w3=w2.setCell p2 (vi 0)→Calls prog 44 #[(.agg #[(vi aD),(vi aG),(vi aH),(vu aI),(vs aJ),aE.v]),(vi 0),(vp (some p2))] w3 (fun e w4=>∃r1,e=.returned (vi r1)∧Kept H1 w3 w4∧K r1 w4)
theorem w_F3 (aD aG aH aI aJ aE w0 K) (h:m_F3 aD aG aH aI aJ aE w0 K):
  Calls prog 32 #[(.agg #[(vi aD),(vi aG),(vi aH),(vu aI),(vs aJ),aE.v])] w0 (fun e w'=>∃r2,e=.returned (vi r2)∧K r2 w'):=by
 refine cw (args:=[(Ag aD aG aH aI aJ aE)]) func32 ntmps32 ?_
 obtain ⟨hs,hb⟩:=st0 w0
 refine eg (nw3 (Af aD aG aH aI aJ aE) 47 hs hb xb fun p1 w1 H1 hs hb=>q (ln (eg ?_)))
 have ⟨h,hs⟩:=hs.hr (h H1 w1)
 refine nw2 hs hb h (jX (zeroValue3 _) rfl) fun p2 w2 hs hb h=>st2 (sizeOf3 _) hs hb h fun w3 hs hb h=>ln (eg (q2 (Ag aD aG aH aI aJ aE) (xa p1 (Af aD aG aH aI aJ aE) (isAgg47 _) (sizeOf47 _) (hb.r0 0 6 gZ)) (sc call44 (h.mono fun e w4 ⟨r1,k,hk,h⟩=>have ⟨hs,hb⟩:=hk.hh hs hb;⟨_,k,?_⟩))))
 refine q (ln (er (rs1 results32 ⟨r1,rfl,h⟩)))
def m_G3 (p1:Option Addr) (t1:Int) (w0:World) (K:Bool→WP):Prop :=Br (decide (t1≥1)) (∃a1,p1=some a1∧∃v1:Sl,w0.cell? a1=some v1.v∧K (decide (t1≤(v1.len:Int))) w0) (K false w0)
theorem w_G3 (p1 t1 w0 K) (h:m_G3 p1 t1 w0 K):
  Calls prog 81 #[(vp p1),(vi t1)] w0 (fun e w'=>∃r1,e=.returned (vb r1)∧K r1 w'):=by
 refine cw (args:=[(vp p1),(vi t1)]) func81 ntmps81 (eg (q0 (vb false) (ln (eg (q0 (vi t1) (q0 (vb (decide (t1≥1))) (q0 (vb (decide (t1≥1))) ?_)))))))
 obtain ⟨hg1,h⟩|⟨hg1,h⟩:=h.br
 refine qk 7 hg1 (qk 7 hg1 ?_)
 obtain ⟨a1,hp1,h⟩:=h
 refine q4 7 hg1 (xn hp1) (qk 7 hg1 ?_)
 obtain ⟨v1,hv1,h⟩:=h
 refine q4 7 hg1 (xl (isAgg83 _) hv1) (qk 7 hg1 (qk 7 hg1 (q2 (vb (decide (t1≤(v1.len:Int)))) (xT hg1) (q (ln (er (rs1 results81 ⟨(decide (t1≤(v1.len:Int))),rfl,h⟩)))))))
 refine sj2 7 hg1 (sj5 7 hg1 (q2 (vb false) (xF hg1) (q (ln (er (rs1 results81 ⟨false,rfl,h⟩))))))
def m_H3 (p1:Option Addr) (t1:Int) (w0:World) (K:Int→WP):Prop :=Calls prog 81 #[(vp p1),(vi t1)] w0 (fun e w1=>∃r1,e=.returned (vb r1)∧Br (!r1) (K 0 w1) (∃a1,p1=some a1∧∃v1:Sl,w1.cell? (a1.add 1)=some v1.v∧∃a2:Addr,At v1 (q6.wrap (t1 - 1)) 1 a2∧∃v2,w1.cell? a2=some (vi v2)∧K v2 w1))
theorem w_H3 (p1 t1 w0 K) (h:m_H3 p1 t1 w0 K):
  Calls prog 82 #[(vp p1),(vi t1)] w0 (fun e w'=>∃r2,e=.returned (vi r2)∧K r2 w'):=by
 refine cw (args:=[(vp p1),(vi t1)]) func82 ntmps82 (eg (q0 (vi 0) (ln (jA (eg (q0 (vp p1) (q0 (vi t1) ?_)))))))
 refine sc call81 (h.mono fun e w1 ⟨r1,k,h⟩=>⟨_,k,?_⟩)
 refine q (ln (cbr h ?_ ?_))<;>intro h
 refine eg (q (ln (er (zI (rs1 results82 ⟨0,rfl,h⟩)))))
 refine jC (jI (eg (q (qm h fun a1 h=>q (ql (isAgg72 _) h fun v1 h=>qb (qi (runUnderlying72 _) (sizeOf3 _) h fun a2 h=>ql (isAgg3 _) h fun v2 h=>q (ln (er (rs1 results82 ⟨v2,rfl,h⟩)))))))))
def m_I3 (p1:Option Addr) (t1:Int) (w0:World) (K:Int→WP):Prop :=Calls prog 81 #[(vp p1),(vi t1)] w0 (fun e w1=>∃r1,e=.returned (vb r1)∧Br (!r1) (K 0 w1) (∃a1,p1=some a1∧∃v1:Sl,w1.cell? (a1.add 2)=some v1.v∧∃a2:Addr,At v1 (q6.wrap (t1 - 1)) 1 a2∧∃v2,w1.cell? a2=some (vi v2)∧K v2 w1))
theorem w_I3 (p1 t1 w0 K) (h:m_I3 p1 t1 w0 K):
  Calls prog 83 #[(vp p1),(vi t1)] w0 (fun e w'=>∃r2,e=.returned (vi r2)∧K r2 w'):=by
 refine cw (args:=[(vp p1),(vi t1)]) func83 ntmps83 (eg (q0 (vi 0) (ln (jA (eg (q0 (vp p1) (q0 (vi t1) ?_)))))))
 refine sc call81 (h.mono fun e w1 ⟨r1,k,h⟩=>⟨_,k,?_⟩)
 refine q (ln (cbr h ?_ ?_))<;>intro h
 refine eg (q (ln (er (zI (rs1 results83 ⟨0,rfl,h⟩)))))
 refine jC (jI (eg (q (qm h fun a1 h=>q (ql (isAgg72 _) h fun v1 h=>qb (qi (runUnderlying72 _) (sizeOf3 _) h fun a2 h=>ql (isAgg3 _) h fun v2 h=>q (ln (er (rs1 results83 ⟨v2,rfl,h⟩)))))))))
theorem vL (a0 a1:Int) (a2 a3:Int) (a4:ByteArray) (a5 a6:Int) (b0 b1:Int) (b2 b3:Int) (b4:ByteArray) (b5 b6:Int) (w:World):(Go.binOp .eql 51 (.agg #[(.int .i64 a0),(.int .i64 a1),(.int .i64 a2),(.int .u64 a3),(.string a4),(.int .i64 a5),(.int .i64 a6)]) (.agg #[(.int .i64 b0),(.int .i64 b1),(.int .i64 b2),(.int .u64 b3),(.string b4),(.int .i64 b5),(.int .i64 b6)])).run prog w=.ok (.bool ((a0 == b0) && ((a1 == b1) && ((a2 == b2) && ((a3 == b3) && ((decide (a4=b4)) && ((a5 == b5) && (a6 == b6)))))))) w:=by
 simp [Go.binOp,Op.equal,Op.maxDepth,go_sem,jDT,bne]
 repeat' split
 all_goals simp_all
def m_Z_l1 (p1:Option Addr) (aA aB:Int) (aC aK:Int) (aF:ByteArray) (aL aM i1:Int) (w0:World) (Hl1:NP) (wl1:World) (Kc1:Int→NP→WP) (K:Int→Bool→WP):Prop :=∃a1,p1=some a1∧∃v1:Sl,wl1.cell? a1=some v1.v∧Br (decide (i1<(v1.len:Int))) (∃a2,p1=some a2∧∀w2,Hst w0 Hl1 wl1 Hl1 w2→∃v2:Sl,w2.cell? a2=some v2.v∧∃a3:Addr,At v2 i1 7 a3∧∃aN aO aP aQ aR aZ bA,Row w2 a3 (Aa aN aO aP aQ aR aZ bA)∧Br ((aN == aA) && ((aO == aB) && ((aP == aC) && ((aQ == aK) && ((decide (aR=aF)) && ((aZ == aL) && (bA == aM))))))) (K (q6.wrap (i1+1)) true w2) (Kc1 (q6.wrap (i1+1)) Hl1 w2)) (K 0 false wl1)
def m_Z (p1:Option Addr) (aA aB:Int) (aC aK:Int) (aF:ByteArray) (aL aM:Int) (w0:World) (K:Int→Bool→WP):Prop :=∀H1 w1,Hst w0 None w0 H1 w1→∃(I1:Int→NP→WP) (mu1:Int→World→Nat),I1 0 H1 w1∧∀(i1:Int) (Hl1:NP) (wl1:World),Hst w0 Hl1 wl1 Hl1 wl1→I1 i1 Hl1 wl1→m_Z_l1 p1 aA aB aC aK aF aL aM i1 w0 Hl1 wl1 (fun y'0 H' w'=>I1 y'0 H' w'∧mu1 y'0 w'<mu1 i1 wl1) K
theorem w_Z (p1 aA aB aC aK aF aL aM w0 K) (h:m_Z p1 aA aB aC aK aF aL aM w0 K):
  Calls prog 84 #[(vp p1),(.agg #[(vi aA),(vi aB),(vi aC),(vu aK),(vs aF),(vi aL),(vi aM)])] w0 (fun e w'=>∃r1 r2,e=.returned (.tuple #[(vi r1),(vb r2)])∧K r1 r2 w'):=by
 refine cw (args:=[(vp p1),(Ab aA aB aC aK aF aL aM)]) func84 ntmps84 ?_
 obtain ⟨hs,hb⟩:=st0 w0
 refine eg (nw3 (Aa aA aB aC aK aF aL aM) 51 hs hb xb fun p2 w1 H1 hs hb=>qb (ln (jA (eg (q (ln (jG ?_)))))))
 have ⟨h,hs⟩:=hs.hr (h H1 w1)
 obtain ⟨I1,mu1,h0,hr⟩:=h
 refine zH (σ:=Int×NP×World) (fun s ρ w=>w=s.2.2∧Has ρ [(0,(vp p1)),(3,(vp (some p2))),(6,(vi s.1))]∧Hst w0 s.2.1 w s.2.1 w∧HB s.2.1 w [(p2,(Aa aA aB aC aK aF aL aM),51)]∧I1 s.1 s.2.1 s.2.2) (fun s=>mu1 s.1 s.2.2) (0,H1,w1) ⟨rfl,hm,hs,hb,h0⟩ ?_
 rintro ⟨i1,Hl1,wl1⟩ ρ w ⟨hw,hH,hs,hb,hI⟩
 dsimp only at hw hH hs hb;subst w
 have h:=hr i1 Hl1 wl1 hs hI
 refine jN hH (jA (eg (qb (qm h fun a1 h=>q (ql (isAgg83 _) h fun v1 h=>qb (ln (cbr h ?_ ?_)))))))<;>intro h
 refine jC (jI (jA (jG (jA (vM (by kernel_rfl) (by kernel_rfl) (by kernel_rfl) (by kernel_rfl) ?_)))))
 intro w2 hw2
 have hs:Hst w0 Hl1 wl1 Hl1 w2:=by rw [hw2];exact hs.drew
 have hb:HB Hl1 w2 [(p2,(Aa aA aB aC aK aF aL aM),51)]:=by rw [hw2];exact hb.drew
 refine qq 0 (vp p1) Kp0 (qg 1 ?_)
 obtain ⟨a2,hp2,h⟩:=h
 refine sxQ Kp1 (jM rfl) rfl (xn hp2) (qq 2 (vp (some a2)) Kp2 (qg 3 ?_))
 have ⟨h,hs⟩:=hs.hr (h w2)
 obtain ⟨v2,hv3,h⟩:=h
 refine sxQ Kp3 (jM rfl) rfl (xl (isAgg83 _) hv3) (qq 4 (vi i1) Kp4 (qg 5 ?_))
 obtain ⟨a3,hv2,h⟩:=h
 refine sxQ Kp5 (jM rfl) rfl (xi (runUnderlying83 _) (sizeOf51 _) hv2) (qg 6 ?_)
 obtain ⟨aN,aO,aP,aQ,aR,aZ,bA,hv1,h⟩:=h
 refine sxQ (v:=(Ab aN aO aP aQ aR aZ bA)) Kp6 (jM rfl) rfl (xa a3 (Aa aN aO aP aQ aR aZ bA) (isAgg51 _) (sizeOf51 _) hv1) (qr 7 (Ab aA aB aC aK aF aL aM) Kp7 (xa p2 (Aa aA aB aC aK aF aL aM) (isAgg51 _) (sizeOf51 _) (hb.r0 0 7 gZ)) (qr 8 (vb ((aN == aA) && ((aO == aB) && ((aP == aC) && ((aQ == aK) && ((decide (aR=aF)) && ((aZ == aL) && (bA == aM)))))))) Kp8 (jDL (by kernel_rfl) (by kernel_rfl) (by kernel_rfl) (vL aN aO aP aQ aR aZ bA aA aB aC aK aF aL aM _)) (wn (jI (cbr h ?_ ?_)))))<;>intro h
 refine eg (qd (ln (er (qX (zI (zI (qX (zI (kB (.inl rfl) results84 (v:=(vi (q6.wrap (i1+1)))) (by kernel_rfl) (v':=(vb true)) (by kernel_rfl) ⟨(q6.wrap (i1+1)),true,rfl,h⟩)))))))))
 refine jC (qB (jI (rg (qc (ln ⟨((q6.wrap (i1+1)),Hl1,w2),⟨rfl,hm,hs,hb,h.1⟩,h.2⟩)))))
 refine zB (vG (vG (kQ (jI (eg (q0 (vi 0) (q0 (vb false) (ln (er (kB (.inl rfl) results84 (v:=(vi 0)) (by kernel_rfl) (v':=(vb false)) (by kernel_rfl) ⟨0,false,rfl,h⟩))))))))))
def m_J_j1 (p1:Option Addr) (aA aB:Int) (aC aK:Int) (aF:ByteArray) (aL aM:Int) (x1:Bool) (w0:World) (H:NP) (w:World) (K:Int→Int→WP):Prop :=Br x1 (K 0 51 w) (∃C1:WP,C1 w.drew∧∀w4,w4=w.drew→Calls prog 82 #[(vp p1),(vi aL)] w4 (fun e w5=>∃r1,e=.returned (vi r1)∧C1 w5∧Kept H w4 w5∧Calls prog 82 #[(vp p1),(vi aM)] w5 (fun e w6=>∃r2,e=.returned (vi r2)∧C1 w6∧Kept H w5 w6∧∃C2:WP,C2 w6.drew∧∀w7,w7=w6.drew→Calls prog 83 #[(vp p1),(vi aL)] w7 (fun e w8=>∃r3,e=.returned (vi r3)∧C2 w8∧Kept H w7 w8∧Calls prog 83 #[(vp p1),(vi aM)] w8 (fun e w9=>∃r4,e=.returned (vi r4)∧C2 w9∧Kept H w8 w9∧∃z1,(∀w',C2 w'→(Builtin.max_ #[3,3] 3 #[(vi r3),(vi r4)]).run prog w'=.ok (vi z1) w')∧∀y1:Bool,y1=((decide ((q6.wrap ((q6.wrap (1+r1))+r2))>4096)) || (decide ((q6.wrap (1+z1))>64)))→Br y1 (∀H2 w10,Hst w0 H w9 H2 w10→K 0 52 w10) (∀H2 w10,Hst w0 H w9 H2 w10→Calls prog 84 #[(vp p1),(.agg #[(vi aA),(vi aB),(vi aC),(vu aK),(vs aF),(vi aL),(vi aM)])] w10 (fun e w11=>∃r5 r6,e=.returned (.tuple #[(vi r5),(vb r6)])∧Kept H2 w10 w11∧Br r6 (K r5 0 w11) (∃a1,p1=some a1∧∃v1:Sl,w11.cell? a1=some v1.v∧Br (decide ((v1.len:Int)≥65536)) (K 0 6 w11) (∃C3:WP,C3 w11.drew∧∀w12,w12=w11.drew→∃a2,p1=some a2∧∃v2:Sl,(∀w',C3 w'→w'.cell? a2=some v2.v)∧∀p3 w13,New w12 (.cells #[(vi aA),(vi aB),(vi aC),(vu aK),(vs aF),(vi aL),(vi aM)] 51) p3 w13→C3 w13∧∃s1:Sl,∃w14:World,(Builtin.append_ #[83,83] 83 #[v2.v,(Sl.mk (some p3) 1 1).v]).run prog w13=.ok s1.v w14∧C3 w14∧Kept H2 w13 w14∧∃a3,p1=some a3∧zS w14 a3∧¬ H2 a3.block∧∀w15,w15=w14.setCell a3 s1.v→∃a4,p1=some a4∧∃v3:Sl,w15.cell? (a4.add 1)=some v3.v∧∀p4 w16,New w15 (.cells #[(vi (q6.wrap ((q6.wrap (1+r1))+r2)))] 3) p4 w16→∃s2:Sl,∃w17:World,(Builtin.append_ #[72,72] 72 #[v3.v,(Sl.mk (some p4) 1 1).v]).run prog w16=.ok s2.v w17∧Kept H2 w16 w17∧∃a5,p1=some a5∧zS w17 (a5.add 1)∧¬ H2 (a5.add 1).block∧∀w18,w18=w17.setCell (a5.add 1) s2.v→∃a6,p1=some a6∧∃v4:Sl,w18.cell? (a6.add 2)=some v4.v∧∀p5 w19,New w18 (.cells #[(vi (q6.wrap (1+z1)))] 3) p5 w19→∃s3:Sl,∃w20:World,(Builtin.append_ #[72,72] 72 #[v4.v,(Sl.mk (some p5) 1 1).v]).run prog w19=.ok s3.v w20∧Kept H2 w19 w20∧∃a7,p1=some a7∧zS w20 (a7.add 2)∧¬ H2 (a7.add 2).block∧∀w21,w21=w20.setCell (a7.add 2) s3.v→∃a8,p1=some a8∧∃v5:Sl,w21.cell? a8=some v5.v∧K (v5.len:Int) 0 w21)))))))))
def m_J_j2 (p1:Option Addr) (aA aB:Int) (aC aK:Int) (aF:ByteArray) (aL aM:Int) (x2:Bool) (w0:World) (H:NP) (w:World) (K:Int→Int→WP):Prop :=Br x2 (m_J_j1 p1 aA aB aC aK aF aL aM true w0 H w K) (Br (((s_B aA):Int) == 2) (Calls prog 81 #[(vp p1),(vi aM)] w (fun e w22=>∃r7,e=.returned (vb r7)∧Kept H w w22∧m_J_j1 p1 aA aB aC aK aF aL aM (!r7) w0 H w22 K)) (m_J_j1 p1 aA aB aC aK aF aL aM false w0 H w K))
def m_J (p1:Option Addr) (aA aB:Int) (aC aK:Int) (aF:ByteArray) (aL aM:Int) (w0:World) (K:Int→Int→WP):Prop :=Br (((s_G aA aB aC aK aF aL aM):Int) != 0) (∀H1 w2,Hst w0 None w0 H1 w2→K 0 (s_G aA aB aC aK aF aL aM) w2) (Br (decide ((s_B aA)≥1)) (∀H1 w3,Hst w0 None w0 H1 w3→Calls prog 81 #[(vp p1),(vi aL)] w3 (fun e w23=>∃r8,e=.returned (vb r8)∧Kept H1 w3 w23∧m_J_j2 p1 aA aB aC aK aF aL aM (!r8) w0 H1 w23 K)) (∀H1 w3,Hst w0 None w0 H1 w3→m_J_j2 p1 aA aB aC aK aF aL aM false w0 H1 w3 K))
theorem w_J (p1 aA aB aC aK aF aL aM w0 K) (h:m_J p1 aA aB aC aK aF aL aM w0 K):
  Calls prog 46 #[(vp p1),(.agg #[(vi aA),(vi aB),(vi aC),(vu aK),(vs aF),(vi aL),(vi aM)])] w0 (fun e w'=>∃r9 r10,e=.returned (.tuple #[(vi r9),(vi r10)])∧K r9 r10 w'):=by
 refine cw (args:=[(vp p1),(Ab aA aB aC aK aF aL aM)]) func46 ntmps46 ?_
 obtain ⟨hs,hb⟩:=st0 w0
 refine eg (nw3 (Aa aA aB aC aK aF aL aM) 51 hs hb xb fun p2 w1 H1 hs hb=>qb (ln (eg (q2 (Ab aA aB aC aK aF aL aM) (xa p2 (Aa aA aB aC aK aF aL aM) (isAgg51 _) (sizeOf51 _) (hb.r0 0 7 gZ)) (sc call79 ((p_G aA aB aC aK aF aL aM w1).mono ?_))))))
 rintro e w2 ⟨he,hE⟩
 refine ⟨_,he,?_⟩
 obtain ⟨hs,hb⟩:=hs.pp hb hE
 refine q (ln (jA (eg (qb (ln (cbr h ?_ ?_))))))<;>intro h
 refine eg (qc (ln (er (zI ?_))))
 have ⟨h,hs⟩:=hs.hr (h H1 w2)
 refine kB (.inl rfl) results46 (v:=(vi 0)) (by kernel_rfl) (v':=(vi (s_G aA aB aC aK aF aL aM))) (by kernel_rfl) ⟨0,(s_G aA aB aC aK aF aL aM),rfl,h⟩
 refine jC (jI (eg (q (q3 (xl (isAgg3 _) (hb.d0 0 gZ)) (sc call80 ((p_B aA w2).mono ?_))))))
 rintro e w3 ⟨he,hE⟩
 refine ⟨_,he,?_⟩
 obtain ⟨hs,hb⟩:=hs.pp hb hE
 refine q (ln (jA (jA (zJ (fun ρ w=>∃x1,∃H:NP,Has ρ [(0,(vp p1)),(3,(vp (some p2))),(39,(vb x1))]∧Hst w0 H w H w∧HB H w [(p2,(Aa aA aB aC aK aF aL aM),51)]∧m_J_j1 p1 aA aB aC aK aF aL aM x1 w0 H w K) ?_ ?_))))
 rintro ρ w ⟨x1,H,hH,hs,hb,h⟩
 refine jN hH (cbr h ?_ ?_)<;>intro h
 refine eg (qb (ln (er (zI (kB (.inl rfl) results46 (v:=(vi 0)) (by kernel_rfl) (v':=(vi 51)) (by kernel_rfl) ⟨0,51,rfl,h⟩)))))
 refine jC (jI (jA ?_))
 obtain ⟨C1,hC,h⟩:=h
 refine dr2 (fun x=>C1 x∧HB H x _) [3,8] [] ⟨hC,hb.drew⟩ h hs hb fun w4 hs hb h=>?_
 have hs:=hs.here
 refine qx 0 (vp p1) Kp0 (qx 1 (vp (some (p2.add 5))) Kp1 (qz 2 (vi aL) Kp2 (fun w' hw'=>(xl (isAgg32 _) (hw'.2.cell 0 5 gZ (by kernel_rfl)))) (qx 5 (vp p1) Kp5 (qx 6 (vp (some (p2.add 6))) Kp6 (qz 7 (vi aM) Kp7 (fun w' hw'=>(xl (isAgg32 _) (hw'.2.cell 0 6 gZ (by kernel_rfl)))) (lg 3 (slc Kp3 call82 (h.mono ?_))))))))
 rintro e w5 ⟨r1,rfl,hC,hk,h⟩
 refine ⟨_,rfl,.inr ⟨hC,hb.kept hk⟩,?_⟩
 obtain ⟨hs,hb⟩:=hk.hh hs hb
 refine qx 4 (vi (q6.wrap (1+r1))) Kp4 (lg 8 (slc Kp8 call82 (h.mono ?_)))
 rintro e w6 ⟨r2,rfl,hC,hk,h⟩
 refine ⟨_,rfl,.inr ⟨hC,hb.kept hk⟩,?_⟩
 obtain ⟨hs,hb⟩:=hk.hh hs hb
 refine qx 9 (vi (q6.wrap ((q6.wrap (1+r1))+r2))) Kp9 (qx 10 (vi (q6.wrap ((q6.wrap (1+r1))+r2))) (jT (S8 (jH (jH jS)))) (wn (jI (jA ?_))))
 obtain ⟨C2,hC,h⟩:=h
 refine dr2 (fun x=>C2 x∧HB H x _) [3,7] [] ⟨hC,hb.drew⟩ h hs hb fun w7 hs hb h=>?_
 have hs:=hs.here
 refine qx 0 (vp p1) Kp0 (qx 1 (vp (some (p2.add 5))) Kp1 (qz 2 (vi aL) Kp2 (fun w' hw'=>(xl (isAgg32 _) (hw'.2.cell 0 5 gZ (by kernel_rfl)))) (qx 4 (vp p1) Kp4 (qx 5 (vp (some (p2.add 6))) Kp5 (qz 6 (vi aM) Kp6 (fun w' hw'=>(xl (isAgg32 _) (hw'.2.cell 0 6 gZ (by kernel_rfl)))) (lg 3 (slc Kp3 call83 (h.mono ?_))))))))
 rintro e w8 ⟨r3,rfl,hC,hk,h⟩
 refine ⟨_,rfl,.inr ⟨hC,hb.kept hk⟩,?_⟩
 obtain ⟨hs,hb⟩:=hk.hh hs hb
 refine lg 7 (slc Kp7 call83 (h.mono ?_))
 rintro e w9 ⟨r4,rfl,hC,hk,h⟩
 refine ⟨_,rfl,.inr ⟨hC,hb.kept hk⟩,?_⟩
 obtain ⟨hs,hb⟩:=hk.hh hs hb
 refine qg 8 ?_
 obtain ⟨z1,hv9,h⟩:=h
 refine sy (v:=(vi z1)) Kp8 (fun w' hw'=>(zD (args:=#[(vi r3),(vi r4)]) (by kernel_rfl) (fun _=>rfl) (hv9 w' hw'.1))) (qx 9 (vi (q6.wrap (1+z1))) Kp9 (qx 10 (vi (q6.wrap (1+z1))) (jT (S8 (jH (jH jS)))) (wn (jI (jA (jA (jZ (fun ρ wJ=>∃b1'0 y1:Bool,∃HJ:NP,((decide ((q6.wrap ((q6.wrap (1+r1))+r2))>4096))=b1'0)∧(y1=(b1'0 || (decide ((q6.wrap (1+z1))>64))))∧Hst w0 H w9 HJ wJ∧HB HJ wJ [(p2,(Aa aA aB aC aK aF aL aM),51)]∧Has ρ [(0,(vp p1)),(3,(vp (some p2))),(8,(vi (q6.wrap ((q6.wrap (1+r1))+r2)))),(9,(vi (q6.wrap (1+z1)))),(65,(vb y1))]) ?_ ?_)))))))
 refine rg (qc ?_)
 rcases bte (decide ((q6.wrap ((q6.wrap (1+r1))+r2))>4096)) with hg2 | hg2
 refine sj2 62 hg2 (q2 (vb true) (xT hg2) (ln ⟨true,_,_,hg2,rfl,hs,hb,hm⟩))
 refine qk 62 hg2 (qk 62 hg2 (q2 (vb (decide ((q6.wrap (1+z1))>64))) (xF hg2) (ln ⟨false,_,_,hg2,rfl,hs,hb,hm⟩)))
 rintro ρ w10 ⟨b1'0,y1,H2,he0,hy1,hs,hb,hH⟩
 subst he0
 have h:=h y1 hy1
 refine jP hH (jI (cbr h ?_ ?_))<;>intro h
 refine eg (qb (ln (er (zI ?_))))
 have ⟨h,hs⟩:=hs.hr (h H2 w10)
 refine kB (.inl rfl) results46 (v:=(vi 0)) (by kernel_rfl) (v':=(vi 52)) (by kernel_rfl) ⟨0,52,rfl,h⟩
 refine jC (jI (eg (q (q2 (Ab aA aB aC aK aF aL aM) (xa p2 (Aa aA aB aC aK aF aL aM) (isAgg51 _) (sizeOf51 _) (hb.r0 0 7 gZ)) ?_))))
 have ⟨h,hs⟩:=hs.hr (h H2 w10)
 refine sc call84 (h.mono fun e w11 ⟨r5,r6,k,hk,h⟩=>have ⟨hs,hb⟩:=hk.hh hs hb;⟨_,k,?_⟩)
 refine q (qd (ln (jA (eg (q (jB (jI (cbr h ?_ ?_))))))))<;>intro h
 refine eg (qc (ln (er (zI (kB (.inl rfl) results46 (v:=(vi r5)) (by kernel_rfl) (v':=(vi 0)) (by kernel_rfl) ⟨r5,0,rfl,h⟩)))))
 refine jC (jI (jA (eg (q (qm h fun a1 h=>q (ql (isAgg83 _) h fun v1 h=>qb (ln (cbr h ?_ ?_))))))))<;>intro h
 refine eg (qb (ln (er (zI (kB (.inl rfl) results46 (v:=(vi 0)) (by kernel_rfl) (v':=(vi 6)) (by kernel_rfl) ⟨0,6,rfl,h⟩)))))
 refine jC (jI (jA ?_))
 obtain ⟨C3,hC,h⟩:=h
 refine dr2 (fun x=>C3 x∧HB H2 x _) [6,7,10] [10] ⟨hC,hb.drew⟩ h hs hb fun w12 hs hb h=>?_
 have hs:=hs.here
 refine qx 0 (vp p1) Kp0 (qx 1 (vp p1) Kp1 (qg 2 ?_))
 obtain ⟨a2,hp2,h⟩:=h
 refine sy Kp2 (fun _ _=>xn hp2) (qx 3 (vp (some a2)) Kp3 (qg 4 ?_))
 obtain ⟨v2,hv7,h⟩:=h
 refine sy Kp4 (fun _ k=>xl (isAgg83 _) (hv7 _ k.1)) (qz 5 (Ab aA aB aC aK aF aL aM) Kp5 (fun w' hw'=>(xa p2 (Aa aA aB aC aK aF aL aM) (isAgg51 _) (sizeOf51 _) (hw'.2.r0 0 7 gZ))) (lg 6 (qU (O:=(.cells #[(vi aA),(vi aB),(vi aC),(vu aK),(vs aF),(vi aL),(vi aM)] 51)) (fun p=>(Sl.mk (some p) 1 1).v) Kp6 (jM rfl) (by kernel_rfl) (zA (vs:=#[(0,(Ab aA aB aC aK aF aL aM))]) (by kernel_rfl) (by kernel_rfl)) ?_)))
 intro p3 w13 hn7
 have h:=h p3 w13 hn7
 refine ⟨.inr ⟨h.1,hb.kept (Ext.new (F:=None) hn7).keptP⟩,?_⟩
 have h:=h.2
 obtain ⟨hs,hb⟩:=hs.nw hb hn7
 refine lg 7 ?_
 obtain ⟨s1,w14,hv6,hC,hk,h⟩:=h
 refine sl (v:=s1.v) Kp7 (jM rfl) (by kernel_rfl) (zD (args:=#[v2.v,(Sl.mk (some p3) 1 1).v]) (by kernel_rfl) (fun _=>rfl) hv6) (.inr ⟨hC,hb.kept hk⟩) ?_
 obtain ⟨hs,hb⟩:=hk.hh hs hb
 refine qg 8 ?_
 obtain ⟨a3,hp3,h⟩:=h
 refine sy Kp8 (fun _ _=>xn hp3) (qx 9 (vp (some a3)) Kp9 (lg 10 ?_))
 obtain ⟨hp4,hnh,h⟩:=h
 refine sl_t (jT (S8 (jH (jH jS)))) (xs (v:=s1.v) (sizeOf83 _) hp4) ?_
 intro w15 hn2
 have h:=h w15 hn2
 refine ⟨.inl (by kernel_rfl),?_⟩
 have hk:=Kept.sc hnh hn2
 obtain ⟨hs,hb⟩:=hk.hh hs hb
 refine wn (jI (eg (qb (qm h fun a4 h=>q (ql (isAgg72 _) h fun v3 h=>q (qT (O:=(.cells #[(vi (q6.wrap ((q6.wrap (1+r1))+r2)))] 3)) (fun p=>(Sl.mk (some p) 1 1).v) (jM rfl) (zA (vs:=#[(0,(vi (q6.wrap ((q6.wrap (1+r1))+r2))))]) (by kernel_rfl) (by kernel_rfl)) ?_))))))
 intro p4 w16 hn6
 have h:=h p4 w16 hn6
 obtain ⟨hs,hb⟩:=hs.nw hb hn6
 obtain ⟨s2,w17,hv4,hk,h⟩:=h
 refine st (v:=s2.v) (jM rfl) (zD (args:=#[v3.v,(Sl.mk (some p4) 1 1).v]) (by kernel_rfl) (fun _=>rfl) hv4) ?_
 obtain ⟨hs,hb⟩:=hk.hh hs hb
 refine qm h fun a5 h=>q (st2 (sizeOf72 _) hs hb h fun w18 hs hb h=>ln (eg (qb (qm h fun a6 h=>q (ql (isAgg72 _) h fun v4 h=>q (qT (O:=(.cells #[(vi (q6.wrap (1+z1)))] 3)) (fun p=>(Sl.mk (some p) 1 1).v) (jM rfl) (zA (vs:=#[(0,(vi (q6.wrap (1+z1))))]) (by kernel_rfl) (by kernel_rfl)) ?_))))))
 intro p5 w19 hn5
 have h:=h p5 w19 hn5
 obtain ⟨hs,hb⟩:=hs.nw hb hn5
 obtain ⟨s3,w20,hv2,hk,h⟩:=h
 refine st (v:=s3.v) (jM rfl) (zD (args:=#[v4.v,(Sl.mk (some p5) 1 1).v]) (by kernel_rfl) (fun _=>rfl) hv2) ?_
 obtain ⟨hs,hb⟩:=hk.hh hs hb
 refine qm h fun a7 h=>q (st2 (sizeOf72 _) hs hb h fun w21 hs hb h=>ln (eg (q (qm h fun a8 h=>q (ql (isAgg83 _) h fun v5 h=>qc (ln (er (kB (.inl rfl) results46 (v:=(vi (v5.len:Int))) (by kernel_rfl) (v':=(vi 0)) (by kernel_rfl) ⟨(v5.len:Int),0,rfl,h⟩))))))))
 refine rg (qc (jE 6 (fun ρ w=>∃x2,∃H:NP,Has ρ [(0,(vp p1)),(3,(vp (some p2))),(7,(vi (s_B aA))),(28,(vb x2))]∧Hst w0 H w H w∧HB H w [(p2,(Aa aA aB aC aK aF aL aM),51)]∧m_J_j2 p1 aA aB aC aK aF aL aM x2 w0 H w K) ?_ ?_))
 rintro ρ w ⟨x2,H,hH,hs,hb,h⟩
 refine jJ hH (q ?_)
 obtain ⟨hg3,h⟩|⟨hg3,h⟩:=h.br
 refine sj3 29 hg3 (sm (sm (sm (sm (sm (sj 29 hg3 (q2 (vb true) (xT hg3) (ln ⟨true,H,hm,hs,hb,h⟩))))))))
 refine qk 29 hg3 (qk 29 hg3 (qk 29 hg3 ?_))
 obtain ⟨hg4,h⟩|⟨hg4,h⟩:=h.br
 refine qk 32 hg4 (qk 32 hg4 (q4 32 hg4 (xl (isAgg32 _) (hb.d 0 6 gZ)) (zK (wy 32 hg4) (xc call81) (h.mono ?_))))
 rintro e w22 ⟨r7,rfl,hk,h⟩
 refine ⟨_,rfl,?_⟩
 obtain ⟨hs,hb⟩:=hk.hh hs hb
 refine qk 32 hg4 (stq (v:=(vb (!r7))) (wy 29 hg3) (xT hg4) (q2 (vb (!r7)) (xF hg3) (ln ⟨(!r7),H,hm,hs,hb,h⟩)))
 refine sj5 32 hg4 (stq (v:=(vb false)) (wy 29 hg3) (xF hg4) (q2 (vb false) (xF hg3) (ln ⟨false,H,hm,hs,hb,h⟩)))
 obtain ⟨hg5,h⟩|⟨hg5,h⟩:=h.br
 refine qk 22 hg5 (qk 22 hg5 (q4 22 hg5 (xl (isAgg32 _) (hb.d 0 5 gZ)) ?_))
 have ⟨h,hs⟩:=hs.hr (h H1 w3)
 refine zK (wy 22 hg5) (xc call81) (h.mono ?_)
 rintro e w23 ⟨r8,rfl,hk,h⟩
 refine ⟨_,rfl,?_⟩
 obtain ⟨hs,hb⟩:=hk.hh hs hb
 refine qk 22 hg5 (q2 (vb (!r8)) (xT hg5) (jB ⟨(!r8),H1,hm,hs,hb,h⟩))
 refine sj5 22 hg5 (q2 (vb false) (xF hg5) (jB ?_))
 have ⟨h,hs⟩:=hs.hr (h H1 w3)
 exact ⟨false,H1,hm,hs,hb,h⟩
def m_A1_l1 (p1:Option Addr) (aE:Sl) (i1 aA:Int) (aB aC aK:Int) (aF:ByteArray) (aL aM:Int) (w0:World) (Hl1:NP) (wl1:World) (Kc1:Int→Int→Int→Int→Int→ByteArray→Int→Int→NP→WP) (K:Int→Int→WP):Prop :=Br (decide (i1<(aE.len:Int))) (∃a1:Addr,At aE i1 6 a1∧∃aN aO aP aQ aR aS,Row wl1 a1 (Af aN aO aP aQ aR aS)∧Calls prog 33 #[(vp p1),(.agg #[(vi aN),(vi aO),(vi aP),(vu aQ),(vs aR),aS.v])] wl1 (fun e w5=>∃r1 r2,e=.returned (.tuple #[(vi r1),(vi r2)])∧Kept Hl1 wl1 w5∧Br (r2 != 0) (K 0 r2 w5) (∀H3 w8,Hst w0 Hl1 w5 H3 w8→Kc1 (q6.wrap (i1+1)) aA aB aC aK aF (cond (i1 == 0) r1 aL) (cond (i1 == 0) aM r1) H3 w8))) (Calls prog 46 #[(vp p1),(.agg #[(vi aA),(vi aB),(vi aC),(vu aK),(vs aF),(vi aL),(vi aM)])] wl1 (fun e w11=>∃r3 r4,e=.returned (.tuple #[(vi r3),(vi r4)])∧Kept Hl1 wl1 w11∧K r3 r4 w11))
def m_A1 (p1:Option Addr) (aD aG:Int) (aH aI:Int) (aJ:ByteArray) (aE:Sl) (w0:World) (K:Int→Int→WP):Prop :=∀H2 w4,Hst w0 None w0 H2 w4→∃(I1:Int→Int→Int→Int→Int→ByteArray→Int→Int→NP→WP) (mu1:Int→Int→Int→Int→Int→ByteArray→Int→Int→World→Nat),I1 0 aD aG aH aI aJ 0 0 H2 w4∧∀(i1 aA:Int) (aB aC aK:Int) (aF:ByteArray) (aL aM:Int) (Hl1:NP) (wl1:World),Hst w0 Hl1 wl1 Hl1 wl1→I1 i1 aA aB aC aK aF aL aM Hl1 wl1→m_A1_l1 p1 aE i1 aA aB aC aK aF aL aM w0 Hl1 wl1 (fun y'0 y'1 y'2 y'3 y'4 y'5 y'6 y'7 H' w'=>I1 y'0 y'1 y'2 y'3 y'4 y'5 y'6 y'7 H' w'∧mu1 y'0 y'1 y'2 y'3 y'4 y'5 y'6 y'7 w'<mu1 i1 aA aB aC aK aF aL aM wl1) K
theorem w_A1 (p1 aD aG aH aI aJ aE w0 K) (h:m_A1 p1 aD aG aH aI aJ aE w0 K):
  Calls prog 33 #[(vp p1),(.agg #[(vi aD),(vi aG),(vi aH),(vu aI),(vs aJ),aE.v])] w0 (fun e w'=>∃r5 r6,e=.returned (.tuple #[(vi r5),(vi r6)])∧K r5 r6 w'):=by
 refine cw (args:=[(vp p1),(Ag aD aG aH aI aJ aE)]) func33 ntmps33 ?_
 obtain ⟨hs,hb⟩:=st0 w0
 refine eg (nw3 (Af aD aG aH aI aJ aE) 47 hs hb xb fun p2 w1 H1 hs hb=>qb (ln (eg (q2 (Ag aD aG aH aI aJ aE) (xa p2 (Af aD aG aH aI aJ aE) (isAgg47 _) (sizeOf47 _) (hb.r0 0 6 gZ)) (sc call45 ((p_S aD aG aH aI aJ aE w1).mono ?_))))))
 rintro e w2 ⟨he,hE⟩
 refine ⟨_,he,?_⟩
 obtain ⟨hs,hb⟩:=hs.pp hb hE
 refine nw3 (Ak 0 0 0 0 0 0) 51 hs hb (jX (zeroValue51 _) rfl) fun p3 w3 H2 hs hb=>sbx 0 (Aa aD aG aH aI aJ 0 0) (sizeOf51 _) hs hb gZ fun w4 hs hb=>ln (jA (eg (q (ln (jG ?_)))))
 have ⟨h,hs⟩:=hs.hr (h H2 w4)
 obtain ⟨I1,mu1,h0,hr⟩:=h
 refine zH (σ:=Int×Int×Int×Int×Int×ByteArray×Int×Int×NP×World) (fun s ρ w=>w=s.2.2.2.2.2.2.2.2.2∧Has ρ [(0,(vp p1)),(3,(vp (some p2))),(6,(vp (some p3))),(7,(vi s.1))]∧Hst w0 s.2.2.2.2.2.2.2.2.1 w s.2.2.2.2.2.2.2.2.1 w∧HB s.2.2.2.2.2.2.2.2.1 w [(p3,(Aa (s.2.1) (s.2.2.1) (s.2.2.2.1) (s.2.2.2.2.1) (s.2.2.2.2.2.1) (s.2.2.2.2.2.2.1) (s.2.2.2.2.2.2.2.1)),51),(p2,(Af aD aG aH aI aJ aE),47)]∧I1 s.1 s.2.1 s.2.2.1 s.2.2.2.1 s.2.2.2.2.1 s.2.2.2.2.2.1 s.2.2.2.2.2.2.1 s.2.2.2.2.2.2.2.1 s.2.2.2.2.2.2.2.2.1 s.2.2.2.2.2.2.2.2.2) (fun s=>mu1 s.1 s.2.1 s.2.2.1 s.2.2.2.1 s.2.2.2.2.1 s.2.2.2.2.2.1 s.2.2.2.2.2.2.1 s.2.2.2.2.2.2.2.1 s.2.2.2.2.2.2.2.2.2) (0,aD,aG,aH,aI,aJ,0,0,H2,w4) ⟨rfl,hm,hs,hb,h0⟩ ?_
 rintro ⟨i1,aA,aB,aC,aK,aF,aL,aM,Hl1,wl1⟩ ρ w ⟨hw,hH,hs,hb,hI⟩
 dsimp only at hw hH hs hb;subst w
 have h:=hr i1 aA aB aC aK aF aL aM Hl1 wl1 hs hI
 refine jN hH (jA (eg (qb (q3 (xl (isAgg22 _) (hb.d 1 5 (gS gZ))) (qb (ln (cbr h ?_ ?_)))))))<;>intro h
 refine jC (jI (jA (jG (eg (qb (q3 (xl (isAgg22 _) (hb.d 1 5 (gS gZ))) (q (qi (runUnderlying22 _) (sizeOf47 _) h fun a1 h=>?_))))))))
 obtain ⟨aN,aO,aP,aQ,aR,aS,hv1,h⟩:=h
 refine qa (isAgg47 _) (sizeOf47 _) hv1 (sc call33 (h.mono fun e w5 ⟨r1,r2,k,hk,h⟩=>have ⟨hs,hb⟩:=hk.hh hs hb;⟨_,k,?_⟩))
 refine q (qd (ln (jA (eg (qb (ln (cbr h ?_ ?_)))))))<;>intro h
 refine eg (qc (ln (er (zI (qX (zI (zI (qX (zI (kB (.inl rfl) results33 (v:=(vi 0)) (by kernel_rfl) (v':=(vi r2)) (by kernel_rfl) ⟨0,r2,rfl,h⟩))))))))))
 refine jC (jI (eg (qb (ln (jZ (fun ρ wJ=>∃b1'0:Bool,∃HJ:NP,((i1 == 0)=b1'0)∧Hst w0 Hl1 w5 HJ wJ∧HB HJ wJ [(p3,(Aa aA aB aC aK aF (cond b1'0 r1 aL) (cond b1'0 aM r1)),51),(p2,(Af aD aG aH aI aJ aE),47)]∧Has ρ [(0,(vp p1)),(3,(vp (some p2))),(6,(vp (some p3))),(7,(vi i1))]) ?_ ?_)))))
 refine zF (t:=(i1 == 0)) (by kernel_rfl) (fun hc4=>?_) (fun hc4=>?_)
 refine rg (qb (qE (jM rfl) (vJ (a:=(p3.add 5)) (v:=(vi r1)) (by kernel_rfl) (by kernel_rfl) rfl (sizeOf32 _) (hb.canW 0 5 gZ (by kernel_rfl))) ?_))
 intro w9 hn6
 have hsb:Hst w0 Hl1 w5 Hl1 w9∧HB Hl1 w9 [(p3,(Aa aA aB aC aK aF r1 aM),51),(p2,(Af aD aG aH aI aJ aE),47)]:=by
  rw [hn6];exact hb.set (i:=0) 5 (v:=(vi r1)) hs gZ (by kernel_rfl)
 obtain ⟨hs,hb⟩:=hsb
 refine ln ⟨true,_,hc4,hs,hb,hm⟩
 refine rg (qb (qE (jM rfl) (vJ (a:=(p3.add 6)) (v:=(vi r1)) (by kernel_rfl) (by kernel_rfl) rfl (sizeOf32 _) (hb.canW 0 6 gZ (by kernel_rfl))) ?_))
 intro w10 hn7
 have hsb:Hst w0 Hl1 w5 Hl1 w10∧HB Hl1 w10 [(p3,(Aa aA aB aC aK aF aL r1),51),(p2,(Af aD aG aH aI aJ aE),47)]:=by
  rw [hn7];exact hb.set (i:=0) 6 (v:=(vi r1)) hs gZ (by kernel_rfl)
 obtain ⟨hs,hb⟩:=hsb
 refine ln ⟨false,_,hc4,hs,hb,hm⟩
 rintro ρ w8 ⟨b1'0,H3,he0,hs,hb,hH⟩
 subst he0
 refine jP hH (qB (jI (rg (qc (jB ?_)))))
 have ⟨h,hs⟩:=hs.hr (h H3 w8)
 refine jI ⟨((q6.wrap (i1+1)),aA,aB,aC,aK,aF,(cond (i1 == 0) r1 aL),(cond (i1 == 0) aM r1),H3,w8),⟨rfl,hm,hs,hb,h.1⟩,h.2⟩
 refine zB (vG (vG (kQ (jI (eg (q0 (vp p1) (q2 (Ab aA aB aC aK aF aL aM) (xa p3 (Aa aA aB aC aK aF aL aM) (isAgg51 _) (sizeOf51 _) (hb.r0 0 7 gZ)) (sc call46 (h.mono fun e w11 ⟨r3,r4,k,hk,h⟩=>have ⟨hs,hb⟩:=hk.hh hs hb;⟨_,k,?_⟩)))))))))
 refine qd (ln (er (kB (.inl rfl) results33 (v:=(vi r3)) (by kernel_rfl) (v':=(vi r4)) (by kernel_rfl) ⟨r3,r4,rfl,h⟩)))
def m_N1 (p1:Option Addr) (n1:Int) (w0:World) (K:WP):Prop :=∃a1,p1=some a1∧∃v1:Sl,w0.cell? a1=some v1.v∧∃s1:Sl,(Instr.sliceAt 83 v1.v none (some (vi n1)) none).run prog w0=.ok s1.v w0∧∃a2,p1=some a2∧zS w0 a2∧∀w1,w1=w0.setCell a2 s1.v→∃a3,p1=some a3∧∃v2:Sl,w1.cell? (a3.add 1)=some v2.v∧∃s2:Sl,(Instr.sliceAt 72 v2.v none (some (vi n1)) none).run prog w1=.ok s2.v w1∧∃a4,p1=some a4∧zS w1 (a4.add 1)∧∀w2,w2=w1.setCell (a4.add 1) s2.v→∃a5,p1=some a5∧∃v3:Sl,w2.cell? (a5.add 2)=some v3.v∧∃s3:Sl,(Instr.sliceAt 72 v3.v none (some (vi n1)) none).run prog w2=.ok s3.v w2∧∃a6,p1=some a6∧zS w2 (a6.add 2)∧∀w3,w3=w2.setCell (a6.add 2) s3.v→K w3
theorem w_N1 (p1 n1 w0 K) (h:m_N1 p1 n1 w0 K):
  Calls prog 34 #[(vp p1),(vi n1)] w0 (fun e w'=>e=.returned (.tuple #[])∧K  w'):=by
 refine cw (args:=[(vp p1),(vi n1)]) func34 ntmps34 (eg (q0 (vp p1) (q0 (vp p1) ?_)))
 refine qm h fun a1 h=>q (ql (isAgg83 _) h fun v1 h=>q ?_)
 obtain ⟨s1,hv5,h⟩:=h
 refine q2 s1.v (qY (by kernel_rfl) (by kernel_rfl) (by kernel_rfl) (by kernel_rfl) hv5) (qm h fun a2 h=>q (st1 (sizeOf83 _) h fun w1 h=>ln (eg (qb (qm h fun a3 h=>q (ql (isAgg72 _) h fun v2 h=>q ?_))))))
 obtain ⟨s2,hv3,h⟩:=h
 refine q2 s2.v (qY (by kernel_rfl) (by kernel_rfl) (by kernel_rfl) (by kernel_rfl) hv3) (qm h fun a4 h=>q (st1 (sizeOf72 _) h fun w2 h=>ln (rg (qb (qm h fun a5 h=>q (ql (isAgg72 _) h fun v3 h=>q ?_))))))
 obtain ⟨s3,hv1,h⟩:=h
 refine q2 s3.v (qY (by kernel_rfl) (by kernel_rfl) (by kernel_rfl) (by kernel_rfl) hv1) (qm h fun a6 h=>q (st1 (sizeOf72 _) h fun w3 h=>jB (jGW (.inr rfl) results34 ⟨rfl,h⟩)))
def m_O1 (p1:Option Addr) (aD aG:Int) (aH aI:Int) (aJ:ByteArray) (aE:Sl) (w0:World) (K:Int→Int→WP):Prop :=∀H1 w1,Hst w0 None w0 H1 w1→Calls prog 32 #[(.agg #[(vi aD),(vi aG),(vi aH),(vu aI),(vs aJ),aE.v])] w1 (fun e w2=>∃r1,e=.returned (vi r1)∧Kept H1 w1 w2∧Br (r1 != 0) (K 0 r1 w2) (∃a1,p1=some a1∧∃v1:Sl,w2.cell? a1=some v1.v∧Calls prog 33 #[(vp p1),(.agg #[(vi aD),(vi aG),(vi aH),(vu aI),(vs aJ),aE.v])] w2 (fun e w3=>∃r2 r3,e=.returned (.tuple #[(vi r2),(vi r3)])∧Kept H1 w2 w3∧Br (r3 != 0) (Calls prog 34 #[(vp p1),(vi (v1.len:Int))] w3 (fun e w4=>e=.returned (.tuple #[])∧Kept H1 w3 w4∧K r2 r3 w4)) (K r2 r3 w3))))
theorem w_O1 (p1 aD aG aH aI aJ aE w0 K) (h:m_O1 p1 aD aG aH aI aJ aE w0 K):
  Calls prog 20 #[(vp p1),(.agg #[(vi aD),(vi aG),(vi aH),(vu aI),(vs aJ),aE.v])] w0 (fun e w'=>∃r4 r5,e=.returned (.tuple #[(vi r4),(vi r5)])∧K r4 r5 w'):=by
 refine cw (args:=[(vp p1),(Ag aD aG aH aI aJ aE)]) func20 ntmps20 ?_
 obtain ⟨hs,hb⟩:=st0 w0
 refine eg (nw3 (Af aD aG aH aI aJ aE) 47 hs hb xb fun p2 w1 H1 hs hb=>qb (ln (eg (q2 (Ag aD aG aH aI aJ aE) (xa p2 (Af aD aG aH aI aJ aE) (isAgg47 _) (sizeOf47 _) (hb.r0 0 6 gZ)) ?_))))
 have ⟨h,hs⟩:=hs.hr (h H1 w1)
 refine sc call32 (h.mono fun e w2 ⟨r1,k,hk,h⟩=>have ⟨hs,hb⟩:=hk.hh hs hb;⟨_,k,?_⟩)
 refine q (ln (jA (eg (qb (ln (cbr h ?_ ?_))))))<;>intro h
 refine eg (qc (ln (er (zI (kB (.inl rfl) results20 (v:=(vi 0)) (by kernel_rfl) (v':=(vi r1)) (by kernel_rfl) ⟨0,r1,rfl,h⟩)))))
 refine jC (jI (eg (q (qm h fun a1 h=>q (ql (isAgg83 _) h fun v1 h=>qb (ln (eg (q (q2 (Ag aD aG aH aI aJ aE) (xa p2 (Af aD aG aH aI aJ aE) (isAgg47 _) (sizeOf47 _) (hb.r0 0 6 gZ)) (sc call33 (h.mono fun e w3 ⟨r2,r3,k,hk,h⟩=>have ⟨hs,hb⟩:=hk.hh hs hb;⟨_,k,?_⟩)))))))))))
 refine q (qd (ln (jA (eg (qb (ln (cbr h ?_ ?_)))))))<;>intro h
 refine rg (qb (sc call34 (h.mono fun e w4 ⟨k,hk,h⟩=>have ⟨hs,hb⟩:=hk.hh hs hb;⟨_,k,?_⟩)))
 refine ln (eg (qd (ln (er (kB (.inl rfl) results20 (v:=(vi r2)) (by kernel_rfl) (v':=(vi r3)) (by kernel_rfl) ⟨r2,r3,rfl,h⟩)))))
 refine jC (jI (eg (qd (ln (er (kB (.inl rfl) results20 (v:=(vi r2)) (by kernel_rfl) (v':=(vi r3)) (by kernel_rfl) ⟨r2,r3,rfl,h⟩))))))
end Go.Proofs
end
section
open Go Go.SE
namespace Go.Proofs
attribute [local irreducible] Calls
theorem kW (k:Int):(k=1∨k=2∨k=3∨k=4∨k=5∨k=6∨k=7∨k=8∨k=9)∨(Sp.shapeOf k=Sp.noShape∧Sp.isKind k=false∧∀m:Int,1≤m→m≤9→(k == m)=false):=by
 by_cases h:k=1∨k=2∨k=3∨k=4∨k=5∨k=6∨k=7∨k=8∨k=9
 ·exact .inl h
 ·right;refine ⟨?_,?_,fun m h1 h2=>?_⟩
  ·unfold Sp.shapeOf;repeat rw [if_neg (by omega)]
  ·unfold Sp.isKind;apply Bool.eq_false_iff.2;intro h3;simp at h3;omega
  ·rw [beq_eq_false_iff_ne];omega
theorem uB (k:Int):s_B k=(Sp.shapeOf k).kids:=by
 rcases kW k with h | ⟨h,_,hm⟩
 ·rcases h with rfl | rfl | rfl | rfl | rfl | rfl | rfl | rfl | rfl <;> decide
 ·rw [h];unfold s_B;simp [hm,Sp.noShape]
theorem gI (k:Int):s_C k=(Sp.shapeOf k).frm:=by
 rcases kW k with h | ⟨h,_,hm⟩
 ·rcases h with rfl | rfl | rfl | rfl | rfl | rfl | rfl | rfl | rfl <;> decide
 ·rw [h];unfold s_C;simp [hm,Sp.noShape]
theorem tK (k:Int):((k == 8) || (k == 9))=(Sp.shapeOf k).to:=by
 rcases kW k with h | ⟨h,_,hm⟩
 ·rcases h with rfl | rfl | rfl | rfl | rfl | rfl | rfl | rfl | rfl <;> decide
 ·rw [h];simp [hm,Sp.noShape]
theorem jDX (k:Int):(k == 2)=(Sp.shapeOf k).num:=by
 rcases kW k with h | ⟨h,_,hm⟩
 ·rcases h with rfl | rfl | rfl | rfl | rfl | rfl | rfl | rfl | rfl <;> decide
 ·rw [h];simp [hm,Sp.noShape]
theorem jCQ (k:Int):(k == 3)=(Sp.shapeOf k).text:=by
 rcases kW k with h | ⟨h,_,hm⟩
 ·rcases h with rfl | rfl | rfl | rfl | rfl | rfl | rfl | rfl | rfl <;> decide
 ·rw [h];simp [hm,Sp.noShape]
theorem jCR (k:Int):(!(decide (k<1) || decide (k>9)))=Sp.isKind k:=by
 unfold Sp.isKind;by_cases h1:k<1 <;> by_cases h2:k>9 <;> simp [h1,h2] <;> omega
theorem ite53 (q:Bool):decide ((if q=true then (53:Int) else 0)=0)=!q:=by cases q <;> rfl
def Sp.nodeErr (n:Sp.Node):Int :=
 if Sp.jW n≠0 then 53 else if (decide ((Sp.shapeOf n.kind).kids<1) && n.a != 0) || (decide ((Sp.shapeOf n.kind).kids<2) && n.b != 0) then 53 else Sp.jV (Sp.shapeOf n.kind) n
theorem jAW (n:Sp.Node):s_T n.kind n.frm n.to n.num n.text n.a n.b=(decide (Sp.jW n=0) && !((decide ((Sp.shapeOf n.kind).kids<1) && n.a != 0) || (decide ((Sp.shapeOf n.kind).kids<2) && n.b != 0))):=by
 obtain ⟨k,f,t,u,x,a,b⟩:=n;unfold s_T Sp.jW;simp only [uB,gI,tK k,jDX k,jCQ k,jCR];have hk:=Sp.gR k;generalize Sp.shapeOf k=s at *;obtain ⟨s1,s2,s3,s4,s5⟩:=s;generalize Sp.isKind k=i;have e1:decide (s5≥1)=!decide (s5<1):=by by_cases h:s5<1 <;> simp [h] <;> omega
 have e2:(s5 == 2)=!decide (s5<2):=by
  by_cases h:s5<2
  ·simp [h];omega
  ·simp [h];simp at hk;omega
 simp only [e1,e2,bne,ite53];generalize (f == 0)=c1;generalize (t == 0)=c2;generalize (u == 0)=c3;generalize decide (x=⟨#[]⟩)=c4;generalize (a == 0)=c5;generalize (b == 0)=c6;generalize decide (s5<1)=c7;generalize decide (s5<2)=c8;cases i <;> cases s1 <;> cases s2 <;> cases s3 <;> cases s4 <;> cases c1 <;> cases c2 <;> cases c3 <;> cases c4 <;> simp
theorem gH (n:Sp.Node):s_G n.kind n.frm n.to n.num n.text n.a n.b=Sp.nodeErr n:=by
 unfold s_G Sp.nodeErr;rw [jAW,gI,tK];by_cases h1:Sp.jW n=0
 ·by_cases h2:((decide ((Sp.shapeOf n.kind).kids<1) && n.a != 0) || (decide ((Sp.shapeOf n.kind).kids<2) && n.b != 0))=true
  ·rw [h2];simp [h1]
  ·have h2:((decide ((Sp.shapeOf n.kind).kids<1) && n.a != 0) || (decide ((Sp.shapeOf n.kind).kids<2) && n.b != 0))=false:=by simpa using h2
   rw [h2];simp only [h1,ne_eq,not_true_eq_false,if_false,Bool.false_eq_true,decide_true,Bool.not_false,Bool.and_true,Bool.not_true,cond_false];unfold Sp.jV Sp.uN;have e1:(decide (n.frm≥0) && decide (n.frm<16))=(decide (0≤n.frm) && decide (n.frm<16)):=rfl;have e2:(decide (n.to≥0) && decide (n.to<16))=(decide (0≤n.to) && decide (n.to<16)):=rfl;have e3:(n.frm == n.to)=(n.to == n.frm):=by rw [Bool.eq_iff_iff];simp only [beq_iff_eq];exact eq_comm
   rw [e1,e2,e3];have e4:decide (((n.text.size:Int))>64)=decide (n.text.size>64):=decide_eq_decide.2 (by omega);rw [e4];generalize ((Sp.shapeOf n.kind).frm && !(decide (0≤n.frm) && decide (n.frm<16)) || (Sp.shapeOf n.kind).to && (!(decide (0≤n.to) && decide (n.to<16)) || n.to == n.frm))=c;cases c
   ·by_cases h:n.text.size>64 <;> simp [h]
   ·rfl
 ·simp [h1]
end Go.Proofs
end
section
open Go Go.SE
namespace Go.Proofs
open Try
attribute [local irreducible] Calls
theorem jBS:SlType prog 83 51 7 64:=by
 refine ⟨underlying83,⟨t51,_,by kernel_rfl,(by kernel_rfl:t51.zero=some (.agg #[.int .i64 0,.int .i64 0,.int .i64 0,.int .u64 0,.string ⟨#[]⟩,.int .i64 0,.int .i64 0])),by kernel_rfl,by kernel_rfl,rfl⟩,by omega⟩
theorem oB:SlType prog 72 3 1 8:=by
 refine ⟨underlying72,⟨t3,_,by kernel_rfl,(by kernel_rfl:t3.zero=some (.int .i64 0)),by kernel_rfl,by kernel_rfl,rfl⟩,by omega⟩
def jHN (e:Sp.Ent):List Value:=yV e.node
def jHL (e:Sp.Ent):List Value:=[.int .i64 e.size]
def jEA (e:Sp.Ent):List Value:=[.int .i64 e.depth]
structure PoolRS (w:World) (p:Addr) (L:Sp.Pool) (s1 s2 s3:Sl):Prop where
 box:Box w p [s1.v,s2.v,s3.v] 85
 r1:Rws w 51 7 s1 (L.map jHN)
 r2:Rws w 3 1 s2 (L.map jHL)
 r3:Rws w 3 1 s3 (L.map jEA)
 n1:¬ s1.blk p.block
 n2:¬ s2.blk p.block
 n3:¬ s3.blk p.block
 d12:∀b,s1.blk b→¬ s2.blk b
 d13:∀b,s1.blk b→¬ s3.blk b
 d23:∀b,s2.blk b→¬ s3.blk b
def kD (w:World) (p:Addr) (L:Sp.Pool) (F:NP):Prop:=∃s1 s2 s3,PoolRS w p L s1 s2 s3∧∀b,F b↔(b=p.block∨s1.blk b∨s2.blk b∨s3.blk b)
theorem kD.ext {G:NP} {w w':World} {p:Addr} {L:Sp.Pool} {F:NP} (h:kD w p L F) (hE:Ext G w w') (hd:∀b,F b→¬ G b):kD w' p L F:=by
 obtain ⟨s1,s2,s3,h,hF⟩:=h;exact ⟨s1,s2,s3,⟨h.box.ext hE (hd _ ((hF _).2 (.inl rfl))),h.r1.ext hE (fun b hb=>hd _ ((hF _).2 (.inr (.inl hb)))),h.r2.ext hE (fun b hb=>hd _ ((hF _).2 (.inr (.inr (.inl hb))))),h.r3.ext hE (fun b hb=>hd _ ((hF _).2 (.inr (.inr (.inr hb))))),h.n1,h.n2,h.n3,h.d12,h.d13,h.d23⟩,hF⟩
theorem kD.pure {w w':World} {p:Addr} {L:Sp.Pool} {F:NP} (h:kD w p L F) (hE:Pure w w'):kD w' p L F:=h.ext hE (fun _ _ h=>h)
theorem kD.lt {w:World} {p:Addr} {L:Sp.Pool} {F:NP} (h:kD w p L F) {b:Nat} (hb:F b):b<w.heap.size:=by
 obtain ⟨s1,s2,s3,h,hF⟩:=h;rcases (hF b).1 hb with rfl | hb | hb | hb
 ·exact h.box.lt
 ·exact h.r1.lt hb
 ·exact h.r2.lt hb
 ·exact h.r3.lt hb
theorem jBJ (w0:World):Calls prog 16 #[] w0 (fun e w'=>∃r:Option Addr,e=.returned (.pointer r)∧∃p F,r=some p∧kD w' p [] F∧Pure w0 w'∧∀b,F b→w0.heap.size≤b):=by
 refine w_E3 w0 (fun r w'=>∃p F,r=some p∧kD w' p [] F∧Pure w0 w'∧∀b,F b→w0.heap.size≤b) ?_;unfold m_E3;have hnil:∀b,¬ Sl.nil.blk b:=fun b hb=>by obtain ⟨a,h,_⟩:=hb;cases h
 intro p w1 h1;have b1:=Box.of_new h1;have E1:Pure w0 w1:=Ext.new h1
 first
  | exact ⟨p,(·=p.block),rfl,⟨Sl.nil,Sl.nil,Sl.nil,⟨b1,Rws.nil _ _ _,Rws.nil _ _ _,Rws.nil _ _ _,hnil _,hnil _,hnil _,fun b h=>(hnil b h).elim,fun b h=>(hnil b h).elim,fun b h=>(hnil b h).elim⟩,fun b=>by simp [hnil]⟩,E1,fun b hb=>by subst hb;exact New.own (Ext.refl w0) h1⟩
  | skip
theorem qR (p:Addr) (t:Int) (w0:World) {L:Sp.Pool} {F:NP} (hP:kD w0 p L F):Calls prog 81 #[.pointer (some p),.int .i64 t] w0 (fun e w'=>∃r:Bool,e=.returned (.bool r)∧(r=Sp.inP L t∧w'=w0)):=by
 refine w_G3 _ _ w0 (fun r w'=>r=Sp.inP L t∧w'=w0) ?_;unfold m_G3;obtain ⟨s1,s2,s3,h,hF⟩:=hP;have hl:s1.len=L.length:=by rw [h.r1.len];simp
 refine ⟨fun hc=>⟨p,rfl,s1,h.box.cell0,?_,rfl⟩,fun hc=>⟨?_,rfl⟩⟩
 ·have:=of_decide_eq_true hc;rw [hl];simp [Sp.inP,this]
 ·have:=of_decide_eq_false hc;simp [Sp.inP];omega
theorem PoolRS.at1 {w:World} {p:Addr} {L:Sp.Pool} {s1 s2 s3:Sl} (h:PoolRS w p L s1 s2 s3) {t:Int} (ht:Sp.inP L t=true) (hok:Sp.Ok L):∃e,Sp.get L t=some e ∧
  (∃a,At s1 (IntKind.i64.wrap (t - 1)) 7 a∧Row w a (jHN e))∧(∃a,At s2 (IntKind.i64.wrap (t - 1)) 1 a∧Row w a (jHL e))∧(∃a,At s3 (IntKind.i64.wrap (t - 1)) 1 a∧Row w a (jEA e)):=by
 obtain ⟨e,he,_,hi,hLe⟩:=Sp.uU ht
 have hin:=Sp.kG.1 ht
 have hf:=hok.few
 have hw:IntKind.i64.wrap (t - 1)=((t - 1).toNat:Int):=by rw [i64 (by omega) (by omega)];omega
 obtain ⟨a1,h1,g1⟩:=h.r1.nth (j:=(t - 1).toNat) hi
 obtain ⟨a2,h2,g2⟩:=h.r2.nth (j:=(t - 1).toNat) hi
 obtain ⟨a3,h3,g3⟩:=h.r3.nth (j:=(t - 1).toNat) hi
 rw [hLe] at g1 g2 g3
 rw [hw]
 exact ⟨e,he,⟨a1,h1,g1⟩,⟨a2,h2,g2⟩,⟨a3,h3,g3⟩⟩
theorem uQ (p:Addr) (t:Int) (w0:World) {L:Sp.Pool} {F:NP} (hP:kD w0 p L F) (hok:Sp.Ok L):Calls prog 82 #[.pointer (some p),.int .i64 t] w0 (fun e w'=>∃r:Int,e=.returned (.int .i64 r)∧(r=Sp.sizeOf L t∧w'=w0)):=by
 refine w_H3 _ _ w0 (fun r w'=>r=Sp.sizeOf L t∧w'=w0) ?_;unfold m_H3;refine (qR p t w0 hP).mono ?_;rintro _ _ ⟨_,rfl,rfl,rfl⟩;refine ⟨_,rfl,fun h=>⟨?_,rfl⟩,fun h=>?_⟩
 ·have h:Sp.inP L t=false:=by simpa using h
  simp [Sp.sizeOf,Sp.vI h]
 ·have h:Sp.inP L t=true:=by simpa using h
  obtain ⟨s1,s2,s3,hS,hF⟩:=hP;obtain ⟨e,he,_,⟨a,hat,hr⟩,_⟩:=hS.at1 h hok;exact ⟨p,rfl,s2,hS.box.cell rfl,a,hat,_,qP hr,by simp [Sp.sizeOf,he],rfl⟩
theorem yR (p:Addr) (t:Int) (w0:World) {L:Sp.Pool} {F:NP} (hP:kD w0 p L F) (hok:Sp.Ok L):Calls prog 83 #[.pointer (some p),.int .i64 t] w0 (fun e w'=>∃r:Int,e=.returned (.int .i64 r)∧(r=Sp.depthOf L t∧w'=w0)):=by
 refine w_I3 _ _ w0 (fun r w'=>r=Sp.depthOf L t∧w'=w0) ?_;unfold m_I3;refine (qR p t w0 hP).mono ?_;rintro _ _ ⟨_,rfl,rfl,rfl⟩;refine ⟨_,rfl,fun h=>⟨?_,rfl⟩,fun h=>?_⟩
 ·have h:Sp.inP L t=false:=by simpa using h
  simp [Sp.depthOf,Sp.vI h]
 ·have h:Sp.inP L t=true:=by simpa using h
  obtain ⟨s1,s2,s3,hS,hF⟩:=hP;obtain ⟨e,he,_,_,⟨a,hat,hr⟩⟩:=hS.at1 h hok;exact ⟨p,rfl,s3,hS.box.cell rfl,a,hat,_,qP hr,by simp [Sp.depthOf,he],rfl⟩
theorem jFT (m n:Sp.Node):((m.kind == n.kind) && ((m.frm == n.frm) && ((m.to == n.to) && ((m.num == n.num) && ((decide (m.text=n.text)) && ((m.a == n.a) && (m.b == n.b)))))))=decide (m=n):=by
 obtain ⟨k,f,t,u,x,a,b⟩:=m;obtain ⟨k',f',t',u',x',a',b'⟩:=n;rw [Bool.eq_iff_iff];simp
theorem jBK (p:Addr) (n:Sp.Node) (w0:World) {L:Sp.Pool} {F:NP} (hP:kD w0 p L F) (hok:Sp.Ok L):Calls prog 84 #[.pointer (some p),gO n] w0
  (fun e w'=>∃r:Int,∃ok:Bool,e=.returned (.tuple #[.int .i64 r,.bool ok])∧((match Sp.find L n with | some i=>r=(i:Int)+1∧ok=true | none=>r=0∧ok=false)∧Pure w0 w')):=by
 obtain ⟨k,f,t,u,x,a,b⟩:=n
 generalize hn:(⟨k,f,t,u,x,a,b⟩:Sp.Node)=n
 have hnk:gO n=.agg #[.int .i64 k,.int .i64 f,.int .i64 t,.int .u64 u,.string x,.int .i64 a,.int .i64 b]:=by rw [← hn];rfl
 rw [hnk]
 suffices key:∀K:Int→Bool→WP,(∀r ok w',((match Sp.find L n with | some i=>r=(i:Int)+1∧ok=true | none=>r=0∧ok=false)∧Pure w0 w')→K r ok w')→m_Z (some p) k f t u x a b w0 K from
  w_Z _ _ _ _ _ _ _ _ w0 _ (key _ (fun _ _ _ h=>h))
 intro K hK
 unfold m_Z
 intro H1 w1 hs1
 refine ⟨fun i H w'=>∃j:Nat,i=j∧j≤L.length∧Pure w0 w'∧∀q,q<j→∀e,L[q]?=some e→e.node≠n,fun i _=>((L.length:Int) - i).toNat,⟨0,rfl,Nat.zero_le _,hs1.first,fun q hq=>absurd hq (by omega)⟩,?_⟩
 rintro _ Hl wl hl ⟨j,rfl,hj,El,hno⟩
 unfold m_Z_l1
 obtain ⟨s1,s2,s3,hS,hF⟩:=hP.pure El
 have hf:=hok.few
 have hlen:s1.len=L.length:=by rw [hS.r1.len];simp
 refine ⟨p,rfl,s1,hS.box.cell0,fun h=>?_,fun h=>?_⟩
 ·have hlt:=zR hlen h
  refine ⟨p,rfl,?_⟩
  intro w2 hs2
  have E2:=El.hst hs2
  obtain ⟨s1',s2',s3',hS',_⟩:=hP.pure E2
  obtain ⟨a',hat,hr⟩:=hS'.r1.nth hlt
  refine ⟨s1',hS'.box.cell0,a',hat,_,_,_,_,_,_,_,hr,?_⟩
  have hB:=jFT L[j].node n
  rw [← hn] at hB
  simp only at hB
  rw [hB,hn]
  refine ⟨fun h=>?_,fun h=>?_⟩
  ·have h:=of_decide_eq_true h
   rw [zE hlt (by omega)]
   refine hK _ _ _ ⟨?_,E2⟩
   have hfd:Sp.find L n=some j:=by
    unfold Sp.find;rw [List.findIdx?_eq_some_iff_getElem];exact ⟨hlt,by simp [h],fun q hq=>by simpa using hno q hq _ (List.getElem?_eq_getElem (by omega))⟩
   rw [hfd];exact ⟨by omega,rfl⟩
  ·have h:=of_decide_eq_false h
   rw [zE hlt (by omega)]
   refine ⟨⟨j+1,rfl,hlt,E2,fun q hq e he=>?_⟩,kN hlt⟩
   by_cases hqj:q=j
   ·subst hqj;rw [List.getElem?_eq_getElem hlt] at he;cases he;exact h
   ·exact hno q (by omega) e he
 ·have hge:=zY hlen hj h
  subst hge
  refine hK _ _ _ ⟨?_,El⟩
  have hfd:Sp.find L n=none:=tZ (fun e he=>by
   obtain ⟨q,hq,rfl⟩:=List.mem_iff_getElem.1 he;exact hno q hq _ (List.getElem?_eq_getElem hq))
  rw [hfd];exact ⟨rfl,rfl⟩
theorem xB {P:Program} {t ty e:TypeId} {sz bytes:Nat} (T:SlType P t e sz bytes) {w:World} {p:Addr} {c:List Value} {Tp:TypeId} (hB:Box w p c Tp) {s:Sl} {rs:List (List Value)} (hR:Rws w e sz s rs) (hp:¬ s.blk p.block) {a:Addr} {r:List Value} (hr:Row w a r) (hl:r.length=sz) (h1:r.all zL=true) (hb:(rs.length+1)*bytes≤140737488355328) (hm:rs.length+1≤maxLen) :
  ∃s' w',(Builtin.append_ #[t,t] ty #[s.v,(Sl.mk (some a) 1 1).v]).run P w=.ok s'.v w'∧Rws w' e sz s' (rs++[r])∧Box w' p c Tp∧¬ s'.blk p.block∧Ext s.blk w w'∧(∀b,s'.blk b→s.blk b∨w.heap.size≤b):=by
 obtain ⟨s',w',hr',hR',hE,hb'⟩:=hR.append T (ty:=ty) (c:=1) hr hl h1 hb hm
 exact ⟨s',w',hr',hR',hB.ext hE hp,fun h=>(hb' _ h).elim hp (fun h=>by have:=hB.lt;omega),hE,hb'⟩
theorem uL (n:Sp.Node):Sp.jW n=53∨Sp.jW n=0:=by
 unfold Sp.jW;simp only;split
 ·exact .inl rfl
 ·exact .inr rfl
theorem jAG (p:Addr) (n:Sp.Node) (w0:World) {L:Sp.Pool} {F:NP} (hP:kD w0 p L F) (hok:Sp.Ok L):Calls prog 46 #[.pointer (some p),gO n] w0
  (fun e w'=>∃r1 r2:Int,e=.returned (.tuple #[.int .i64 r1,.int .i64 r2])∧((r1,r2)=((Sp.make L n).1,(Sp.make L n).2.1)∧∃F',kD w' p (Sp.make L n).2.2 F'∧Ext F w0 w'∧∀b,F' b→F b∨w0.heap.size≤b)):=by
 obtain ⟨k,f,t,u,x,a,b⟩:=n
 generalize hn:(⟨k,f,t,u,x,a,b⟩:Sp.Node)=n
 have hnk:gO n=.agg #[.int .i64 k,.int .i64 f,.int .i64 t,.int .u64 u,.string x,.int .i64 a,.int .i64 b]:=by rw [← hn];rfl
 rw [hnk]
 suffices key:∀K:Int→Int→WP,(∀r1 r2 w',((r1,r2)=((Sp.make L n).1,(Sp.make L n).2.1)∧∃F',kD w' p (Sp.make L n).2.2 F'∧Ext F w0 w'∧∀b,F' b→F b∨w0.heap.size≤b)→K r1 r2 w')→m_J (some p) k f t u x a b w0 K from
  w_J _ _ _ _ _ _ _ _ w0 _ (key _ (fun _ _ _ h=>h))
 intro K hK
 have hsh:=gH n
 have hkd:=uB k
 rw [← hn] at hsh
 simp only at hsh
 rw [hn] at hsh
 have hna:n.a=a:=by rw [← hn]
 have hnb:n.b=b:=by rw [← hn]
 have hnkk:n.kind=k:=by rw [← hn]
 have hk:=Sp.gR k
 have jCS:∀(r1 r2:Int) (w':World),Pure w0 w'→Sp.make L n=(r1,r2,L)→K r1 r2 w':=fun r1 r2 w' E h=>hK _ _ _ ⟨by rw [h],F,by rw [h];exact hP.pure E,E.pure,fun b h=>.inl h⟩
 have bad:∀(er:Int) (w':World),er≠0→Pure w0 w'→Sp.check L n=(0,0,er)→K 0 er w':=fun er w' h0 E h=>jCS 0 er w' E (by unfold Sp.make;simp [h,h0])
 unfold m_J
 rw [hsh,hkd]
 have good:Sp.nodeErr n=0→Sp.check L n=(if (Sp.jR n).any (fun t=>!Sp.inP L t) then (0,0,51) else if 1+((Sp.jR n).map (Sp.sizeOf L)).sum>4096∨(Sp.jR n).foldl (fun d t=>max d (Sp.depthOf L t)) 0+1>64 then (0,0,52) else (1+((Sp.jR n).map (Sp.sizeOf L)).sum,(Sp.jR n).foldl (fun d t=>max d (Sp.depthOf L t)) 0+1,0)):=by
  intro h;unfold Sp.nodeErr at h;unfold Sp.check;split at h
  ·cases h
  ·rename_i h1;simp only;rw [if_neg h1];split at h
   ·cases h
   ·rename_i h2;rw [if_neg h2,if_neg (by simpa using h)]
 refine ⟨fun h=>?_,fun h=>?_⟩
 ·intro H1 w2 hs2
  have h:Sp.nodeErr n≠0:=by simpa using h
  refine bad _ _ h hs2.first ?_
  unfold Sp.nodeErr at h ⊢
  unfold Sp.check
  by_cases h1:Sp.jW n≠0
  ·rw [if_pos h1,if_pos h1]
   have:Sp.jW n=53:=(uL n).resolve_right h1
   rw [this]
  ·rw [if_neg h1] at h ⊢
   simp only
   rw [if_neg h1]
   by_cases h2:((decide ((Sp.shapeOf n.kind).kids<1) && n.a != 0) || (decide ((Sp.shapeOf n.kind).kids<2) && n.b != 0))=true
   ·rw [if_pos h2,if_pos h2]
   ·rw [if_neg h2] at h ⊢;rw [if_neg h2,if_pos h]
 have h0:Sp.nodeErr n=0:=by simpa using h
 have hchk:=good h0
 have hzero:((Sp.shapeOf k).kids<1→a=0)∧((Sp.shapeOf k).kids<2→b=0):=by
  unfold Sp.nodeErr at h0;split at h0
  ·cases h0
  ·split at h0
   ·cases h0
   ·rename_i _ h2;rw [hnkk,hna,hnb] at h2;simp at h2;exact h2
 have hz0:Sp.inP L 0=false:=by simp [Sp.inP]
 have hs0:Sp.sizeOf L 0=0:=by simp [Sp.sizeOf,Sp.get,hz0]
 have hd0:Sp.depthOf L 0=0:=by simp [Sp.depthOf,Sp.get,hz0]
 have hsa:=hok.sizeOf a
 have hsb:=hok.sizeOf b
 have hda:=hok.depthOf a
 have hdb:=hok.depthOf b
 have hany:(Sp.jR n).any (fun t=>!Sp.inP L t)=((decide (1≤(Sp.shapeOf k).kids) && !Sp.inP L a) || (decide ((Sp.shapeOf k).kids=2) && !Sp.inP L b)):=by
  unfold Sp.jR;rw [hnkk,hna,hnb];rcases hk with h | h | h <;> rw [h] <;> simp
 have hsum:((Sp.jR n).map (Sp.sizeOf L)).sum=Sp.sizeOf L a+Sp.sizeOf L b:=by
  unfold Sp.jR;rw [hnkk,hna,hnb];rcases hk with h | h | h <;> rw [h] <;> simp
  ·rw [hzero.1 (by omega),hzero.2 (by omega),hs0];rfl
  ·rw [hzero.2 (by omega),hs0];omega
 have hmax:(Sp.jR n).foldl (fun d t=>max d (Sp.depthOf L t)) 0=max (Sp.depthOf L a) (Sp.depthOf L b):=by
  unfold Sp.jR;rw [hnkk,hna,hnb];rcases hk with h | h | h <;> rw [h] <;> simp
  ·rw [hzero.1 (by omega),hzero.2 (by omega),hd0];omega
  ·rw [hzero.2 (by omega),hd0];omega
  ·omega
 rw [hany,hsum,hmax] at hchk
 have J1:∀(x1:Bool) (H:NP) (w:World),Hst w0 H w H w→Pure w0 w→x1=((decide (1≤(Sp.shapeOf k).kids) && !Sp.inP L a) || (decide ((Sp.shapeOf k).kids=2) && !Sp.inP L b))→m_J_j1 (some p) k f t u x a b x1 w0 H w K:=by
  intro x1 H w hs E hx;rw [← hx] at hchk;unfold m_J_j1;refine ⟨fun h=>bad 51 w (by omega) E (by rw [hchk,h];rfl),fun h=>?_⟩;rw [h,if_neg (by simp)] at hchk;refine ⟨fun _=>True,trivial,?_⟩;rintro _ rfl;have Ed:Pure w0 w.drew:=E.trans (Ext.drew w);refine (uQ p a w.drew (hP.pure Ed) hok).mono ?_;rintro _ _ ⟨_,rfl,rfl,rfl⟩;refine ⟨_,rfl,trivial,Kept.refl _,?_⟩;refine (uQ p b w.drew (hP.pure Ed) hok).mono ?_;rintro _ _ ⟨_,rfl,rfl,rfl⟩;refine ⟨_,rfl,trivial,Kept.refl _,fun _=>True,trivial,?_⟩;rintro _ rfl;have Ed2:Pure w0 w.drew.drew:=Ed.trans (Ext.drew w.drew);refine (yR p a w.drew.drew (hP.pure Ed2) hok).mono ?_;rintro _ _ ⟨_,rfl,rfl,rfl⟩;refine ⟨_,rfl,trivial,Kept.refl _,?_⟩;refine (yR p b w.drew.drew (hP.pure Ed2) hok).mono ?_;rintro _ _ ⟨_,rfl,rfl,rfl⟩;refine ⟨_,rfl,trivial,Kept.refl _,_,fun w' _=>run_max_int2 _ _ _ _ _ _ _,?_⟩;have hmx:(if Sp.depthOf L b>Sp.depthOf L a then Sp.depthOf L b else Sp.depthOf L a)=max (Sp.depthOf L a) (Sp.depthOf L b):=by
   split <;> omega
  generalize hz:(if Sp.depthOf L b>Sp.depthOf L a then Sp.depthOf L b else Sp.depthOf L a)=z at *;have hz64:0≤z∧z≤64:=by rw [hmx];omega
  have e1:IntKind.i64.wrap (IntKind.i64.wrap (1+Sp.sizeOf L a)+Sp.sizeOf L b)=1+(Sp.sizeOf L a+Sp.sizeOf L b):=by
   rw [i64 (n:=1+Sp.sizeOf L a) (by omega) (by omega),i64 (by omega) (by omega)];omega
  have e2:IntKind.i64.wrap (1+z)=z+1:=by rw [i64 (by omega) (by omega)];omega
  rw [e1,e2];rw [← hmx] at hchk;rintro y1 rfl;have hsx:Hst w0 H w.drew.drew H w.drew.drew:=(hs.drew.here.drew).here;refine ⟨fun h=>?_,fun h=>?_⟩
  ·intro H2 w10 hs10;refine bad 52 w10 (by omega) (Ed2.hst hs10) ?_;rw [hchk,if_pos (by simpa using h)]
  ·intro H2 w10 hs10;have hck:Sp.check L n=(1+(Sp.sizeOf L a+Sp.sizeOf L b),z+1,0):=by rw [hchk,if_neg (by simp at h;omega)]
   have E10:=Ed2.hst hs10;rw [← hnk];refine (jBK p n w10 (hP.pure E10) hok).mono ?_;rintro _ w11 ⟨r,ok,rfl,hfd,E11⟩;refine ⟨_,_,rfl,E11.keptP,?_⟩;have E11':=E10.trans E11;have hs11:Hst w0 H2 w11 H2 w11:=hs10.again E11.keptP;cases hf:Sp.find L n with
   | some i =>
    rw [hf] at hfd
    obtain ⟨rfl,rfl⟩:=hfd
    exact Br.t rfl (jCS _ _ _ E11' (by unfold Sp.make;simp [hck,hf]))
   | none =>
    rw [hf] at hfd
    obtain ⟨rfl,rfl⟩:=hfd
    refine Br.f rfl ?_
    obtain ⟨s1,s2,s3,hS,hF⟩:=hP.pure E11'
    have hlen:s1.len=L.length:=by rw [hS.r1.len];simp
    refine ⟨p,rfl,s1,hS.box.cell0,fun h=>?_,fun h=>?_⟩
    ·have h2:65536≤L.length:=by have h:=of_decide_eq_true h;omega
     exact jCS _ _ _ E11' (by unfold Sp.make;simp [hck,hf,h2])
    ·have h2:¬ 65536≤L.length:=by have h:=of_decide_eq_false h;omega
     have hmk:Sp.make L n=((L.length:Int)+1,0,L++[⟨n,1+(Sp.sizeOf L a+Sp.sizeOf L b),z+1⟩]):=by unfold Sp.make;simp [hck,hf,h2]
     have hvis:∀b,F b→¬ H2 b:=fun b hb h2=>by have:=hP.lt hb;have:=hs11.old b h2;omega
     have hpF:F p.block:=(hF _).2 (.inl rfl)
     refine ⟨fun w'=>w'.cell? p=some s1.v,hS.box.cell0,?_⟩
     rintro _ rfl
     have E12:Pure w11 w11.drew:=Ext.drew w11
     refine ⟨p,rfl,s1,fun w' h'=>h',?_⟩
     intro p3 w13 h13
     have E13:Pure w11 w13:=E12.trans (Ext.new h13)
     have B13:=hS.box.pure E13
     refine ⟨B13.cell0,?_⟩
     obtain ⟨t1,w14,hr14,R14,B14,np1,X14,nb1⟩:=xB (P:=prog) (ty:=83) jBS B13 (hS.r1.pure E13) hS.n1 (a:=p3) (r:=yV n) (by rw [← hn];exact (Box.of_new h13).row) rfl rfl (by simp;omega) (by simp [maxLen];omega)
     refine ⟨t1,w14,hr14,B14.cell0,X14.kept (fun b hb h=>hvis b ((hF b).2 (.inr (.inl h))) hb),p,rfl,B14.canW0 (by simp),hvis _ hpF,?_⟩
     rintro w15 hw15
     have B15:Box w15 p [t1.v,s2.v,s3.v] 85:=by rw [hw15];exact B14.set0
     have X15:Ext (·=p.block) w14 w15:=by rw [hw15];exact Ext.setCell p _
     clear hw15
     have R15:=R14.ext X15 (fun b hb e=>np1 (e▸hb))
     have R2:=((hS.r2.pure E13).ext X14 (fun b h2 h1=>hS.d12 b h1 h2)).ext X15 (fun b hb e=>hS.n2 (e▸hb))
     have R3:=((hS.r3.pure E13).ext X14 (fun b h2 h1=>hS.d13 b h1 h2)).ext X15 (fun b hb e=>hS.n3 (e▸hb))
     have d12':∀b,t1.blk b→¬ s2.blk b:=fun b hb h2=>(nb1 b hb).elim (fun h=>hS.d12 b h h2) (fun h=>by have:=hS.r2.lt h2;have:=E13.size;omega)
     have d13':∀b,t1.blk b→¬ s3.blk b:=fun b hb h2=>(nb1 b hb).elim (fun h=>hS.d13 b h h2) (fun h=>by have:=hS.r3.lt h2;have:=E13.size;omega)
     refine ⟨p,rfl,s2,B15.cell rfl,?_⟩
     intro p4 w16 h16
     have E16:Pure w15 w16:=Ext.new h16
     have B16:=B15.pure E16
     obtain ⟨t2,w17,hr17,R17,B17,np2,X17,nb2⟩:=xB (P:=prog) (ty:=72) oB B16 (R2.pure E16) hS.n2 (a:=p4) (r:=[.int .i64 (1+(Sp.sizeOf L a+Sp.sizeOf L b))]) (Box.of_new h16).row rfl rfl (by simp;omega) (by simp [maxLen];omega)
     refine ⟨t2,w17,hr17,X17.kept (fun b hb h=>hvis b ((hF b).2 (.inr (.inr (.inl h)))) hb),p,rfl,B17.canW (by simp),by rw [jK];exact hvis _ hpF,?_⟩
     rintro w18 hw18
     have B18:Box w18 p [t1.v,t2.v,s3.v] 85:=by rw [hw18];exact B17.set 1 _
     have X18:Ext (·=p.block) w17 w18:=by rw [hw18];have:=Ext.setCell (w:=w17) (p.add 1) t2.v;rw [jK] at this;exact this
     clear hw18
     have Q1:=((R15.pure E16).ext X17 (fun b h1 h2=>d12' b h1 h2)).ext X18 (fun b hb e=>np1 (e▸hb))
     have Q2:=R17.ext X18 (fun b hb e=>np2 (e▸hb))
     have Q3:=((R3.pure E16).ext X17 (fun b h3 h2=>hS.d23 b h2 h3)).ext X18 (fun b hb e=>hS.n3 (e▸hb))
     have d12'':∀b,t1.blk b→¬ t2.blk b:=fun b hb h2=>(nb2 b h2).elim (fun h=>d12' b hb h) (fun h=>by have:=(R15.pure E16).lt hb;omega)
     have d23':∀b,t2.blk b→¬ s3.blk b:=fun b hb h2=>(nb2 b hb).elim (fun h=>hS.d23 b h h2) (fun h=>by have:=(R3.pure E16).lt h2;omega)
     refine ⟨p,rfl,s3,B18.cell rfl,?_⟩
     intro p5 w19 h19
     have E19:Pure w18 w19:=Ext.new h19
     have B19:=B18.pure E19
     obtain ⟨t3,w20,hr20,R20,B20,np3,X20,nb3⟩:=xB (P:=prog) (ty:=72) oB B19 (Q3.pure E19) hS.n3 (a:=p5) (r:=[.int .i64 (z+1)]) (Box.of_new h19).row rfl rfl (by simp;omega) (by simp [maxLen];omega)
     refine ⟨t3,w20,hr20,X20.kept (fun b hb h=>hvis b ((hF b).2 (.inr (.inr (.inr h)))) hb),p,rfl,B20.canW (by simp),by rw [jK];exact hvis _ hpF,?_⟩
     rintro w21 hw21
     have B21:Box w21 p [t1.v,t2.v,t3.v] 85:=by rw [hw21];exact B20.set 2 _
     have X21:Ext (·=p.block) w20 w21:=by rw [hw21];have:=Ext.setCell (w:=w20) (p.add 2) t3.v;rw [jK] at this;exact this
     clear hw21
     have d13'':∀b,t1.blk b→¬ t3.blk b:=fun b hb h2=>(nb3 b h2).elim (fun h=>d13' b hb h) (fun h=>by have:=(Q1.pure E19).lt hb;omega)
     have d23'':∀b,t2.blk b→¬ t3.blk b:=fun b hb h2=>(nb3 b h2).elim (fun h=>d23' b hb h) (fun h=>by have:=(Q2.pure E19).lt hb;omega)
     have Z1:=((Q1.pure E19).ext X20 (fun b h1 h2=>d13' b h1 h2)).ext X21 (fun b hb e=>np1 (e▸hb))
     have Z2:=((Q2.pure E19).ext X20 (fun b h1 h2=>d23' b h1 h2)).ext X21 (fun b hb e=>np2 (e▸hb))
     have Z3:=R20.ext X21 (fun b hb e=>np3 (e▸hb))
     have hl1:(t1.len:Int)=L.length+1:=by rw [R14.len];simp
     refine ⟨p,rfl,t1,B21.cell0,?_⟩
     rw [hl1]
     refine hK _ _ _ ⟨by rw [hmk],fun b=>b=p.block∨t1.blk b∨t2.blk b∨t3.blk b,?_,?_,?_⟩
     ·rw [hmk]
      exact ⟨t1,t2,t3,⟨B21,by simpa [jHN] using Z1,by simpa [jHL] using Z2,by simpa [jEA] using Z3,np1,np2,np3,d12'',d13'',d23''⟩,fun _=>Iff.rfl⟩
     ·have a1:Ext F w0 w14:=(E11'.trans E13).pure.trans' X14 (fun i _ h=>(hF i).2 (.inr (.inl h)))
      have a2:Ext F w0 w15:=a1.trans' X15 (fun i _ h=>(hF i).2 (.inl h))
      have a3:Ext F w0 w17:=(a2.thenPure E16).trans' X17 (fun i _ h=>(hF i).2 (.inr (.inr (.inl h))))
      have a4:Ext F w0 w18:=a3.trans' X18 (fun i _ h=>(hF i).2 (.inl h))
      have a5:Ext F w0 w20:=(a4.thenPure E19).trans' X20 (fun i _ h=>(hF i).2 (.inr (.inr (.inr h))))
      exact a5.trans' X21 (fun i _ h=>(hF i).2 (.inl h))
     ·have z13:w0.heap.size≤w13.heap.size:=(E11'.trans E13).size
      have z16:w0.heap.size≤w16.heap.size:=by have:=X14.size;have:=X15.size;have:=E16.size;omega
      have z19:w0.heap.size≤w19.heap.size:=by have:=X17.size;have:=X18.size;have:=E19.size;omega
      rintro b (rfl | hb | hb | hb)
      ·exact .inl hpF
      ·exact (nb1 b hb).imp (fun h=>(hF b).2 (.inr (.inl h))) (fun h=>by omega)
      ·exact (nb2 b hb).imp (fun h=>(hF b).2 (.inr (.inr (.inl h)))) (fun h=>by omega)
      ·exact (nb3 b hb).imp (fun h=>(hF b).2 (.inr (.inr (.inr h)))) (fun h=>by omega)
 have J2:∀(x2:Bool) (H:NP) (w:World),Hst w0 H w H w→Pure w0 w→x2=(decide (1≤(Sp.shapeOf k).kids) && !Sp.inP L a)→m_J_j2 (some p) k f t u x a b x2 w0 H w K:=by
  intro x2 H w hs E hx;unfold m_J_j2;rw [hkd];refine ⟨fun h=>J1 true H w hs E (by rw [← hx,h];rfl),fun h=>⟨fun h2=>?_,fun h2=>J1 false H w hs E ?_⟩⟩
  ·refine (qR p b w (hP.pure E)).mono ?_;rintro _ _ ⟨_,rfl,rfl,rfl⟩;refine ⟨_,rfl,Kept.refl _,J1 _ H _ hs E ?_⟩;have h2:(Sp.shapeOf k).kids=2:=by simpa using h2
   rw [← hx,h];simp [h2]
  ·have h2:(Sp.shapeOf k).kids≠2:=by simpa using h2
   rw [← hx,h];simp [h2]
 refine ⟨fun h=>?_,fun h=>?_⟩
 ·intro H1 w3 hs3
  refine (qR p a w3 (hP.pure hs3.first)).mono ?_
  rintro _ _ ⟨_,rfl,rfl,rfl⟩
  refine ⟨_,rfl,Kept.refl _,J2 _ H1 _ hs3.here hs3.first ?_⟩
  have:1≤(Sp.shapeOf k).kids:=by have:=of_decide_eq_true h;omega
  simp [this]
 ·intro H1 w3 hs3
  refine J2 _ H1 _ hs3.here hs3.first ?_
  have:¬ 1≤(Sp.shapeOf k).kids:=by have:=of_decide_eq_false h;omega
  simp [this]
theorem jAA (s:Sp.Shape) (n:Sp.Node):Sp.jV s n≠53:=by
 unfold Sp.jV;split
 ·omega
 ·split <;> omega
theorem jEF (k f t u:Int) (x:ByteArray) (len:Nat):Sp.vH ⟨k,f,t,u,x,0,0⟩ len=(if (Sp.nodeErr ⟨k,f,t,u,x,0,0⟩≠53∧(len:Int)≠(Sp.shapeOf k).kids) then 53 else Sp.nodeErr ⟨k,f,t,u,x,0,0⟩):=by
 unfold Sp.vH Sp.nodeErr;simp only;rcases uL ⟨k,f,t,u,x,0,0⟩ with h | h
 ·rw [h];simp
 ·rw [h];have:=jAA (Sp.shapeOf k) ⟨k,f,t,u,x,0,0⟩;by_cases h2:(len:Int)=(Sp.shapeOf k).kids <;> simp [h2,this]
theorem xJ {S:NP} (q:Addr) (hq:¬ S q.block) (T:TypeId) (t:Sp.Tree):∀(s:Sl) (inside seen:Int) (w0:World),0≤inside→0≤seen→TreeAt S w0 s t→(∀b,S b→b<w0.heap.size)→Box w0 q [.int .i64 seen] T →
  Calls prog 44 #[.agg (vN t s).toArray,.int .i64 inside,.pointer (some q)] w0
   (fun e w'=>∃r:Int,e=.returned (.int .i64 r)∧(r=(Sp.zQ inside seen t).1∧Box w' q [.int .i64 (Sp.zQ inside seen t).2] T∧Ext (·=q.block) w0 w')):=by
 induction t using Sp.Tree.ind with
 | h k f t u x ks ih =>
 intro s inside seen w0 hi0 hn0 hT hSw hB
 suffices key:∀K:Int→WP,(∀r w',(r=(Sp.zQ inside seen (.mk k f t u x ks)).1∧Box w' q [.int .i64 (Sp.zQ inside seen (.mk k f t u x ks)).2] T∧Ext (·=q.block) w0 w')→K r w')→m_P k f t u x s inside (some q) w0 K from
  w_P _ _ _ _ _ _ _ _ w0 _ (key _ (fun _ _ h=>h))
 intro K hK
 have hql:=hB.lt
 unfold m_P
 refine ⟨q,rfl,?_⟩
 intro H1 w1 hs1
 have hB1:=hB.pure hs1.first
 refine ⟨seen,hB1.cell0,?_⟩
 intro H5 w13 hs5
 have E13:=hs1.first.hst hs5
 have hB13:=hB.pure E13
 have hq0:∀{H w' H' w''},Hst w0 H w' H' w''→¬ H' q.block:=fun h hh=>by have:=h.old _ hh;omega
 unfold m_P_j1
 refine ⟨fun h=>?_,fun h=>?_⟩
 ·have : Sp.zQ inside seen (.mk k f t u x ks) = (52, seen) := by
   rw [Sp.zQ];simp only [Bool.or_eq_true,decide_eq_true_eq] at h;by_cases h1:4096≤seen
   ·rw [if_pos h1]
   ·rw [if_neg h1,if_pos (by omega)]
  rw [this] at hK;exact hK _ _ ⟨rfl,hB13,E13.pure⟩
 ·have h1 : ¬ 4096 ≤ seen ∧ ¬ 64 ≤ inside := by
   simp only [Bool.or_eq_false_iff,decide_eq_false_iff_not] at h;omega
  have hsp:Sp.zQ inside seen (.mk k f t u x ks)=Sp.zC (inside+1) (Sp.vH ⟨k,f,t,u,x,0,0⟩ ks.length) (seen+1) ks:=by rw [Sp.zQ,if_neg h1.1,if_neg h1.2]
  rw [hsp] at hK
  have hlen:s.len=ks.length:=by cases hT;assumption
  have hfit:ks.length≤9223372036854775807:=by cases hT;assumption
  refine ⟨q,rfl,seen,hB13.cell0,q,rfl,hB13.canW0 (by simp),hq0 hs5,?_⟩
  rw [i64 (n:=seen+1) (by omega) (by omega)]
  rintro w2 hw2
  have hB2:Box w2 q [.int .i64 (seen+1)] T:=by rw [hw2];exact hB13.set0
  have E2:Ext (·=q.block) w0 w2:=by rw [hw2];exact E13.pure.trans (Ext.setCell q _)
  clear hw2
  rintro y1 rfl
  have hsh:=gH ⟨k,f,t,u,x,0,0⟩
  simp only at hsh
  rw [hsh,uB,hlen]
  have hown:cond ((Sp.nodeErr ⟨k,f,t,u,x,0,0⟩ != 53) && ((ks.length:Int) != (Sp.shapeOf k).kids)) 53 (Sp.nodeErr ⟨k,f,t,u,x,0,0⟩)=Sp.vH ⟨k,f,t,u,x,0,0⟩ ks.length:=by
   rw [jEF];by_cases h2:Sp.nodeErr ⟨k,f,t,u,x,0,0⟩=53
   ·simp [h2]
   ·by_cases h3:(ks.length:Int)=(Sp.shapeOf k).kids
    ·simp [h3]
    ·have e1:(Sp.nodeErr ⟨k,f,t,u,x,0,0⟩ != 53)=true:=by simpa using h2
     have e2:((ks.length:Int) != (Sp.shapeOf k).kids)=true:=by simpa using h3
     rw [e1,e2,if_pos ⟨h2,h3⟩];rfl
  rw [hown]
  intro H3 w10 hs3
  have E10:Ext (·=q.block) w0 w10:=E2.hst hs3
  have hB10:=hB2.ext hs3.ext (hq0 hs3)
  refine ⟨fun e i H w'=>∃j:Nat,i=j∧j≤ks.length∧∃n:Int,0≤n∧Ext (·=q.block) w0 w'∧Box w' q [.int .i64 n] T∧Sp.zC (inside+1) e n (ks.drop j)=Sp.zC (inside+1) (Sp.vH ⟨k,f,t,u,x,0,0⟩ ks.length) (seen+1) ks,fun _ i _=>((ks.length:Int) - i).toNat,⟨0,rfl,Nat.zero_le _,seen+1,by omega,E10,hB10,rfl⟩,?_⟩
  rintro e1 _ Hl wl hl ⟨j,rfl,hj,n,hn,El,hBl,heq⟩
  unfold m_P_l2
  have hTl:=hT.ext El (fun b hb e=>hq (e▸hb))
  refine ⟨fun hc=>?_,fun hc=>?_⟩
  ·simp only [Bool.and_eq_true,beq_iff_eq] at hc
   obtain ⟨he,hlt⟩:=hc
   have hlt:=zR hlen hlt
   subst he
   cases hTl with
   | mk _ _ _ _ _ _ _ rs len fit row kid =>
   obtain ⟨a,hat,ha,hr⟩:=row j hlt
   refine ⟨a,hat,?_⟩
   intro H4 w11 hs4
   have E11:=El.hst hs4
   have hT11:=hT.ext E11 (fun b hb e=>hq (e▸hb))
   have hr11:Row w11 a (vN ks[j] (rs j)):=hs4.ext.row hr (fun hh=>by have:=hs4.old _ hh;have:=hSw _ ha;omega)
   have hk11:TreeAt S w11 (rs j) ks[j]:=(kid j hlt).ext hs4.ext (fun b hb hh=>by have:=hs4.old _ hh;have:=hSw _ hb;omega)
   have hB11:=hBl.ext hs4.ext (hq0 hs4)
   refine ⟨_,_,_,_,_,rs j,hr11,?_⟩
   rw [i64 (n:=inside+1) (by omega) (by omega)]
   refine (ih j hlt (rs j) (inside+1) n w11 (by omega) hn hk11 (fun b hb=>by have:=hSw b hb;have:=E11.size;omega) hB11).mono ?_
   rintro _ w12 ⟨r,rfl,rfl,hB12,E12⟩
   refine ⟨_,rfl,E12.kept (fun b hb e=>hq0 hs4 (e▸hb)),?_⟩
   rw [zE hlt (by omega)]
   refine ⟨⟨j+1,rfl,hlt,_,lE ks[j] (inside+1) n hn,E11.trans E12,hB12,?_⟩,kN hlt⟩
   rw [← heq];exact (yP hlt (inside+1) n).symm
  ·intro H4 w11 hs4
   have hfin:Sp.zC (inside+1) e1 n (ks.drop j)=(e1,n):=by
    by_cases he:e1=0
    ·have hge : j = ks.length := by
      rw [he] at hc;have hc:decide ((j:Int)<(s.len:Int))=false:=by simpa using hc
      exact zY hlen hj hc
     rw [hge,List.drop_length];rfl
    ·exact uM he _ _
   rw [hfin] at heq
   refine hK _ _ ⟨by rw [← heq],?_,El.hst hs4⟩
   rw [← heq];exact hBl.ext hs4.ext (hq0 hs4)
theorem tB {S:NP} (t:Sp.Tree) (s:Sl) (w0:World) (hT:TreeAt S w0 s t) (hSw:∀b,S b→b<w0.heap.size) :
  Calls prog 32 #[.agg (vN t s).toArray] w0 (fun e w'=>∃r:Int,e=.returned (.int .i64 r)∧(r=(Sp.zQ 0 0 t).1∧Pure w0 w')):=by
 obtain ⟨k,f,to,u,x,ks⟩:=t
 refine w_F3 _ _ _ _ _ _ w0 (fun r w'=>r=(Sp.zQ 0 0 (.mk k f to u x ks)).1∧Pure w0 w') ?_
 unfold m_F3
 intro H1 w1 hs1 p w2 h2
 have b2:=Box.of_new h2
 have E2:Pure w0 w2:=hs1.first.trans (Ext.new h2)
 have o2:=New.own hs1.first h2
 have hpH:¬ H1 p.block:=fun hh=>by have:=hs1.lt _ hh;have:=h2.at_size;omega
 refine ⟨b2.canW0 (by simp),hpH,?_⟩
 rintro w3 hw3
 have b3:Box w3 p [.int .i64 0] 3:=by rw [hw3];exact b2.set0
 have E3:Pure w0 w3:=by rw [hw3];exact E2.own o2 (Ext.setCell p _)
 clear hw3
 refine (xJ p (fun h=>by have:=hSw _ h;omega) _ _ s 0 0 w3 (Int.le_refl _) (Int.le_refl _) (hT.pure E3) (fun b hb=>by have:=hSw b hb;have:=E3.size;omega) b3).mono ?_
 rintro _ w4 ⟨r,rfl,rfl,_,E4⟩
 exact ⟨_,rfl,E4.kept (fun b hb e=>hpH (e▸hb)),rfl,E3.own o2 E4⟩
theorem jBI (p:Addr) (n:Nat) (w0:World) {L:Sp.Pool} {F:NP} (hP:kD w0 p L F) (hn:n≤L.length) :
  Calls prog 34 #[.pointer (some p),.int .i64 n] w0 (fun e w'=>e=.returned (.tuple #[])∧kD w' p (L.take n) F∧Ext F w0 w'):=by
 suffices key:∀K:WP,(∀w',kD w' p (L.take n) F∧Ext F w0 w'→K w')→m_N1 (some p) n w0 K from
  w_N1 _ _ w0 _ (key _ (fun _ h=>h))
 intro K hK
 unfold m_N1
 obtain ⟨s1,s2,s3,hS,hF⟩:=hP
 obtain ⟨t1,hr1,R1,hb1⟩:=Rws.hi (P:=prog) jBS hS.r1 (k:=.i64) (n:=n) (by omega) (by simpa using hn)
 refine ⟨p,rfl,s1,hS.box.cell0,t1,hr1,p,rfl,hS.box.canW0 (by simp),?_⟩
 rintro w1 hw1
 have B1:Box w1 p [t1.v,s2.v,s3.v] 85:=by rw [hw1];exact hS.box.set0
 have X1:Ext (·=p.block) w0 w1:=by rw [hw1];exact Ext.setCell p _
 clear hw1
 obtain ⟨t2,hr2,R2,hb2⟩:=Rws.hi (P:=prog) oB (hS.r2.ext X1 (fun b hb e=>hS.n2 (e▸hb))) (k:=.i64) (n:=n) (by omega) (by simpa using hn)
 refine ⟨p,rfl,s2,B1.cell rfl,t2,hr2,p,rfl,B1.canW (by simp),?_⟩
 rintro w2 hw2
 have B2:Box w2 p [t1.v,t2.v,s3.v] 85:=by rw [hw2];exact B1.set 1 _
 have X2:Ext (·=p.block) w1 w2:=by rw [hw2];have:=Ext.setCell (w:=w1) (p.add 1) t2.v;rw [jK] at this;exact this
 clear hw2
 obtain ⟨t3,hr3,R3,hb3⟩:=Rws.hi (P:=prog) oB (hS.r3.ext (X1.trans X2) (fun b hb e=>hS.n3 (e▸hb))) (k:=.i64) (n:=n) (by omega) (by simpa using hn)
 refine ⟨p,rfl,s3,B2.cell rfl,t3,hr3,p,rfl,B2.canW (by simp),?_⟩
 rintro w3 hw3
 have B3:Box w3 p [t1.v,t2.v,t3.v] 85:=by rw [hw3];exact B2.set 2 _
 have X3:Ext (·=p.block) w2 w3:=by rw [hw3];have:=Ext.setCell (w:=w2) (p.add 2) t3.v;rw [jK] at this;exact this
 clear hw3
 have E:=(X1.trans X2).trans X3
 refine hK _ ⟨⟨t1,t2,t3,⟨B3,?_,?_,?_,fun h=>hS.n1 ((hb1 _).1 h),fun h=>hS.n2 ((hb2 _).1 h),fun h=>hS.n3 ((hb3 _).1 h),fun b h1 h2=>hS.d12 b ((hb1 b).1 h1) ((hb2 b).1 h2),fun b h1 h2=>hS.d13 b ((hb1 b).1 h1) ((hb3 b).1 h2),fun b h1 h2=>hS.d23 b ((hb2 b).1 h1) ((hb3 b).1 h2)⟩,fun b=>by rw [hF b,hb1 b,hb2 b,hb3 b]⟩,E.mono (fun i _ h=>(hF i).2 (.inl h))⟩
 ·have:=R1.ext E (fun b hb e=>hS.n1 ((hb1 _).1 (e▸hb)))
  rw [List.map_take];simpa using this
 ·have:=R2.ext (X2.trans X3) (fun b hb e=>hS.n2 ((hb2 _).1 (e▸hb)))
  rw [List.map_take];simpa using this
 ·have:=R3.ext X3 (fun b hb e=>hS.n3 ((hb3 _).1 (e▸hb)))
  rw [List.map_take];simpa using this
theorem jAF {S:NP} (p:Addr) (t:Sp.Tree):∀(s:Sl) (w0:World) (L:Sp.Pool) (F:NP),Sp.Tree.two t→TreeAt S w0 s t→kD w0 p L F→Sp.Ok L→(∀b,F b→¬ S b)→(∀b,S b→b<w0.heap.size) →
  Calls prog 33 #[.pointer (some p),.agg (vN t s).toArray] w0
   (fun e w'=>∃r1:Int,∃r2:Int,e=.returned (.tuple #[.int .i64 r1,.int .i64 r2])∧((r1,r2)=((Sp.zM L t).1,(Sp.zM L t).2.1)∧∃F',kD w' p (Sp.zM L t).2.2 F'∧Ext F w0 w'∧∀b,F' b→F b∨w0.heap.size≤b)):=by
 induction t using Sp.Tree.ind with
 | h k f t u x ks ih =>
 intro s w0 L F h2 hT hP hok hFS hSw
 suffices key:∀K:Int→Int→WP,(∀r1 r2 w',((r1,r2)=((Sp.zM L (.mk k f t u x ks)).1,(Sp.zM L (.mk k f t u x ks)).2.1)∧∃F',kD w' p (Sp.zM L (.mk k f t u x ks)).2.2 F'∧Ext F w0 w'∧∀b,F' b→F b∨w0.heap.size≤b)→K r1 r2 w')→m_A1 (some p) k f t u x s w0 K from
  w_A1 _ _ _ _ _ _ _ w0 _ (key _ (fun _ _ _ h=>h))
 intro K hK
 obtain ⟨hk2,hall⟩:=jDN.1 h2
 have hsp:Sp.zM L (.mk k f t u x ks)=Sp.jY ⟨k,f,t,u,x,0,0⟩ 0 L ks:=by rw [Sp.zM]
 rw [hsp] at hK
 have hlen:s.len=ks.length:=by cases hT;assumption
 unfold m_A1
 intro H2 w4 hs4
 refine ⟨fun i a1 a2 a3 a4 a5 a6 a7 H w'=>∃j:Nat,i=j∧j≤ks.length∧∃(L':Sp.Pool) (F':NP),Sp.jY ⟨k,f,t,u,x,0,0⟩ 0 L ks=Sp.jY ⟨a1,a2,a3,a4,a5,a6,a7⟩ j L' (ks.drop j)∧Sp.Ok L'∧kD w' p L' F'∧(∀b,F' b→F b∨w0.heap.size≤b)∧(∀b,F' b→¬ H b)∧Ext F w0 w',fun i _ _ _ _ _ _ _ _=>((ks.length:Int) - i).toNat,
  ⟨0,rfl,Nat.zero_le _,L,F,by simp,hok,hP.pure hs4.first,fun b h=>.inl h,hs4.disj0 (fun b hb=>hP.lt hb),hs4.first.pure⟩,?_⟩
 rintro _ a1 a2 a3 a4 a5 a6 a7 Hl wl hl ⟨j,rfl,hj,L',F',heq,hok',hPl,hF',hv,El⟩
 unfold m_A1_l1
 refine ⟨fun h=>?_,fun h=>?_⟩
 ·have hlt:=zR hlen h
  have hTl:TreeAt S wl s (.mk k f t u x ks):=hT.ext El (fun b hs hf=>hFS b hf hs)
  have hkid:∃a r,At s j 6 a∧Row wl a (vN ks[j] r)∧TreeAt S wl r ks[j]:=by
   cases hTl with
   | mk _ _ _ _ _ _ _ rs len fit row kid=>exact let ⟨a,h1,_,h3⟩:=row j hlt;⟨a,rs j,h1,h3,kid j hlt⟩
  obtain ⟨a,r,hat,hrow,hTk⟩:=hkid
  refine ⟨a,hat,_,_,_,_,_,r,hrow,?_⟩
  have hsz:w0.heap.size≤wl.heap.size:=El.size
  refine (ih j hlt r wl L' F' (xU hall hlt) hTk hPl hok' (fun b hb hs=>(hF' b hb).elim (fun h=>hFS b h hs) (fun h=>by have:=hSw b hs;omega)) (fun b hs=>by have:=hSw b hs;omega)).mono ?_
  rintro _ w8 ⟨r1,r2,rfl,hr,F8,hP8,E8,hF8⟩
  have e1:r1=(Sp.zM L' ks[j]).1:=congrArg Prod.fst hr
  have e2:r2=(Sp.zM L' ks[j]).2.1:=congrArg Prod.snd hr
  rw [List.drop_eq_getElem_cons hlt] at heq
  have hF8':∀b,F8 b→F b∨w0.heap.size≤b:=fun b hb=>(hF8 b hb).elim (hF' b) (fun h=>by right;omega)
  have Ew8:Ext F w0 w8:=El.trans' E8 (fun i hi h=>(hF' i h).elim id (fun h=>by omega))
  refine ⟨_,_,rfl,E8.kept (fun b hH hF=>hv b hF hH),fun h=>?_,fun h=>?_⟩
  ·have h:(Sp.zM L' ks[j]).2.1≠0:=by rw [← e2];simpa using h
   rw [gV h] at heq
   refine hK _ _ _ ?_
   rw [heq];exact ⟨by rw [e2],F8,hP8,Ew8,hF8'⟩
  ·have h:(Sp.zM L' ks[j]).2.1=0:=by rw [← e2];simpa using h
   rw [uO h] at heq
   intro H3 w9 hs9
   have hv8:∀b,F8 b→¬ Hl b:=fun b hb hH=>(hF8 b hb).elim (fun h=>hv b h hH) (fun h=>by have:=hl.lt b hH;omega)
   have hv9:∀b,F8 b→¬ H3 b:=hs9.disj (fun b hb=>⟨hP8.lt hb,hv8 b hb⟩)
   rw [zE hlt (by omega)]
   refine ⟨⟨j+1,rfl,hlt,_,F8,?_,(Sp.kX ks[j] L' hok').1,hP8.ext hs9.ext hv9,hF8',hv9,Ew8.hst hs9⟩,kN hlt⟩
   rw [heq,e1]
   have hj0:(((j:Int)) == 0)=decide (j=0):=by rw [Bool.eq_iff_iff];simp
   rw [hj0]
   by_cases hj0':j=0
   ·subst hj0';rfl
   ·simp [hj0']
 ·have hge:=zY hlen hj h
  rw [hge,List.drop_length,Sp.jY] at heq
  refine (jAG p ⟨a1,a2,a3,a4,a5,a6,a7⟩ wl hPl hok').mono ?_
  rintro _ w9 ⟨r1,r2,rfl,hr,F9,hP9,E9,hF9⟩
  have hsz:w0.heap.size≤wl.heap.size:=El.size
  refine ⟨_,_,rfl,E9.kept (fun b hH hF=>hv b hF hH),hK _ _ _ ?_⟩
  rw [heq]
  exact ⟨hr,F9,hP9,El.trans' E9 (fun i hi h=>(hF' i h).elim id (fun h=>by omega)),fun b hb=>(hF9 b hb).elim (hF' b) (fun h=>by right;omega)⟩
theorem oW (t:Sp.Tree):∀L,(Sp.zM L t).2.1≠0→(Sp.zM L t).1=0:=by
 induction t using Sp.Tree.ind with
 | h k f t u x ks ih =>
  have hmk:∀L n,(Sp.make L n).2.1≠0→(Sp.make L n).1=0:=by
   intro L n h;unfold Sp.make at h ⊢;simp only at h ⊢;split at h
   ·rename_i h1;rw [if_pos h1]
   ·rename_i h1;rw [if_neg h1];split at h
    ·rename_i hf;exact absurd rfl h
    ·split at h
     ·rename_i h2;simp [h2]
     ·exact absurd rfl h
  have:∀(ks:List Sp.Tree),(∀i (hi:i<ks.length),∀L,(Sp.zM L ks[i]).2.1≠0→(Sp.zM L ks[i]).1=0)→∀n i L,(Sp.jY n i L ks).2.1≠0→(Sp.jY n i L ks).1=0:=by
   intro ks;induction ks with
   | nil=>intro _ n i L h;unfold Sp.jY at h ⊢;exact hmk L n h
   | cons t ts iht =>
    intro hh n i L h
    unfold Sp.jY at h ⊢
    split at h
    ·rename_i h1;rw [if_pos h1]
    ·rename_i h1;rw [if_neg h1];exact iht (fun i hi=>hh (i+1) (by simpa using hi)) _ _ _ h
  intro L h
  unfold Sp.zM at h ⊢
  exact this ks ih _ _ L h
theorem jDC {S:NP} (p:Addr) (t:Sp.Tree) (s:Sl) (w0:World) {L:Sp.Pool} {F:NP} (hT:TreeAt S w0 s t) (hP:kD w0 p L F) (hok:Sp.Ok L) (hFS:∀b,F b→¬ S b) (hSw:∀b,S b→b<w0.heap.size) :
  Calls prog 20 #[.pointer (some p),.agg (vN t s).toArray] w0
   (fun e w'=>∃r1:Int,∃r2:Int,e=.returned (.tuple #[.int .i64 r1,.int .i64 r2])∧((r1,r2)=((Sp.of L t).1,(Sp.of L t).2.1)∧∃F',kD w' p (Sp.of L t).2.2 F'∧Ext F w0 w'∧∀b,F' b→F b∨w0.heap.size≤b)):=by
 obtain ⟨k,f,to,u,x,ks⟩:=t
 suffices key:∀K:Int→Int→WP,(∀r1 r2 w',((r1,r2)=((Sp.of L (.mk k f to u x ks)).1,(Sp.of L (.mk k f to u x ks)).2.1)∧∃F',kD w' p (Sp.of L (.mk k f to u x ks)).2.2 F'∧Ext F w0 w'∧∀b,F' b→F b∨w0.heap.size≤b)→K r1 r2 w')→m_O1 (some p) k f to u x s w0 K from
  w_O1 _ _ _ _ _ _ _ w0 _ (key _ (fun _ _ _ h=>h))
 intro K hK
 unfold m_O1
 intro H1 w1 hs1
 have E1:=hs1.first
 generalize ht:Sp.Tree.mk k f to u x ks=t at *
 have htr:(Value.agg #[.int .i64 k,.int .i64 f,.int .i64 to,.int .u64 u,.string x,s.v])=.agg (vN t s).toArray:=by rw [← ht];rfl
 rw [htr]
 refine (tB t s w1 (hT.pure E1) (fun b hb=>by have:=hSw b hb;have:=E1.size;omega)).mono ?_
 rintro _ w2 ⟨r1,rfl,rfl,E2⟩
 have E12:=E1.trans E2
 refine ⟨_,rfl,E2.keptP,fun h=>?_,fun h=>?_⟩
 ·have h:(Sp.zQ 0 0 t).1≠0:=by simpa using h
  have:Sp.of L t=(0,(Sp.zQ 0 0 t).1,L):=by rw [Sp.of,if_pos h]
  refine hK _ _ _ ?_
  rw [this];exact ⟨rfl,F,hP.pure E12,E12.pure,fun _ h=>.inl h⟩
 ·have h:(Sp.zQ 0 0 t).1=0:=by simpa using h
  have hP2:=hP.pure E12
  have hv:∀b,F b→¬ H1 b:=hs1.disj0 (fun b hb=>hP.lt hb)
  obtain ⟨s1,s2,s3,hS,hF0⟩:=id hP2
  have hl0:s1.len=L.length:=by rw [hS.r1.len];simp
  refine ⟨p,rfl,s1,hS.box.cell0,?_⟩
  refine (jAF p t s w2 L F (tW t _ _ h) (hT.pure E12) hP2 hok hFS (fun b hb=>by have:=hSw b hb;have:=E12.size;omega)).mono ?_
  rintro _ w5 ⟨r1,r2,rfl,hr,F5,hP5,E5,hF5⟩
  have e1:r1=(Sp.zM L t).1:=congrArg Prod.fst hr
  have e2:r2=(Sp.zM L t).2.1:=congrArg Prod.snd hr
  have hs4:w0.heap.size≤w2.heap.size:=E12.size
  have E05:Ext F w0 w5:=E12.pure.trans E5
  have hF5':∀b,F5 b→F b∨w0.heap.size≤b:=fun b hb=>(hF5 b hb).elim .inl (fun h=>.inr (by omega))
  have hs2:=hs1.again E2.keptP
  have hv5:∀b,F5 b→¬ H1 b:=fun b hb hH=>(hF5 b hb).elim (fun h=>hv b h hH) (fun h=>by have:=hs2.lt b hH;omega)
  refine ⟨_,_,rfl,E5.kept (fun b hH hF=>hv b hF hH),fun h'=>?_,fun h'=>?_⟩
  ·have h':(Sp.zM L t).2.1≠0:=by rw [← e2];simpa using h'
   obtain ⟨hok5,M,hM⟩:=Sp.kX t L hok
   rw [hl0]
   refine (jBI p L.length w5 hP5 (by rw [hM];simp)).mono ?_
   rintro _ w6 ⟨rfl,hP6,E6⟩
   have:Sp.of L t=(0,(Sp.zM L t).2.1,L):=by rw [Sp.of,if_neg (by simp [h]),if_pos h']
   refine ⟨rfl,E6.kept (fun b hH hF=>hv5 b hF hH),hK _ _ _ ?_⟩
   rw [this]
   rw [hM,List.take_left] at hP6
   exact ⟨by rw [e1,e2,oW t L h'],F5,hP6,E05.trans' E6 (fun i hi h=>(hF5' i h).elim id (fun h=>by omega)),hF5'⟩
  ·have h':(Sp.zM L t).2.1=0:=by rw [← e2];simpa using h'
   have:Sp.of L t=((Sp.zM L t).1,0,(Sp.zM L t).2.2):=by rw [Sp.of,if_neg (by simp [h]),if_neg (by simp [h'])]
   refine hK _ _ _ ?_
   rw [this]
   exact ⟨by rw [e1,e2,h'],F5,hP5,E05,hF5'⟩
theorem TreeAt.hst {S:NP} {w0 w w':World} {H H':NP} {s:Sl} {t:Sp.Tree} (h:TreeAt S w s t) (hs:Hst w0 H w H' w') (hd:∀b,S b→b<w.heap.size∧¬ H b):TreeAt S w' s t :=
 h.ext hs.ext (fun b hb hh=>hs.disj (G:=S) hd b hb hh)
theorem tA {S:NP} (t:Sp.Tree):∀(s:Sl) (most:Int) (w0:World),0≤most→most≤1000000000→TreeAt S w0 s t→(∀b,S b→b<w0.heap.size) →
  Calls prog 13 #[.agg (vN t s).toArray,.int .i64 most] w0 (fun e w'=>∃r:Int,e=.returned (.int .i64 r)∧(r=Sp.yB most t∧Pure w0 w')):=by
 induction t using Sp.Tree.ind with
 | h k f t u x ks ih =>
 intro s most w0 hm0 hm hT hSw
 suffices key:∀K:Int→WP,(∀r w',(r=Sp.yB most (.mk k f t u x ks)∧Pure w0 w')→K r w')→m_X k f t u x s most w0 K from
  w_X _ _ _ _ _ _ _ w0 _ (key _ (fun _ _ h=>h))
 intro K hK
 have hlen:s.len=ks.length:=by cases hT;assumption
 have hfit:ks.length≤9223372036854775807:=by cases hT;assumption
 unfold m_X
 intro H1 w1 hs1
 refine ⟨fun n i H w'=>∃j:Nat,i=j∧j≤ks.length∧1≤n∧n≤most+1∧Pure w0 w'∧Sp.kF most 1 ks=Sp.kF most n (ks.drop j),fun _ i _=>((ks.length:Int) - i).toNat,⟨0,rfl,Nat.zero_le _,Int.le_refl _,by omega,hs1.first,rfl⟩,?_⟩
 rintro n _ Hl wl hl ⟨j,rfl,hj,hn1,hn2,El,heq⟩
 unfold m_X_l1
 refine ⟨fun hc=>?_,fun hc=>?_⟩
 ·simp only [Bool.and_eq_true,decide_eq_true_eq] at hc
  have hlt:j<ks.length:=by omega
  rw [List.drop_eq_getElem_cons hlt,Sp.kF,if_pos hc.2] at heq
  have hT1:=hT.pure El
  cases hT1 with
  | mk _ _ _ _ _ _ _ rs len fit row kid =>
  obtain ⟨a,hat,ha,hr⟩:=row j hlt
  refine ⟨a,hat,?_⟩
  intro H2 w2 hs2
  have hd:∀b,S b→¬ H2 b:=fun b hb hh=>by have:=hs2.old _ hh;have:=hSw b hb;omega
  refine ⟨_,_,_,_,_,rs j,hs2.ext.row hr (hd _ ha),?_⟩
  rw [i64 (n:=most - n) (by omega) (by omega)]
  refine (ih j hlt (rs j) (most - n) w2 (by omega) (by omega) ((kid j hlt).ext hs2.ext hd) (fun b hb=>by have:=hSw b hb;have:=(El.hst hs2).size;omega)).mono ?_
  rintro _ w3 ⟨r,rfl,rfl,E3⟩
  have hpf:=Sp.gL ks[j] (most - n) (by omega)
  refine ⟨_,rfl,E3.keptP,?_⟩
  rw [zE hlt (by omega),i64 (n:=n+Sp.yB (most - n) ks[j]) (by omega) (by omega)]
  exact ⟨⟨j+1,rfl,hlt,by omega,by omega,(El.hst hs2).trans E3,heq⟩,kN hlt⟩
 ·intro H2 w2 hs2
  refine hK _ _ ⟨?_,El.hst hs2⟩
  rw [Sp.yB,heq]
  by_cases hj2:j=ks.length
  ·rw [hj2,List.drop_length];rfl
  ·have hlt:j<ks.length:=by omega
   rw [List.drop_eq_getElem_cons hlt,Sp.kF,if_neg]
   intro h
   have:decide (n≤most)=true:=decide_eq_true h
   have h2:decide ((j:Int)<(s.len:Int))=true:=decide_eq_true (by omega)
   rw [this,h2] at hc;cases hc
theorem oA:SlType prog 22 47 6 72:=by
 refine ⟨underlying22,⟨t47,_,by kernel_rfl,(by kernel_rfl:t47.zero=some (.agg #[.int .i64 0,.int .i64 0,.int .i64 0,.int .u64 0,.string ⟨#[]⟩,.slice none 0 0])),by kernel_rfl,by kernel_rfl,rfl⟩,by omega⟩
def jFM (p:Sp.Tree×Sl):List Value:=vN p.1 p.2
theorem TreeAt.of_pairs {S:NP} {w:World} {s:Sl} {e:TypeId} {ps:List (Sp.Tree×Sl)} {k f t u:Int} {x:ByteArray} (hR:Rws w e 6 s (ps.map jFM)) (hS:∀b,s.blk b→S b) (hk:∀p∈ps,TreeAt S w p.2 p.1) (fit:ps.length≤9223372036854775807):TreeAt S w s (.mk k f t u x (ps.map Prod.fst)):=by
 refine .mk k f t u x _ s (fun i=>(ps.getD i (Sp.lC,Sl.nil)).2) (by rw [hR.len];simp) (by simpa using fit) (fun i h=>?_) (fun i h=>?_)
 ·have h':i<ps.length:=by simpa using h
  obtain ⟨a,h1,h2,h3⟩:=hR.at (i:=i) (by omega) (by simpa using h');refine ⟨a,h1,hS _ h3,?_⟩;have e1:(ps.map Prod.fst)[i]=ps[i].1:=by simp
  have e2:(ps.getD i (Sp.lC,Sl.nil)).2=ps[i].2:=by simp [List.getD_eq_getElem?_getD,h']
  rw [e1,e2];simpa [jFM] using h2
 ·have h':i<ps.length:=by simpa using h
  have e1:(ps.map Prod.fst)[i]=ps[i].1:=by simp
  have e2:(ps.getD i (Sp.lC,Sl.nil)).2=ps[i].2:=by simp [List.getD_eq_getElem?_getD,h']
  rw [e1,e2];exact hk _ (List.getElem_mem h')
theorem jBP (t:Sp.Tree) (s:Sl):(vN t s).all zL=true:=by simp [vN,zL,Sl.v]
theorem jAH {S:NP} (t:Sp.Tree):∀(s:Sl) (w0:World),Sp.cnt t≤1000000→TreeAt S w0 s t→(∀b,S b→b<w0.heap.size) →
  Calls prog 19 #[.agg (vN t s).toArray] w0 (RetT w0.heap.size w0 t):=by
 induction t using Sp.Tree.ind with
 | h k f t u x ks ih =>
 intro s w0 hcnt hT hSw
 suffices key:∀K:Int→Int→Int→Int→ByteArray→Sl→WP,(∀s' w',TreeAt (w0.heap.size≤·) w' s' (.mk k f t u x ks)→Pure w0 w'→K k f t u x s' w')→m_Y k f t u x s w0 K by
  refine (w_Y _ _ _ _ _ _ w0 (fun k' f' t' u' x' s' w'=>(k'=k∧f'=f∧t'=t∧u'=u∧x'=x)∧TreeAt (w0.heap.size≤·) w' s' (.mk k f t u x ks)∧Pure w0 w') (key _ (fun s' w' h1 h2=>⟨⟨rfl,rfl,rfl,rfl,rfl⟩,h1,h2⟩))).mono ?_;rintro _ w' ⟨_,_,_,_,_,s',rfl,⟨rfl,rfl,rfl,rfl,rfl⟩,h1,h2⟩;exact ⟨s',rfl,h1,h2⟩
 intro K hK
 have hlen:s.len=ks.length:=by cases hT;assumption
 have hca:1+Sp.cntAll ks≤1000000:=by simpa [Sp.cnt] using hcnt
 have hkl:=Sp.lI ks
 have hnil:∀b,¬ Sl.nil.blk b:=fun b hb=>by obtain ⟨a,h,_⟩:=hb;cases h
 unfold m_Y
 intro H3 w5 hs5
 refine ⟨fun i _ _ _ _ _ yk H w'=>∃j:Nat,i=j∧j≤ks.length∧Pure w0 w'∧∃(ps:List (Sp.Tree×Sl)) (S':NP),ps.map Prod.fst=ks.take j∧Own H w' 47 6 yk (ps.map jFM)∧(∀p∈ps,TreeAt S' w' p.2 p.1)∧(∀b,S' b→w0.heap.size≤b∧b<w'.heap.size∧¬ H b∧¬ yk.blk b)∧(∀b,yk.blk b→w0.heap.size≤b),
  fun i _ _ _ _ _ _ _=>((ks.length:Int) - i).toNat,⟨0,rfl,Nat.zero_le _,hs5.first,[],fun _=>False,by simp,Own.nil _ _,by simp,fun b h=>h.elim,fun b h=>(hnil b h).elim⟩,?_⟩
 rintro _ y1 y2 y3 y4 y5 yk Hl wl hl ⟨j,rfl,hj,El,ps,S',hps,Oy,hkids,hS',hyk⟩
 have hpl:ps.length=j:=by have:=congrArg List.length hps;simpa [Nat.min_eq_left hj] using this
 unfold m_Y_l1
 refine ⟨fun hc=>?_,fun hc=>?_⟩
 ·have hlt:=zR hlen hc
  have g1:∃a r,At s j 6 a∧S a.block∧(∀w',Pure w0 w'→Row w' a (vN ks[j] r))∧TreeAt S w0 r ks[j]:=by
   cases hT with
   | mk _ _ _ _ _ _ _ rs len fit row kid=>obtain ⟨a,h1,h2,h3⟩:=row j hlt;exact ⟨a,rs j,h1,h2,fun w' E=>E.row h3 id,kid j hlt⟩
  obtain ⟨a,r,hat,_,hr,hk⟩:=g1
  have E6:Pure wl wl.drew:=Ext.drew wl
  have Ed:=El.trans E6
  refine ⟨fun w'=>Pure w0 w',Ed,?_⟩
  rintro _ rfl
  refine ⟨a,hat,_,_,_,_,_,r,fun w' h=>hr w' h,?_⟩
  have hcj:=Sp.lJ (ks:=ks) hlt
  refine (ih j hlt r wl.drew (by omega) (hk.pure Ed) (fun b hb=>by have:=hSw b hb;have:=Ed.size;omega)).mono ?_
  rintro _ w7 ⟨s',rfl,hTk,E7⟩
  have E07:=Ed.trans E7
  refine ⟨_,_,_,_,_,s',rfl,E07,E7.keptP,?_⟩
  intro p4 w8 h8
  have E8:Pure w7 w8:=Ext.new h8
  refine ⟨E07.trans E8,?_⟩
  have hs8:Hst w0 Hl w8 Hl w8:=(hl.again E6.keptP).again (E7.trans E8).keptP
  have O8:=Oy.pure ((E6.trans E7).trans E8)
  obtain ⟨s1,w9,hr9,hO9,hE9,hk9,hb9⟩:=O8.append (P:=prog) (ty:=22) (c:=1) oA hs8 (r:=vN ks[j] s') (Box.of_new h8).row rfl (jBP _ _) (by simp;omega) (by simp [maxLen];omega)
  have E09:Pure w0 w9:=(E07.trans E8).trans' hE9 (fun i hi hb=>by have:=hyk i hb;omega)
  refine ⟨s1,w9,hr9,E09,hk9,?_⟩
  intro w10 hs10
  have hsd:wl.drew.heap.size=wl.heap.size:=rfl
  have z7:=E7.size
  have z8:=E8.size
  have z9:=hE9.size
  have hSn:∀b,(S' b∨(wl.heap.size≤b∧b<w7.heap.size))→w0.heap.size≤b∧b<w9.heap.size∧¬ Hl b∧¬ s1.blk b:=by
   rintro b (hb | ⟨h1,h2⟩)
   ·obtain ⟨q1,q2,q3,q4⟩:=hS' b hb;exact ⟨q1,by omega,q3,fun h=>(hb9 b h).elim q4 (fun h=>by omega)⟩
   ·refine ⟨by have:=El.size;omega,by omega,fun h=>by have:=hl.lt b h;omega,fun h=>(hb9 b h).elim (fun h=>by have:=Oy.rows.lt h;omega) (fun h=>by omega)⟩
  rw [zE hlt (by omega)]
  refine ⟨⟨j+1,rfl,hlt,E09.hst hs10,ps++[(ks[j],s')],fun b=>S' b∨(wl.heap.size≤b∧b<w7.heap.size),?_,?_,?_,?_,?_⟩,kN hlt⟩
  ·rw [List.map_append,hps,List.take_succ_eq_append_getElem hlt];rfl
  ·have:(ps++[(ks[j],s')]).map jFM=ps.map jFM++[vN ks[j] s']:=by simp [jFM]
   rw [this];exact hO9.hst hs10
  ·intro p hp
   have hnb:∀b,(S' b∨(wl.heap.size≤b∧b<w7.heap.size))→b<w9.heap.size∧¬ Hl b:=fun b hb=>⟨(hSn b hb).2.1,(hSn b hb).2.2.1⟩
   rcases List.mem_append.1 hp with h | h
   ·have:=(hkids p h).pure ((E6.trans E7).trans E8)
    have:=this.ext hE9 (fun b hb hy=>(hS' b hb).2.2.2 hy)
    exact (this.mono (fun b hb=>.inl hb)).hst hs10 hnb
   ·simp only [List.mem_singleton] at h;subst h
    have:=(hTk.lt.pure E8).ext hE9 (fun b hb hy=>by have:=Oy.rows.lt hy;have:=hb.1;omega)
    exact (this.mono (S':=fun b=>S' b∨(wl.heap.size≤b∧b<w7.heap.size)) (fun b hb=>.inr ⟨by have:=hb.1;omega,hb.2⟩)).hst hs10 hnb
  ·intro b hb
   obtain ⟨q1,q2,q3,q4⟩:=hSn b hb
   exact ⟨q1,Nat.lt_of_lt_of_le q2 hs10.ext.size,q3,q4⟩
  ·intro b hb
   exact (hb9 b hb).elim (hyk b) (fun h=>by have:=(E07.trans E8).size;omega)
 ·have hge:=zY hlen hj hc
  subst hge
  rw [List.take_length] at hps
  have E6:Pure wl wl.drew:=Ext.drew wl
  refine ⟨fun _=>True,trivial,?_⟩
  rintro _ rfl
  intro p5 w12 h12
  have E12:Pure wl w12:=E6.trans (Ext.new h12)
  refine ⟨trivial,?_⟩
  have hs12:Hst w0 Hl w12 Hl w12:=hl.again E12.keptP
  obtain ⟨s2,w13,hr13,hO13,hE13,hk13,hb13⟩:=(Oy.pure E12).append (P:=prog) (ty:=22) (c:=1) oA hs12 (r:=vN (.mk (-1) 0 0 0 ⟨#[]⟩ []) Sl.nil) (Box.of_new h12).row rfl (jBP _ _) (by simp;omega) (by simp [maxLen];omega)
  refine ⟨s2,w13,hr13,trivial,hk13,?_⟩
  have hyl:yk.len=ks.length:=by rw [Oy.len];simp [hpl]
  obtain ⟨s3,hr3,hR3,hb3⟩:=Rws.hiA (P:=prog) oA hO13.rows (k:=.i64) (n:=(ks.length:Int)) (by omega) (by simp [hpl];omega)
  rw [hyl]
  refine ⟨s3,fun w' _=>hr3 w',?_⟩
  intro w14 hs14
  have hR3':Rws w13 47 6 s3 (ps.map jFM):=by
   have e:((ps.map jFM)++[vN (.mk (-1) 0 0 0 ⟨#[]⟩ []) Sl.nil]).take (ks.length:Int).toNat=ps.map jFM:=by
    rw [Int.toNat_natCast];exact List.take_left' (by simp [hpl])
   rw [e] at hR3;exact hR3
  have hv3:∀b,s3.blk b→b<w13.heap.size∧¬ Hl b:=fun b hb=>⟨hR3'.lt hb,hO13.vis b ((hb3 b).1 hb)⟩
  have hR14:=hR3'.ext hs14.ext (hs14.disj (G:=s3.blk) hv3)
  have z12:=E12.size
  have z13:=hE13.size
  have hs3:∀b,s3.blk b→w0.heap.size≤b:=fun b hb=>(hb13 b ((hb3 b).1 hb)).elim (hyk b) (fun h=>by have:=El.size;omega)
  refine hK s3 w14 ?_ ?_
  ·have hT3:=TreeAt.of_pairs (S:=fun b=>w0.heap.size≤b) (k:=k) (f:=f) (t:=t) (u:=u) (x:=x) hR14 hs3 (fun p hp=>?_) (by omega)
   ·rw [hps] at hT3;exact hT3
   ·have h1:=((hkids p hp).pure E12).ext hE13 (fun b hb hy=>(hS' b hb).2.2.2 hy)
    exact (h1.hst hs14 (fun b hb=>⟨by have:=(hS' b hb).2.1;omega,(hS' b hb).2.2.1⟩)).mono (fun b hb=>(hS' b hb).1)
  ·exact ((El.trans E12).trans' hE13 (fun i hi hb=>by have:=hyk i hb;omega)).hst hs14
end Go.Proofs
end
section
open Go Go.SE
open Go.IntKind renaming i64 → q6
namespace Go.Proofs
open Try
set_option maxRecDepth 100000
set_option maxHeartbeats 4000000
attribute [local irreducible] wpL wpX opE wpE Calls
theorem qI (a0 a1:Int) (a2 a3:Int) (a4:ByteArray) (b0 b1:Int) (b2 b3:Int) (b4:ByteArray) (w:World):(Go.binOp .neq 49 (.agg #[(.int .i64 a0),(.int .i64 a1),(.int .i64 a2),(.int .u64 a3),(.string a4)]) (.agg #[(.int .i64 b0),(.int .i64 b1),(.int .i64 b2),(.int .u64 b3),(.string b4)])).run prog w=.ok (.bool (!((a0 == b0) && ((a1 == b1) && ((a2 == b2) && ((a3 == b3) && (decide (a4=b4)))))))) w:=by
 simp [Go.binOp,Op.equal,Op.maxDepth,go_sem,jDT,bne]
 repeat' split
 all_goals simp_all
def m_D1_l1 (a1 b1:Sl) (i1:Int) (w0:World) (Hl1:NP) (wl1:World) (Kc1:Int→NP→WP) (K:Bool→WP):Prop :=Br (decide (i1<(a1.len:Int))) (∃a2:Addr,At a1 i1 5 a2∧∀w1,Hst w0 Hl1 wl1 Hl1 w1→∃aA aB aE aF aG,Row w1 a2 (Ac aA aB aE aF aG)∧∃a3:Addr,At b1 i1 5 a3∧∃aK aL aM aN aO,Row w1 a3 (Ac aK aL aM aN aO)∧Br (!((aA == aK) && ((aB == aL) && ((aE == aM) && ((aF == aN) && (decide (aG=aO))))))) (K false w1) (Kc1 (q6.wrap (i1+1)) Hl1 w1)) (K true wl1)
def m_D1 (a1 b1:Sl) (w0:World) (K:Bool→WP):Prop :=Br (((a1.len:Int):Int) != (b1.len:Int)) (K false w0) (∃(I1:Int→NP→WP) (mu1:Int→World→Nat),I1 0 None w0∧∀(i1:Int) (Hl1:NP) (wl1:World),Hst w0 Hl1 wl1 Hl1 wl1→I1 i1 Hl1 wl1→m_D1_l1 a1 b1 i1 w0 Hl1 wl1 (fun y'0 H' w'=>I1 y'0 H' w'∧mu1 y'0 w'<mu1 i1 wl1) K)
theorem w_D1 (a1 b1 w0 K) (h:m_D1 a1 b1 w0 K):
  Calls prog 9 #[a1.v,b1.v] w0 (fun e w'=>∃r1,e=.returned (vb r1)∧K r1 w'):=by
 refine cw (args:=[a1.v,b1.v]) func9 ntmps9 ?_
 obtain ⟨hs,hb⟩:=st0 w0
 refine eg (q (ln (jA (eg (qd (q (ln (cbr h ?_ ?_))))))))<;>intro h
 refine eg (q (ln (er (zI (rs1 results9 ⟨false,rfl,h⟩)))))
 refine jC (jI (jA (eg (q (ln (jG ?_))))))
 obtain ⟨I1,mu1,h0,hr⟩:=h
 refine zH (σ:=Int×NP×World) (fun s ρ w=>w=s.2.2∧Has ρ [(0,a1.v),(1,b1.v),(5,(vi s.1))]∧Hst w0 s.2.1 w s.2.1 w∧HB s.2.1 w []∧I1 s.1 s.2.1 s.2.2) (fun s=>mu1 s.1 s.2.2) (0,None,w0) ⟨rfl,hm,hs,hb,h0⟩ ?_
 rintro ⟨i1,Hl1,wl1⟩ ρ w ⟨hw,hH,hs,hb,hI⟩
 dsimp only at hw hH hs hb;subst w
 have h:=hr i1 Hl1 wl1 hs hI
 refine jN hH (jA (eg (qd (ln (cbr h ?_ ?_)))))<;>intro h
 refine jC (jI (jA (jG (jA (vM (by kernel_rfl) (by kernel_rfl) (by kernel_rfl) (by kernel_rfl) ?_)))))
 intro w1 hw1
 have hs:Hst w0 Hl1 wl1 Hl1 w1:=by rw [hw1];exact hs.drew
 have hb:HB Hl1 w1 []:=by rw [hw1];exact hb.drew
 refine qq 0 a1.v Kp0 (qq 1 (vi i1) Kp1 (qg 2 ?_))
 obtain ⟨a2,hv4,h⟩:=h
 refine sxQ Kp2 (jM rfl) rfl (xi (runUnderlying23 _) (sizeOf49 _) hv4) (qg 3 ?_)
 have ⟨h,hs⟩:=hs.hr (h w1)
 obtain ⟨aA,aB,aE,aF,aG,hv3,h⟩:=h
 refine sxQ (v:=(Ah aA aB aE aF aG)) Kp3 (jM rfl) rfl (xa a2 (Ac aA aB aE aF aG) (isAgg49 _) (sizeOf49 _) hv3) (qq 4 b1.v Kp4 (qq 5 (vi i1) Kp5 (qg 6 ?_)))
 obtain ⟨a3,hv2,h⟩:=h
 refine sxQ Kp6 (jM rfl) rfl (xi (runUnderlying23 _) (sizeOf49 _) hv2) (qg 7 ?_)
 obtain ⟨aK,aL,aM,aN,aO,hv1,h⟩:=h
 refine sxQ (v:=(Ah aK aL aM aN aO)) Kp7 (jM rfl) rfl (xa a3 (Ac aK aL aM aN aO) (isAgg49 _) (sizeOf49 _) hv1) (qr 8 (vb (!((aA == aK) && ((aB == aL) && ((aE == aM) && ((aF == aN) && (decide (aG=aO)))))))) Kp8 (jDL (by kernel_rfl) (by kernel_rfl) (by kernel_rfl) (qI aA aB aE aF aG aK aL aM aN aO _)) (wn (jI (cbr h ?_ ?_))))<;>intro h
 refine eg (q (ln (er (qX (zI (zI (qX (zI (rs1 results9 ⟨false,rfl,h⟩)))))))))
 refine jC (qB (jI (rg (qc (ln ⟨((q6.wrap (i1+1)),Hl1,w1),⟨rfl,hm,hs,hb,h.1⟩,h.2⟩)))))
 refine zB (vG (vG (kQ (jI (eg (q0 (vb true) (ln (er (rs1 results9 ⟨true,rfl,h⟩)))))))))
def s_P1 (code1:Int):Bool :=((decide (code1≥4)) && (decide (code1≤11)))
theorem pw_P1 (code1:Int) (w0:World) :
  Calls prog 24 #[(vi code1)] w0 (fun e w'=>(e=.returned (vb ((decide (code1≥4)) && (decide (code1≤11)))))∧Pure w0 w'):=by
 refine cw (args:=[(vi code1)]) func24 ntmps24 (eg (q0 (vb false) (ln (jA ?_))))
 refine jZ (fun ρ wJ=>w0=wJ∧Has ρ [(2,(vb ((decide (code1≥4)) && (decide (code1≤11)))))]) ?_ ?_
 refine rg (qc (jE 3 (fun ρ wJ=>∃b3'0:Bool,((decide (code1≥4))=b3'0)∧w0=wJ∧Has ρ [(8,(vb (b3'0 && (decide (code1≤11)))))]) ?_ ?_))
 rintro ρ w3 ⟨b3'0,he0,hw,hH⟩
 subst he0
 subst hw
 refine jJ hH (q (ln ⟨rfl,hm⟩))
 rcases bte (decide (code1≥4)) with hg4 | hg4
 refine qk 5 hg4 (qk 5 hg4 (q2 (vb (decide (code1≤11))) (xT hg4) (jB ⟨true,hg4,rfl,hm⟩)))
 refine sj2 5 hg4 (q2 (vb false) (xF hg4) (jB ⟨false,hg4,rfl,hm⟩))
 rintro ρ w2 ⟨hw,hH⟩
 subst hw
 refine jP hH (jI (er (rs1 results24 (v:=(vb ((decide (code1≥4)) && (decide (code1≤11))))) ⟨by kernel_rfl,Ext.refl _⟩)))
theorem p_P1 (code1:Int) (w0:World):Calls prog 24 #[(.int .i64 code1)] w0 (fun e w'=>e=.returned (.bool (s_P1 code1))∧Pure w0 w'):=pw_P1 code1 w0
def s_L (code1:Int):Bool :=((code1 == 4) || ((decide (code1≥9)) && (decide (code1≤11))))
theorem pw_L (code1:Int) (w0:World) :
  Calls prog 25 #[(vi code1)] w0 (fun e w'=>(e=.returned (vb ((code1 == 4) || ((decide (code1≥9)) && (decide (code1≤11))))))∧Pure w0 w'):=by
 refine cw (args:=[(vi code1)]) func25 ntmps25 (eg (q0 (vb false) (ln (jA ?_))))
 refine jZ (fun ρ wJ=>w0=wJ∧Has ρ [(2,(vb ((code1 == 4) || ((decide (code1≥9)) && (decide (code1≤11))))))]) ?_ ?_
 refine rg (qc (jE 7 (fun ρ wJ=>∃b6'0:Bool,((code1 == 4)=b6'0)∧w0=wJ∧Has ρ [(12,(vb (b6'0 || ((decide (code1≥9)) && (decide (code1≤11))))))]) ?_ ?_))
 rintro ρ w6 ⟨b6'0,he0,hw,hH⟩
 subst he0
 subst hw
 refine jJ hH (q (ln ⟨rfl,hm⟩))
 rcases bte (code1 == 4) with hg10 | hg10
 refine sj3 5 hg10 (sm (sm (sj 5 hg10 (q2 (vb true) (xT hg10) (jB ⟨true,hg10,rfl,hm⟩)))))
 refine qk 5 hg10 (qk 5 hg10 (qk 5 hg10 (jE 3 (fun ρ wJ=>∃b7'0:Bool,((decide (code1≥9))=b7'0)∧w0=wJ∧Has ρ [(5,(vb (code1 == 4))),(11,(vb (b7'0 && (decide (code1≤11)))))]) ?_ ?_)))
 rintro ρ w7 ⟨b7'0,he0,hw,hH⟩
 subst he0
 subst hw
 refine jJ hH (q2 (vb ((decide (code1≥9)) && (decide (code1≤11)))) (xF hg10) (jB ⟨false,hg10,rfl,hm⟩))
 rcases bte (decide (code1≥9)) with hg12 | hg12
 refine qk 8 hg12 (qk 8 hg12 (stq (v:=(vb (decide (code1≤11)))) (wy 5 hg10) (xT hg12) (jB ⟨true,hg12,rfl,hm⟩)))
 refine sj2 8 hg12 (stq (v:=(vb false)) (wy 5 hg10) (xF hg12) (jB ⟨false,hg12,rfl,hm⟩))
 rintro ρ w4 ⟨hw,hH⟩
 subst hw
 refine jP hH (jI (er (rs1 results25 (v:=(vb ((code1 == 4) || ((decide (code1≥9)) && (decide (code1≤11)))))) ⟨by kernel_rfl,Ext.refl _⟩)))
theorem p_L (code1:Int) (w0:World):Calls prog 25 #[(.int .i64 code1)] w0 (fun e w'=>e=.returned (.bool (s_L code1))∧Pure w0 w'):=pw_L code1 w0
def m_A_j2 (i1:Int) (H:NP) (w:World) (Kc1:Int→NP→WP) (_K:Sl→WP):Prop :=Kc1 (q6.wrap (i1 - 1)) H w
def m_A_j6 (l1 s1:Sl) (i1:Int) (x2:Bool) (H:NP) (w:World) (Kc1:Int→NP→WP) (K:Sl→WP):Prop :=Br x2 (∃a2:Addr,At l1 i1 5 a2∧∃v2,w.cell? (a2.add 2)=some (vi v2)∧∃a3:Addr,At s1 v2 1 a3∧zS w a3∧¬ H a3.block∧∀w2,w2=w.setCell a3 (vb true)→m_A_j2 i1 H w2 Kc1 K) (m_A_j2 i1 H w Kc1 K)
def m_A_j7 (l1 s1:Sl) (i1:Int) (x3:Bool) (H:NP) (w:World) (Kc1:Int→NP→WP) (K:Sl→WP):Prop :=Br x3 (∃a5:Addr,At l1 i1 5 a5∧∃v4,w.cell? (a5.add 2)=some (vi v4)∧m_A_j6 l1 s1 i1 (decide (v4<i1)) H w Kc1 K) (m_A_j6 l1 s1 i1 false H w Kc1 K)
def m_A_j5 (l1 s1:Sl) (i1:Int) (w0:World) (H:NP) (w:World) (Kc1:Int→NP→WP) (K:Sl→WP):Prop :=∃a4:Addr,At l1 i1 5 a4∧∃v3,w.cell? a4=some (vi v3)∧Br (s_L v3) (∃a6:Addr,At l1 i1 5 a6∧∀w3,Hst w0 H w H w3→∃v5,w3.cell? (a6.add 2)=some (vi v5)∧m_A_j7 l1 s1 i1 (decide (v5≥0)) H w3 Kc1 K) (∀w3,Hst w0 H w H w3→m_A_j7 l1 s1 i1 false H w3 Kc1 K)
def m_A_j4 (l1 s1:Sl) (i1:Int) (x1:Bool) (w0:World) (H:NP) (w:World) (Kc1:Int→NP→WP) (K:Sl→WP):Prop :=Br x1 (∃a7:Addr,At l1 i1 5 a7∧∃v6,w.cell? (a7.add 1)=some (vi v6)∧∃a8:Addr,At s1 v6 1 a8∧zS w a8∧¬ H a8.block∧∀w4,w4=w.setCell a8 (vb true)→m_A_j5 l1 s1 i1 w0 H w4 Kc1 K) (m_A_j5 l1 s1 i1 w0 H w Kc1 K)
def m_A_j8 (l1 s1:Sl) (i1:Int) (x4:Bool) (w0:World) (H:NP) (w:World) (Kc1:Int→NP→WP) (K:Sl→WP):Prop :=Br x4 (∃a10:Addr,At l1 i1 5 a10∧∃v8,w.cell? (a10.add 1)=some (vi v8)∧m_A_j4 l1 s1 i1 (decide (v8<i1)) w0 H w Kc1 K) (m_A_j4 l1 s1 i1 false w0 H w Kc1 K)
def m_A_j3 (l1 s1:Sl) (i1:Int) (w0:World) (H:NP) (w:World) (Kc1:Int→NP→WP) (K:Sl→WP):Prop :=∃a1:Addr,At s1 i1 1 a1∧∃v1,w.cell? a1=some (vb v1)∧Br (!v1) (m_A_j2 i1 H w Kc1 K) (∃a9:Addr,At l1 i1 5 a9∧∃v7,w.cell? a9=some (vi v7)∧Br ((decide (v7≥4)) && (decide (v7≤11))) (∃a11:Addr,At l1 i1 5 a11∧∀w5,Hst w0 H w H w5→∃v9,w5.cell? (a11.add 1)=some (vi v9)∧m_A_j8 l1 s1 i1 (decide (v9≥0)) w0 H w5 Kc1 K) (∀w5,Hst w0 H w H w5→m_A_j8 l1 s1 i1 false w0 H w5 Kc1 K))
def m_A_j10 (s2 out1:Sl) (i2 aC:Int) (aH aD aI:Int) (aJ:ByteArray) (w0:World) (H:NP) (w:World) (Kc9:Sl→Int→NP→WP) (_K:Sl→WP):Prop :=Br (((s_L aC) && (decide (aD≥0))) && (decide (aD<i2))) (∃a15:Addr,At s2 aD 1 a15∧∀H6 w17,Hst w0 H w H6 w17→∃v11,w17.cell? a15=some (vi v11)∧∃a16:Addr,At s2 i2 1 a16∧∀w20,Hst w0 H6 w17 H6 w20→zS w20 a16∧¬ H6 a16.block∧∀w21,w21=w20.setCell a16 (vi (out1.len:Int))→∀p2 w22,New w21 (.cells #[(vi aC),(vi aH),(vi v11),(vu aI),(vs aJ)] 49) p2 w22→∃s3:Sl,∃w23:World,(Builtin.append_ #[23,23] 23 #[out1.v,(Sl.mk (some p2) 1 1).v]).run prog w22=.ok s3.v w23∧Kept H6 w22 w23∧Kc9 s3 (q6.wrap (i2+1)) H6 w23) (∃a17:Addr,At s2 i2 1 a17∧∀H6 w17,Hst w0 H w H6 w17→zS w17 a17∧¬ H6 a17.block∧∀w24,w24=w17.setCell a17 (vi (out1.len:Int))→∀p3 w25,New w24 (.cells #[(vi aC),(vi aH),(vi aD),(vu aI),(vs aJ)] 49) p3 w25→∃s4:Sl,∃w26:World,(Builtin.append_ #[23,23] 23 #[out1.v,(Sl.mk (some p3) 1 1).v]).run prog w25=.ok s4.v w26∧Kept H6 w25 w26∧Kc9 s4 (q6.wrap (i2+1)) H6 w26)
def m_A_l9 (l1 s1:Sl) (s2 out1:Sl) (i2:Int) (w0:World) (Hl2:NP) (wl2:World) (Kc9:Sl→Int→NP→WP) (K:Sl→WP):Prop :=Br (decide (i2<(l1.len:Int))) (∃a13:Addr,At s1 i2 1 a13∧∃v10,wl2.cell? a13=some (vb v10)∧Br (!v10) (Kc9 out1 (q6.wrap (i2+1)) Hl2 wl2) (∃a14:Addr,At l1 i2 5 a14∧∃aA aB aE aF aG,Row wl2 a14 (Ac aA aB aE aF aG)∧∀y1:Bool,y1=((((decide (aA≥4)) && (decide (aA≤11))) && (decide (aB≥0))) && (decide (aB<i2)))→Br y1 (∃a18:Addr,At s2 aB 1 a18∧∀H3 w12,Hst w0 Hl2 wl2 H3 w12→∃v12,w12.cell? a18=some (vi v12)∧∀w27,Hst w0 H3 w12 H3 w27→m_A_j10 s2 out1 i2 aA v12 aE aF aG w0 H3 w27 Kc9 K) (∀H3 w12,Hst w0 Hl2 wl2 H3 w12→m_A_j10 s2 out1 i2 aA aB aE aF aG w0 H3 w12 Kc9 K))) (K out1 wl2)
def m_A_l1 (l1 s1:Sl) (i1:Int) (w0:World) (Hl1:NP) (wl1:World) (Kc1:Int→NP→WP) (K:Sl→WP):Prop :=Br (decide (i1≥0)) (Br (i1 == (q6.wrap ((l1.len:Int) - 1))) (∃a12:Addr,At s1 i1 1 a12∧zS wl1 a12∧¬ Hl1 a12.block∧∀w6,w6=wl1.setCell a12 (vb true)→m_A_j3 l1 s1 i1 w0 Hl1 w6 Kc1 K) (m_A_j3 l1 s1 i1 w0 Hl1 wl1 Kc1 K)) (∃s2:Sl,∃w7:World,(Instr.makeSlice 72 (vi (l1.len:Int)) (vi (l1.len:Int))).run prog wl1=.ok s2.v w7∧Kept Hl1 wl1 w7∧∃(I2:Sl→Int→NP→WP) (mu2:Sl→Int→World→Nat),I2 Sl.nil 0 Hl1 w7∧∀(out1:Sl) (i2:Int) (Hl2:NP) (wl2:World),Hst w0 Hl2 wl2 Hl2 wl2→I2 out1 i2 Hl2 wl2→m_A_l9 l1 s1 s2 out1 i2 w0 Hl2 wl2 (fun y'0 y'1 H' w'=>I2 y'0 y'1 H' w'∧mu2 y'0 y'1 w'<mu2 out1 i2 wl2) K)
def m_A (l1:Sl) (w0:World) (K:Sl→WP):Prop :=∃s1:Sl,∃w1:World,(Instr.makeSlice 63 (vi (l1.len:Int)) (vi (l1.len:Int))).run prog w0=.ok s1.v w1∧Kept None w0 w1∧∃(I1:Int→NP→WP) (mu1:Int→World→Nat),I1 (q6.wrap ((l1.len:Int) - 1)) None w1∧∀(i1:Int) (Hl1:NP) (wl1:World),Hst w0 Hl1 wl1 Hl1 wl1→I1 i1 Hl1 wl1→m_A_l1 l1 s1 i1 w0 Hl1 wl1 (fun y'0 H' w'=>I1 y'0 H' w'∧mu1 y'0 w'<mu1 i1 wl1) K
theorem w_A (l1 w0 K) (h:m_A l1 w0 K):
  Calls prog 10 #[l1.v] w0 (fun e w'=>∃r1:Sl,e=.returned r1.v∧K r1 w'):=by
 refine cw (args:=[l1.v]) func10 ntmps10 ?_
 obtain ⟨hs,hb⟩:=st0 w0
 refine eg (q (ln (eg (qb ?_))))
 obtain ⟨s1,w1,hv35,hk,h⟩:=h
 refine st (v:=s1.v) (jM rfl) (qZ (by kernel_rfl) (by kernel_rfl) hv35) ?_
 obtain ⟨hs,hb⟩:=hk.hh hs hb
 refine q (ln (jA (eg (qd (ln (jG ?_))))))
 obtain ⟨I1,mu1,h0,hr⟩:=h
 refine zH (σ:=Int×NP×World) (fun s ρ w=>w=s.2.2∧Has ρ [(0,l1.v),(3,s1.v),(4,(vi s.1))]∧Hst w0 s.2.1 w s.2.1 w∧HB s.2.1 w []∧I1 s.1 s.2.1 s.2.2) (fun s=>mu1 s.1 s.2.2) ((q6.wrap ((l1.len:Int) - 1)),None,w1) ⟨rfl,hm,hs,hb,h0⟩ ?_
 rintro ⟨i1,Hl1,wl1⟩ ρ w ⟨hw,hH,hs,hb,hI⟩
 dsimp only at hw hH hs hb;subst w
 have h:=hr i1 Hl1 wl1 hs hI
 refine jN hH (jA (eg (qb (ln (cbr h ?_ ?_)))))<;>intro h
 refine jC (jI (jA (zJ (fun ρ w=>∃H:NP,Has ρ [(0,l1.v),(3,s1.v),(4,(vi i1))]∧Hst w0 H w H w∧HB H w []∧m_A_j2 i1 H w (fun y'0 H' w'=>I1 y'0 H' w'∧mu1 y'0 w'<mu1 i1 wl1) K) ?_ ?_)))
 rintro ρ w ⟨H,hH,hs,hb,h⟩
 refine jN hH (rg (qc (ln ⟨((q6.wrap (i1 - 1)),H,w),⟨rfl,hm,hs,hb,h.1⟩,h.2⟩)))
 refine jG (jA (eg (q (qd (ln (zJ (fun ρ w=>∃H:NP,Has ρ [(0,l1.v),(3,s1.v),(4,(vi i1))]∧Hst w0 H w H w∧HB H w []∧m_A_j3 l1 s1 i1 w0 H w (fun y'0 H' w'=>I1 y'0 H' w'∧mu1 y'0 w'<mu1 i1 wl1) K) ?_ ?_))))))
 rintro ρ w ⟨H,hH,hs,hb,h⟩
 refine jN hH (jA (eg (qb (qi (runUnderlying63 _) (sizeOf4 _) h fun a1 h=>ql (isAgg4 _) h fun v1 h=>q (ln (cbr h ?_ ?_))))))<;>intro h
 refine zB (vG (kQ (jI ⟨H,hm,hs,hb,h⟩)))
 refine jC (jI (jA (jA (zJ (fun ρ w=>∃x1,∃H:NP,Has ρ [(0,l1.v),(3,s1.v),(4,(vi i1)),(54,(vb x1))]∧Hst w0 H w H w∧HB H w []∧m_A_j4 l1 s1 i1 x1 w0 H w (fun y'0 H' w'=>I1 y'0 H' w'∧mu1 y'0 w'<mu1 i1 wl1) K) ?_ ?_))))
 rintro ρ w ⟨x1,H,hH,hs,hb,h⟩
 refine jN hH (zJ (fun ρ w=>∃H:NP,Has ρ [(0,l1.v),(3,s1.v),(4,(vi i1))]∧Hst w0 H w H w∧HB H w []∧m_A_j5 l1 s1 i1 w0 H w (fun y'0 H' w'=>I1 y'0 H' w'∧mu1 y'0 w'<mu1 i1 wl1) K) ?_ ?_)
 rintro ρ w ⟨H,hH,hs,hb,h⟩
 refine jN hH (jA (zJ (fun ρ w=>∃x2,∃H:NP,Has ρ [(0,l1.v),(3,s1.v),(4,(vi i1)),(84,(vb x2))]∧Hst w0 H w H w∧HB H w []∧m_A_j6 l1 s1 i1 x2 H w (fun y'0 H' w'=>I1 y'0 H' w'∧mu1 y'0 w'<mu1 i1 wl1) K) ?_ ?_))
 rintro ρ w ⟨x2,H,hH,hs,hb,h⟩
 refine jN hH (cbr h ?_ ?_)<;>intro h
 refine rg (qc (qi (runUnderlying23 _) (sizeOf49 _) h fun a2 h=>q (ql (isAgg3 _) h fun v2 h=>qi (runUnderlying63 _) (sizeOf4 _) h fun a3 h=>st2 (sizeOf4 _) hs hb h fun w2 hs hb h=>jB (qB (jI ⟨H,hm,hs,hb,h⟩)))))
 refine jC (qB (jI ⟨H,hm,hs,hb,h⟩))
 refine rg (qb (qi (runUnderlying23 _) (sizeOf49 _) h fun a4 h=>q (ql (isAgg3 _) h fun v3 h=>sc call25 ((p_L v3 w).mono ?_))))
 rintro e w3 ⟨he,hE⟩
 refine ⟨_,he,?_⟩
 obtain ⟨hs,hb⟩:=hs.pp hb hE
 refine q (jE 7 (fun ρ w=>∃x3,∃H:NP,Has ρ [(0,l1.v),(3,s1.v),(4,(vi i1)),(75,(vb x3))]∧Hst w0 H w H w∧HB H w []∧m_A_j7 l1 s1 i1 x3 H w (fun y'0 H' w'=>I1 y'0 H' w'∧mu1 y'0 w'<mu1 i1 wl1) K) ?_ ?_)
 rintro ρ w ⟨x3,H,hH,hs,hb,h⟩
 refine jJ hH (q ?_)
 obtain ⟨hg1,h⟩|⟨hg1,h⟩:=h.br
 refine qk 76 hg1 (qk 76 hg1 ?_)
 obtain ⟨a5,hv5,h⟩:=h
 refine q4 76 hg1 (xi (runUnderlying23 _) (sizeOf49 _) hv5) (qk 76 hg1 ?_)
 obtain ⟨v4,hv4,h⟩:=h
 refine q4 76 hg1 (xl (isAgg3 _) hv4) (qk 76 hg1 (qk 76 hg1 (q2 (vb (decide (v4<i1))) (xT hg1) (ln ⟨(decide (v4<i1)),H,hm,hs,hb,h⟩))))
 refine sj2 76 hg1 (sj5 76 hg1 (q2 (vb false) (xF hg1) (ln ⟨false,H,hm,hs,hb,h⟩)))
 obtain ⟨hg2,h⟩|⟨hg2,h⟩:=h.br
 refine qk 68 hg2 (qk 68 hg2 ?_)
 obtain ⟨a6,hv7,h⟩:=h
 refine q4 68 hg2 (xi (runUnderlying23 _) (sizeOf49 _) hv7) (qk 68 hg2 ?_)
 have ⟨h,hs⟩:=hs.hr (h w3)
 obtain ⟨v5,hv6,h⟩:=h
 refine q4 68 hg2 (xl (isAgg3 _) hv6) (qk 68 hg2 (q2 (vb (decide (v5≥0))) (xT hg2) (jB ⟨(decide (v5≥0)),H,hm,hs,hb,h⟩)))
 refine sj 68 hg2 (sj5 68 hg2 (q2 (vb false) (xF hg2) (jB ?_)))
 have ⟨h,hs⟩:=hs.hr (h w3)
 exact ⟨false,H,hm,hs,hb,h⟩
 refine cbr h ?_ ?_<;>intro h
 refine rg (qc (qi (runUnderlying23 _) (sizeOf49 _) h fun a7 h=>q (ql (isAgg3 _) h fun v6 h=>qi (runUnderlying63 _) (sizeOf4 _) h fun a8 h=>st2 (sizeOf4 _) hs hb h fun w4 hs hb h=>ln ⟨H,hm,hs,hb,h⟩)))
 refine jC (jI ⟨H,hm,hs,hb,h⟩)
 refine rg (qb (qi (runUnderlying23 _) (sizeOf49 _) h fun a9 h=>q (ql (isAgg3 _) h fun v7 h=>sc call24 ((p_P1 v7 w).mono ?_))))
 rintro e w5 ⟨he,hE⟩
 refine ⟨_,he,?_⟩
 obtain ⟨hs,hb⟩:=hs.pp hb hE
 refine q (jE 7 (fun ρ w=>∃x4,∃H:NP,Has ρ [(0,l1.v),(3,s1.v),(4,(vi i1)),(45,(vb x4))]∧Hst w0 H w H w∧HB H w []∧m_A_j8 l1 s1 i1 x4 w0 H w (fun y'0 H' w'=>I1 y'0 H' w'∧mu1 y'0 w'<mu1 i1 wl1) K) ?_ ?_)
 rintro ρ w ⟨x4,H,hH,hs,hb,h⟩
 refine jJ hH (q ?_)
 obtain ⟨hg3,h⟩|⟨hg3,h⟩:=h.br
 refine qk 46 hg3 (qk 46 hg3 ?_)
 obtain ⟨a10,hv14,h⟩:=h
 refine q4 46 hg3 (xi (runUnderlying23 _) (sizeOf49 _) hv14) (qk 46 hg3 ?_)
 obtain ⟨v8,hv13,h⟩:=h
 refine q4 46 hg3 (xl (isAgg3 _) hv13) (qk 46 hg3 (qk 46 hg3 (q2 (vb (decide (v8<i1))) (xT hg3) (ln ⟨(decide (v8<i1)),H,hm,hs,hb,h⟩))))
 refine sj2 46 hg3 (sj5 46 hg3 (q2 (vb false) (xF hg3) (ln ⟨false,H,hm,hs,hb,h⟩)))
 obtain ⟨hg4,h⟩|⟨hg4,h⟩:=h.br
 refine qk 38 hg4 (qk 38 hg4 ?_)
 obtain ⟨a11,hv16,h⟩:=h
 refine q4 38 hg4 (xi (runUnderlying23 _) (sizeOf49 _) hv16) (qk 38 hg4 ?_)
 have ⟨h,hs⟩:=hs.hr (h w5)
 obtain ⟨v9,hv15,h⟩:=h
 refine q4 38 hg4 (xl (isAgg3 _) hv15) (qk 38 hg4 (q2 (vb (decide (v9≥0))) (xT hg4) (jB ⟨(decide (v9≥0)),H,hm,hs,hb,h⟩)))
 refine sj 38 hg4 (sj5 38 hg4 (q2 (vb false) (xF hg4) (jB ?_)))
 have ⟨h,hs⟩:=hs.hr (h w5)
 exact ⟨false,H,hm,hs,hb,h⟩
 refine cbr h ?_ ?_<;>intro h
 refine rg (qb (qi (runUnderlying63 _) (sizeOf4 _) h fun a12 h=>st2 (sizeOf4 _) hs hb h fun w6 hs hb h=>ln ⟨Hl1,hm,hs,hb,h⟩))
 refine jC (jI ⟨Hl1,hm,hs,hb,h⟩)
 refine zB (vG (vG (kQ (jI (eg (q0 l1.v (q0 (vi (l1.len:Int)) ?_)))))))
 obtain ⟨s2,w7,hv34,hk,h⟩:=h
 refine st (v:=s2.v) (jM rfl) (qZ (by kernel_rfl) (by kernel_rfl) hv34) ?_
 obtain ⟨hs,hb⟩:=hk.hh hs hb
 refine q (ln (eg (q (ln (jA (eg (q (ln (jG ?_)))))))))
 obtain ⟨I2,mu2,h0,hr⟩:=h
 refine zH (σ:=Sl×Int×NP×World) (fun s ρ w=>w=s.2.2.2∧Has ρ [(0,l1.v),(3,s1.v),(5,s2.v),(6,s.1.v),(7,(vi s.2.1))]∧Hst w0 s.2.2.1 w s.2.2.1 w∧HB s.2.2.1 w []∧I2 s.1 s.2.1 s.2.2.1 s.2.2.2) (fun s=>mu2 s.1 s.2.1 s.2.2.2) (Sl.nil,0,Hl1,w7) ⟨rfl,hm,hs,hb,h0⟩ ?_
 rintro ⟨out1,i2,Hl2,wl2⟩ ρ w ⟨hw,hH,hs,hb,hI⟩
 dsimp only at hw hH hs hb;subst w
 have h:=hr out1 i2 Hl2 wl2 hs hI
 refine jN hH (jA (eg (qd (ln (cbr h ?_ ?_)))))<;>intro h
 refine jC (jI (jA (jG (jA (eg (qb (qi (runUnderlying63 _) (sizeOf4 _) h fun a13 h=>ql (isAgg4 _) h fun v10 h=>q (ln (cbr h ?_ ?_)))))))))<;>intro h
 refine zB (vG (kQ (jI (rg (q0 (vi i2) (q0 (vi (q6.wrap (i2+1))) (q0 (vi (q6.wrap (i2+1))) (ln ⟨(out1,(q6.wrap (i2+1)),Hl2,wl2),⟨rfl,hm,hs,hb,h.1⟩,h.2⟩))))))))
 refine jC (jI (eg (qb (qi (runUnderlying23 _) (sizeOf49 _) h fun a14 h=>?_))))
 obtain ⟨aA,aB,aE,aF,aG,hv30,h⟩:=h
 refine qa (isAgg49 _) (sizeOf49 _) hv30 (nw3 [(vi 0),(vi 0),(vi 0),(vu 0),ve] 49 hs hb (jX (zeroValue49 _) rfl) fun p1 w8 H1 hs hb=>sbx 0 (Ac aA aB aE aF aG) (sizeOf49 _) hs hb gZ fun w9 hs hb=>ln (jA (jA (jZ (fun ρ wJ=>∃b2'0 y1:Bool,∃HJ:NP,((((decide (aA≥4)) && (decide (aA≤11))) && (decide (aB≥0)))=b2'0)∧(y1=(b2'0 && (decide (aB<i2))))∧Hst w0 Hl2 wl2 HJ wJ∧HB HJ wJ [(p1,(Ac aA aB aE aF aG),49)]∧Has ρ [(0,l1.v),(3,s1.v),(5,s2.v),(6,out1.v),(7,(vi i2)),(8,(vp (some p1))),(123,(vb y1))]) ?_ ?_))))
 refine rg (q (q3 (xl (isAgg3 _) (hb.d0 0 gZ)) (sc call24 ((p_P1 aA w9).mono ?_))))
 rintro e w13 ⟨he,hE⟩
 refine ⟨_,he,?_⟩
 obtain ⟨hs,hb⟩:=hs.pp hb hE
 refine q (jE 4 (fun ρ wJ=>∃b3'0:Bool,∃HJ:NP,(((decide (aA≥4)) && (decide (aA≤11)))=b3'0)∧Hst w0 Hl2 wl2 HJ wJ∧HB HJ wJ [(p1,(Ac aA aB aE aF aG),49)]∧Has ρ [(0,l1.v),(3,s1.v),(5,s2.v),(6,out1.v),(7,(vi i2)),(8,(vp (some p1))),(117,(vb (b3'0 && (decide (aB≥0)))))]) ?_ ?_)
 rintro ρ w14 ⟨b3'0,H4,he0,hs,hb,hH⟩
 subst he0
 refine jJ hH (q ?_)
 rcases bte (((decide (aA≥4)) && (decide (aA≤11))) && (decide (aB≥0))) with hg10 | hg10
 refine qk 118 hg10 (q4 118 hg10 (xl (isAgg3 _) (hb.d 0 1 gZ)) (qk 118 hg10 (qk 118 hg10 (q2 (vb (decide (aB<i2))) (xT hg10) (ln ⟨true,_,_,hg10,rfl,hs,hb,hm⟩)))))
 refine sj4 118 hg10 (q2 (vb false) (xF hg10) (ln ⟨false,_,_,hg10,rfl,hs,hb,hm⟩))
 rcases bte ((decide (aA≥4)) && (decide (aA≤11))) with hg9 | hg9
 refine qk 113 hg9 (q4 113 hg9 (xl (isAgg3 _) (hb.d 0 1 gZ)) (qk 113 hg9 (q2 (vb (decide (aB≥0))) (xT hg9) (jB ⟨true,_,hg9,hs,hb,hm⟩))))
 refine sj3 113 hg9 (q2 (vb false) (xF hg9) (jB ⟨false,_,hg9,hs,hb,hm⟩))
 rintro ρ w12 ⟨b2'0,y1,H3,he0,hy1,hs,hb,hH⟩
 subst he0
 have h:=h y1 hy1
 refine jP hH (jI (zJ (fun ρ w=>∃aC aH aD aI aJ,∃H:NP,Has ρ [(0,l1.v),(3,s1.v),(5,s2.v),(6,out1.v),(7,(vi i2)),(8,(vp (some p1)))]∧Hst w0 H w H w∧HB H w [(p1,(Ac aC aH aD aI aJ),49)]∧m_A_j10 s2 out1 i2 aC aH aD aI aJ w0 H w (fun y'0 y'1 H' w'=>I2 y'0 y'1 H' w'∧mu2 y'0 y'1 w'<mu2 out1 i2 wl2) K) ?_ ?_))
 rintro ρ w ⟨aC,aH,aD,aI,aJ,H,hH,hs,hb,h⟩
 refine jN hH (jA (jA (jZ (fun ρ wJ=>∃b5'0:Bool,∃HJ:NP,(((s_L aC) && (decide (aD≥0)))=b5'0)∧Hst w0 H w HJ wJ∧HB HJ wJ [(p1,(Ac aC aH aD aI aJ),49)]∧Has ρ [(0,l1.v),(3,s1.v),(5,s2.v),(6,out1.v),(7,(vi i2)),(8,(vp (some p1))),(143,(vb (b5'0 && (decide (aD<i2)))))]) ?_ ?_)))
 refine rg (q (q3 (xl (isAgg3 _) (hb.d0 0 gZ)) (sc call25 ((p_L aC w).mono ?_))))
 rintro e w18 ⟨he,hE⟩
 refine ⟨_,he,?_⟩
 obtain ⟨hs,hb⟩:=hs.pp hb hE
 refine q (jE 4 (fun ρ wJ=>∃b6'0:Bool,∃HJ:NP,((s_L aC)=b6'0)∧Hst w0 H w HJ wJ∧HB HJ wJ [(p1,(Ac aC aH aD aI aJ),49)]∧Has ρ [(0,l1.v),(3,s1.v),(5,s2.v),(6,out1.v),(7,(vi i2)),(8,(vp (some p1))),(137,(vb (b6'0 && (decide (aD≥0)))))]) ?_ ?_)
 rintro ρ w19 ⟨b6'0,H7,he0,hs,hb,hH⟩
 subst he0
 refine jJ hH (q ?_)
 rcases bte ((s_L aC) && (decide (aD≥0))) with hg16 | hg16
 refine qk 138 hg16 (q4 138 hg16 (xl (isAgg3 _) (hb.d 0 2 gZ)) (qk 138 hg16 (qk 138 hg16 (q2 (vb (decide (aD<i2))) (xT hg16) (ln ⟨true,_,hg16,hs,hb,hm⟩)))))
 refine sj4 138 hg16 (q2 (vb false) (xF hg16) (ln ⟨false,_,hg16,hs,hb,hm⟩))
 rcases bte (s_L aC) with hg15 | hg15
 refine qk 133 hg15 (q4 133 hg15 (xl (isAgg3 _) (hb.d 0 2 gZ)) (qk 133 hg15 (q2 (vb (decide (aD≥0))) (xT hg15) (jB ⟨true,_,hg15,hs,hb,hm⟩))))
 refine sj3 133 hg15 (q2 (vb false) (xF hg15) (jB ⟨false,_,hg15,hs,hb,hm⟩))
 rintro ρ w17 ⟨b5'0,H6,he0,hs,hb,hH⟩
 subst he0
 refine jP hH (jI (cbr h ?_ ?_))<;>intro h
 refine rg (qb (q3 (xl (isAgg3 _) (hb.d 0 2 gZ)) (qi (runUnderlying72 _) (sizeOf3 _) h fun a15 h=>?_)))
 have ⟨h,hs⟩:=hs.hr (h H6 w17)
 refine ql (isAgg3 _) h fun v11 h=>q (qE (jM rfl) (vJ (a:=(p1.add 2)) (v:=(vi v11)) (by kernel_rfl) (by kernel_rfl) rfl (sizeOf3 _) (hb.canW 0 2 gZ (by kernel_rfl))) ?_)
 intro w20 hn6
 have hsb:Hst w0 H6 w17 H6 w20∧HB H6 w20 [(p1,(Ac aC aH v11 aI aJ),49)]:=by
  rw [hn6];exact hb.set (i:=0) 2 (v:=(vi v11)) hs gZ (by kernel_rfl)
 obtain ⟨hs,hb⟩:=hsb
 refine ln (eg (qd (qi (runUnderlying72 _) (sizeOf3 _) h fun a16 h=>?_)))
 have ⟨h,hs⟩:=hs.hr (h w20)
 refine st2 (sizeOf3 _) hs hb h fun w21 hs hb h=>ln (rg (q (q2 (Ah aC aH v11 aI aJ) (xa p1 (Ac aC aH v11 aI aJ) (isAgg49 _) (sizeOf49 _) (hb.r0 0 5 gZ)) (nw5 (fun p=>(Sl.mk (some p) 1 1).v) hs hb h fun p2 w22 hs hb h=>?_))))
 obtain ⟨s3,w23,hv22,hk,h⟩:=h
 refine st (v:=s3.v) (jM rfl) (zD (args:=#[out1.v,(Sl.mk (some p2) 1 1).v]) (by kernel_rfl) (fun _=>rfl) hv22) ?_
 obtain ⟨hs,hb⟩:=hk.hh hs hb
 refine q (jB (qB (jI (rg (qc (ln ⟨(s3,(q6.wrap (i2+1)),H6,w23),⟨rfl,hm,hs,hb.drop 1,h.1⟩,h.2⟩))))))
 refine jC (jI (eg (qd (qi (runUnderlying72 _) (sizeOf3 _) h fun a17 h=>?_))))
 have ⟨h,hs⟩:=hs.hr (h H6 w17)
 refine st2 (sizeOf3 _) hs hb h fun w24 hs hb h=>ln (rg (q (q2 (Ah aC aH aD aI aJ) (xa p1 (Ac aC aH aD aI aJ) (isAgg49 _) (sizeOf49 _) (hb.r0 0 5 gZ)) (nw5 (fun p=>(Sl.mk (some p) 1 1).v) hs hb h fun p3 w25 hs hb h=>?_))))
 obtain ⟨s4,w26,hv26,hk,h⟩:=h
 refine st (v:=s4.v) (jM rfl) (zD (args:=#[out1.v,(Sl.mk (some p3) 1 1).v]) (by kernel_rfl) (fun _=>rfl) hv26) ?_
 obtain ⟨hs,hb⟩:=hk.hh hs hb
 refine q (jB (qB (jI (rg (qc (ln ⟨(s4,(q6.wrap (i2+1)),H6,w26),⟨rfl,hm,hs,hb.drop 1,h.1⟩,h.2⟩))))))
 refine cbr h ?_ ?_<;>intro h
 refine rg (qb (q3 (xl (isAgg3 _) (hb.d 0 1 gZ)) (qi (runUnderlying72 _) (sizeOf3 _) h fun a18 h=>?_)))
 have ⟨h,hs⟩:=hs.hr (h H3 w12)
 refine ql (isAgg3 _) h fun v12 h=>q (qE (jM rfl) (vJ (a:=(p1.add 1)) (v:=(vi v12)) (by kernel_rfl) (by kernel_rfl) rfl (sizeOf3 _) (hb.canW 0 1 gZ (by kernel_rfl))) ?_)
 intro w27 hn11
 have hsb:Hst w0 H3 w12 H3 w27∧HB H3 w27 [(p1,(Ac aA v12 aE aF aG),49)]:=by
  rw [hn11];exact hb.set (i:=0) 1 (v:=(vi v12)) hs gZ (by kernel_rfl)
 obtain ⟨hs,hb⟩:=hsb
 refine jB ?_
 have ⟨h,hs⟩:=hs.hr (h w27)
 refine jI ⟨aA,v12,aE,aF,aG,H3,hm,hs,hb,h⟩
 refine jC ?_
 have ⟨h,hs⟩:=hs.hr (h H3 w12)
 refine jI ⟨aA,aB,aE,aF,aG,H3,hm,hs,hb,h⟩
 refine zB (vG (vG (kQ (jI (eg (q0 out1.v (q0 out1.v (ln (er (rs1 results10 ⟨out1,rfl,h⟩))))))))))
end Go.Proofs
end
section
open Go Go.SE
open Go.IntKind renaming i64 → q6
namespace Go.Proofs
open Try
set_option maxRecDepth 100000
set_option maxHeartbeats 4000000
attribute [local irreducible] wpL wpX opE wpE Calls
def m_J3 (l1:Sl) (w0:World) (K:Bool→WP):Prop :=Br (decide ((l1.len:Int)>300)) (K true w0) (Calls prog 13 #[(.agg #[(vi 0),(vi 0),(vi 0),(vu 0),ve,l1.v]),(vi 6000)] w0 (fun e w1=>∃r1,e=.returned (vi r1)∧K (decide (r1>6000)) w1))
theorem w_J3 (l1 w0 K) (h:m_J3 l1 w0 K):
  Calls prog 4 #[l1.v] w0 (fun e w'=>∃r2,e=.returned (vb r2)∧K r2 w'):=by
 refine cw (args:=[l1.v]) func4 ntmps4 (eg (q0 (vb false) (ln (eg (q0 l1.v (q0 (vi (l1.len:Int)) (q0 (vb (decide ((l1.len:Int)>300))) (q0 (vb (decide ((l1.len:Int)>300))) ?_))))))))
 obtain ⟨hg1,h⟩|⟨hg1,h⟩:=h.br
 refine sj4 6 hg1 (q2 (vb true) (xT hg1) (q (ln (er (rs1 results4 ⟨true,rfl,h⟩)))))
 refine qk 6 hg1 (qk 6 hg1 (zK (wy 6 hg1) (xc call13) (h.mono ?_)))
 rintro e w1 ⟨r1,rfl,h⟩
 refine ⟨_,rfl,?_⟩
 refine qk 6 hg1 (q2 (vb (decide (r1>6000))) (xF hg1) (q (ln (er (rs1 results4 ⟨(decide (r1>6000)),rfl,h⟩)))))
def m_E1_l1 (l1:Sl) (n1 i1:Int) (wl1:World) (Kc1:Int→Int→WP) (K:Bool→WP):Prop :=Br ((decide (i1<(l1.len:Int))) && (decide (i1≤300))) (∃a1:Addr,At l1 i1 5 a1∧∃v1,wl1.cell? (a1.add 4)=some (vs v1)∧Kc1 (q6.wrap (n1+(v1.size:Int))) (q6.wrap (i1+1)) wl1) (K ((decide ((l1.len:Int)>300)) || (decide (n1>20000))) wl1)
def m_E1 (l1:Sl) (w0:World) (K:Bool→WP):Prop :=∃(I1:Int→Int→WP) (mu1:Int→Int→World→Nat),I1 0 0 w0∧∀(n1 i1:Int) (wl1:World),I1 n1 i1 wl1→m_E1_l1 l1 n1 i1 wl1 (fun y'0 y'1 w'=>I1 y'0 y'1 w'∧mu1 y'0 y'1 w'<mu1 n1 i1 wl1) K
theorem w_E1 (l1 w0 K) (h:m_E1 l1 w0 K):
  Calls prog 5 #[l1.v] w0 (fun e w'=>∃r1,e=.returned (vb r1)∧K r1 w'):=by
 refine cw (args:=[l1.v]) func5 ntmps5 (eg (q0 (vb false) (ln (eg (q0 (vi 0) (ln (jA ?_)))))))
 refine eg (q (ln (jG ?_)))
 obtain ⟨I1,mu1,h0,hr⟩:=h
 refine zH (σ:=Int×Int×World) (fun s ρ w=>w=s.2.2∧Has ρ [(0,l1.v),(3,(vi s.1)),(4,(vi s.2.1))]∧I1 s.1 s.2.1 s.2.2) (fun s=>mu1 s.1 s.2.1 s.2.2) (0,0,w0) ⟨rfl,hm,h0⟩ ?_
 rintro ⟨n1,i1,wl1⟩ ρ w ⟨hw,hH,hI⟩
 dsimp only at hw hH;subst w
 have h:=hr n1 i1 wl1 hI
 refine jN hH (jA (jA (jZ (fun ρ wJ=>∃b1'0:Bool,((decide (i1<(l1.len:Int)))=b1'0)∧wl1=wJ∧Has ρ [(0,l1.v),(3,(vi n1)),(4,(vi i1)),(12,(vb (b1'0 && (decide (i1≤300)))))]) ?_ ?_)))
 refine rg (q (qd ?_))
 rcases bte (decide (i1<(l1.len:Int))) with hg2 | hg2
 refine qk 9 hg2 (qk 9 hg2 (q2 (vb (decide (i1≤300))) (xT hg2) (ln ⟨true,hg2,rfl,hm⟩)))
 refine sj2 9 hg2 (q2 (vb false) (xF hg2) (ln ⟨false,hg2,rfl,hm⟩))
 rintro ρ w1 ⟨b1'0,he0,hw,hH⟩
 subst he0
 subst hw
 refine jP hH (jI (cbr h ?_ ?_))<;>intro h
 refine jC (jI (jA (jG (rg (qc (qi (runUnderlying23 _) (sizeOf49 _) h fun a1 h=>q (ql (isAgg9 _) h fun v1 h=>qc (jB (qB (jI (rg (qc (jB (jI ⟨((q6.wrap (n1+(v1.size:Int))),(q6.wrap (i1+1)),wl1),⟨rfl,hm,h.1⟩,h.2⟩))))))))))))))
 refine zB (vG (vG (kQ (jI (jA (jZ (fun ρ wJ=>wl1=wJ∧Has ρ [(2,(vb ((decide ((l1.len:Int)>300)) || (decide (n1>20000)))))]) ?_ ?_))))))
 refine rg (qd (jE 3 (fun ρ wJ=>∃b4'0:Bool,((decide ((l1.len:Int)>300))=b4'0)∧wl1=wJ∧Has ρ [(29,(vb (b4'0 || (decide (n1>20000)))))]) ?_ ?_))
 rintro ρ w4 ⟨b4'0,he0,hw,hH⟩
 subst he0
 subst hw
 refine jJ hH (q (ln ⟨rfl,hm⟩))
 rcases bte (decide ((l1.len:Int)>300)) with hg6 | hg6
 refine sj2 26 hg6 (q2 (vb true) (xT hg6) (jB ⟨true,hg6,rfl,hm⟩))
 refine qk 26 hg6 (qk 26 hg6 (q2 (vb (decide (n1>20000))) (xF hg6) (jB ⟨false,hg6,rfl,hm⟩)))
 rintro ρ w3 ⟨hw,hH⟩
 subst hw
 refine jP hH (jI (er (rs1 results5 ⟨((decide ((l1.len:Int)>300)) || (decide (n1>20000))),rfl,h⟩)))
def s_F1 (e1:Int):Int :=e1
theorem pw_F1 (e1:Int) (w0:World) :
  Calls prog 12 #[(vi e1)] w0 (fun e w'=>(e=.returned (vi e1))∧Pure w0 w'):=by
 refine cw (args:=[(vi e1)]) func12 ntmps12 (eg (q0 (vi 0) (ln (eg (q0 (vi e1) (q0 (vi e1) (ln ?_)))))))
 refine er (rs1 results12 (v:=(vi e1)) ⟨by kernel_rfl,Ext.refl _⟩)
theorem p_F1 (e1:Int) (w0:World):Calls prog 12 #[(.int .i64 e1)] w0 (fun e w'=>e=.returned (.int .i64 (s_F1 e1))∧Pure w0 w'):=pw_F1 e1 w0
def m_I_j4 (k1:Int) (there2:Bool) (H:NP) (w:World) (Kc3:Bool→Int→NP→WP) (_K:(Option Addr)→Bool→WP):Prop :=Kc3 there2 (q6.wrap (k1+1)) H w
def m_I_l3 (p1:Addr) (i1 r4 r6:Int) (there1:Bool) (k1:Int) (Hl2:NP) (wl2:World) (Kc2:Int→NP→WP) (Kc3:Bool→Int→NP→WP) (K:(Option Addr)→Bool→WP):Prop :=∃v4:Sl,wl2.cell? (p1.add 3)=some v4.v∧Br (decide (k1<(v4.len:Int))) (Br there1 (m_I_j4 k1 true Hl2 wl2 Kc3 K) (∃v5:Sl,wl2.cell? (p1.add 3)=some v5.v∧∃a3:Addr,At v5 k1 1 a3∧∃v6,wl2.cell? a3=some (vi v6)∧m_I_j4 k1 (v6 == r6) Hl2 wl2 Kc3 K)) (Br (!there1) (∃v7:Sl,wl2.cell? (p1.add 3)=some v7.v∧∀p2 w14,New wl2 (.cells #[(vi r6)] 32) p2 w14→∃s1:Sl,∃w15:World,(Builtin.append_ #[39,39] 39 #[v7.v,(Sl.mk (some p2) 1 1).v]).run prog w14=.ok s1.v w15∧Kept Hl2 w14 w15∧zS w15 (p1.add 3)∧¬ Hl2 (p1.add 3).block∧∀w16,w16=w15.setCell (p1.add 3) s1.v→∃v8,w16.cell? (p1.add 1)=some (vp v8)∧Calls prog 21 #[(vp v8),(vi r4)] w16 (fun e w17=>∃r8,e=.returned (vi r8)∧Kept Hl2 w16 w17∧Kc2 (q6.wrap (i1+1)) Hl2 w17)) (∃v9,wl2.cell? (p1.add 1)=some (vp v9)∧Calls prog 21 #[(vp v9),(vi r4)] wl2 (fun e w18=>∃r9,e=.returned (vi r9)∧Kept Hl2 wl2 w18∧Kc2 (q6.wrap (i1+1)) Hl2 w18)))
def m_I_l2 (l1:Sl) (p1:Addr) (i1:Int) (w0:World) (Hl1:NP) (wl1:World) (Kc2:Int→NP→WP) (K:(Option Addr)→Bool→WP):Prop :=Br (decide (i1<(l1.len:Int))) (∃C1:WP,C1 wl1.drew∧∀w6,w6=wl1.drew→∃v2,(∀w',C1 w'→w'.cell? p1=some (vp v2))∧∃a1:Addr,At l1 i1 6 a1∧∃aH aI aJ aK aL aM,(∀w',C1 w'→Row w' a1 (Af aH aI aJ aK aL aM))∧Calls prog 19 #[(.agg #[(vi aH),(vi aI),(vi aJ),(vu aK),(vs aL),aM.v])] w6 (fun e w7=>∃aA aB aC aD aE aT,e=.returned (Ag aA aB aC aD aE aT)∧C1 w7∧Kept Hl1 w6 w7∧Calls prog 18 #[(vp v2),(.agg #[(vi aA),(vi aB),(vi aC),(vu aD),(vs aE),aT.v])] w7 (fun e w8=>∃r4 r5,e=.returned (.tuple #[(vi r4),(vi r5)])∧C1 w8∧Kept Hl1 w7 w8∧∃C2:WP,C2 w8.drew∧∀w9,w9=w8.drew→∃v3,(∀w',C2 w'→w'.cell? (p1.add 2)=some (vp v3))∧∃a2:Addr,At l1 i1 6 a2∧∃aN aO aP aQ aR aS,(∀w',C2 w'→Row w' a2 (Af aN aO aP aQ aR aS))∧Calls prog 20 #[(vp v3),(.agg #[(vi aN),(vi aO),(vi aP),(vu aQ),(vs aR),aS.v])] w9 (fun e w10=>∃r6 r7,e=.returned (.tuple #[(vi r6),(vi r7)])∧C2 w10∧Kept Hl1 w9 w10∧Br ((r4 != r6) || (r5 != r7)) (∀H1 w12,Hst w0 Hl1 w10 H1 w12→K none false w12) (Br (r7 != 0) (∀H1 w12,Hst w0 Hl1 w10 H1 w12→Kc2 (q6.wrap (i1+1)) H1 w12) (∀H1 w12,Hst w0 Hl1 w10 H1 w12→∃(I2:Bool→Int→NP→WP) (mu2:Bool→Int→World→Nat),I2 false 0 H1 w12∧∀(there1:Bool) (k1:Int) (Hl2:NP) (wl2:World),Hst w0 Hl2 wl2 Hl2 wl2→I2 there1 k1 Hl2 wl2→m_I_l3 p1 i1 r4 r6 there1 k1 Hl2 wl2 Kc2 (fun y'0 y'1 H' w'=>I2 y'0 y'1 H' w'∧mu2 y'0 y'1 w'<mu2 there1 k1 wl2) K)))))) (K (some p1) true wl1)
def m_I_j1 (l1:Sl) (p1:Addr) (x1:Bool) (w0:World) (H:NP) (w:World) (K:(Option Addr)→Bool→WP):Prop :=Br x1 (K none false w) (∃(I1:Int→NP→WP) (mu1:Int→World→Nat),I1 0 H w∧∀(i1:Int) (Hl1:NP) (wl1:World),Hst w0 Hl1 wl1 Hl1 wl1→I1 i1 Hl1 wl1→m_I_l2 l1 p1 i1 w0 Hl1 wl1 (fun y'0 H' w'=>I1 y'0 H' w'∧mu1 y'0 w'<mu1 i1 wl1) K)
def m_I (l1:Sl) (w0:World) (K:(Option Addr)→Bool→WP):Prop :=Calls prog 15 #[] w0 (fun e w1=>∃r1,e=.returned (vp r1)∧Kept None w0 w1∧Calls prog 16 #[] w1 (fun e w2=>∃r2,e=.returned (vp r2)∧Kept None w1 w2∧∀p1 w3,New w2 (.cells #[(vp r1),(vp none),(vp r2),Sl.nil.v] 41) p1 w3→∃v1,w3.cell? p1=some (vp v1)∧Calls prog 17 #[(vp v1)] w3 (fun e w4=>∃r3,e=.returned (vp r3)∧Kept None w3 w4∧zS w4 (p1.add 1)∧¬ None (p1.add 1).block∧∀w5,w5=w4.setCell (p1.add 1) (vp r3)→∃v10,w5.cell? p1=some (vp v10)∧Br (Option.isNone v10) (m_I_j1 l1 p1 true w0 None w5 K) (∃v11,w5.cell? (p1.add 1)=some (vp v11)∧m_I_j1 l1 p1 (Option.isNone v11) w0 None w5 K))))
theorem w_I (l1 w0 K) (h:m_I l1 w0 K):
  Calls prog 7 #[l1.v] w0 (fun e w'=>∃r10 r11,e=.returned (.tuple #[(vp r10),(vb r11)])∧K r10 r11 w'):=by
 refine cw (args:=[l1.v]) func7 ntmps7 ?_
 obtain ⟨hs,hb⟩:=st0 w0
 refine eg (qb (ln (eg (sc call15 (h.mono fun e w1 ⟨r1,k,hk,h⟩=>have ⟨hs,hb⟩:=hk.hh hs hb;⟨_,k,?_⟩)))))
 refine sc call16 (h.mono fun e w2 ⟨r2,k,hk,h⟩=>have ⟨hs,hb⟩:=hk.hh hs hb;⟨_,k,?_⟩)
 refine q (nw2 hs hb h xb fun p1 w3 hs hb h=>q (ln (eg (qd (ql (isAgg36 _) h fun v1 h=>sc call17 (h.mono fun e w4 ⟨r3,k,hk,h⟩=>have ⟨hs,hb⟩:=hk.hh hs hb;⟨_,k,?_⟩))))))
 refine qb (st2 (sizeOf37 _) hs hb h fun w5 hs hb h=>ln (jA (jA (zJ (fun ρ w=>∃x1,∃H:NP,Has ρ [(0,l1.v),(4,(vp (some p1))),(35,(vb x1))]∧Hst w0 H w H w∧HB H w []∧m_I_j1 l1 p1 x1 w0 H w K) ?_ ?_))))
 rintro ρ w ⟨x1,H,hH,hs,hb,h⟩
 refine jN hH (cbr h ?_ ?_)<;>intro h
 refine eg (qb (ln (er (zI (kB (.inl rfl) results7 (v:=(vp none)) (by kernel_rfl) (v':=(vb false)) (by kernel_rfl) ⟨none,false,rfl,h⟩)))))
 refine jC (jI (jA (eg (q (ln (jG ?_))))))
 obtain ⟨I1,mu1,h0,hr⟩:=h
 refine zH (σ:=Int×NP×World) (fun s ρ w=>w=s.2.2∧Has ρ [(0,l1.v),(4,(vp (some p1))),(5,(vi s.1))]∧Hst w0 s.2.1 w s.2.1 w∧HB s.2.1 w []∧I1 s.1 s.2.1 s.2.2) (fun s=>mu1 s.1 s.2.2) (0,H,w) ⟨rfl,hm,hs,hb,h0⟩ ?_
 rintro ⟨i1,Hl1,wl1⟩ ρ w ⟨hw,hH,hs,hb,hI⟩
 dsimp only at hw hH hs hb;subst w
 have h:=hr i1 Hl1 wl1 hs hI
 refine jN hH (jA (eg (qd (ln (cbr h ?_ ?_)))))<;>intro h
 refine jC (jI (jA (jG (jA ?_))))
 obtain ⟨C1,hC,h⟩:=h
 refine dr2 C1 [8,9] [] hC h hs hb fun w6 hs hb h=>?_
 have hs:=hs.here
 refine qx 0 (vp (some p1)) Kp0 (qx 1 (vp (some p1)) Kp1 (qx 2 (vp (some p1)) Kp2 (qg 3 ?_)))
 obtain ⟨v2,hv14,h⟩:=h
 refine sy Kp3 (fun _ k=>xl (isAgg36 _) (hv14 _ k)) (qx 4 l1.v Kp4 (qx 5 (vi i1) Kp5 (qg 6 ?_)))
 obtain ⟨a1,hv13,h⟩:=h
 refine sy Kp6 (fun _ _=>xi (runUnderlying22 _) (sizeOf47 _) hv13) (qg 7 ?_)
 obtain ⟨aH,aI,aJ,aK,aL,aM,hv12,h⟩:=h
 refine sy (v:=(Ag aH aI aJ aK aL aM)) Kp7 (fun w' hw'=>(xa a1 (Af aH aI aJ aK aL aM) (isAgg47 _) (sizeOf47 _) (hv12 w' hw'))) (lg 8 (slc Kp8 call19 (h.mono ?_)))
 rintro e w7 ⟨aA,aB,aC,aD,aE,aT,rfl,hC,hk,h⟩
 refine ⟨_,rfl,.inr hC,?_⟩
 obtain ⟨hs,hb⟩:=hk.hh hs hb
 refine lg 9 (slc Kp9 call18 (h.mono ?_))
 rintro e w8 ⟨r4,r5,rfl,hC,hk,h⟩
 refine ⟨_,rfl,.inr hC,?_⟩
 obtain ⟨hs,hb⟩:=hk.hh hs hb
 refine qx 10 (.tuple #[(vi r4),(vi r5)]) (jT (S8 (jH (jH jS)))) (qx 11 (vi r4) (jT (S8 (jH (jH (jH jS))))) (qx 12 (vi r5) (jT (S8 (S4 jS))) (qx 13 (vi r4) (jT (S8 (S4 (jH jS)))) (qx 14 (vi r5) (jT (S8 (S4 (jH (jH jS))))) (wn (jI (jA ?_)))))))
 obtain ⟨C2,hC,h⟩:=h
 refine dr2 C2 [8] [] hC h hs hb fun w9 hs hb h=>?_
 have hs:=hs.here
 refine qx 0 (vp (some p1)) Kp0 (qx 1 (vp (some p1)) Kp1 (qx 2 (vp (some (p1.add 2))) Kp2 (qg 3 ?_)))
 obtain ⟨v3,hv11,h⟩:=h
 refine sy Kp3 (fun _ k=>xl (isAgg38 _) (hv11 _ k)) (qx 4 l1.v Kp4 (qx 5 (vi i1) Kp5 (qg 6 ?_)))
 obtain ⟨a2,hv10,h⟩:=h
 refine sy Kp6 (fun _ _=>xi (runUnderlying22 _) (sizeOf47 _) hv10) (qg 7 ?_)
 obtain ⟨aN,aO,aP,aQ,aR,aS,hv9,h⟩:=h
 refine sy (v:=(Ag aN aO aP aQ aR aS)) Kp7 (fun w' hw'=>(xa a2 (Af aN aO aP aQ aR aS) (isAgg47 _) (sizeOf47 _) (hv9 w' hw'))) (lg 8 (slc Kp8 call20 (h.mono ?_)))
 rintro e w10 ⟨r6,r7,rfl,hC,hk,h⟩
 refine ⟨_,rfl,.inr hC,?_⟩
 obtain ⟨hs,hb⟩:=hk.hh hs hb
 refine qx 9 (.tuple #[(vi r6),(vi r7)]) Kp9 (qx 10 (vi r6) (jT (S8 (jH (jH jS)))) (qx 11 (vi r7) (jT (S8 (jH (jH (jH jS))))) (qx 12 (vi r6) (jT (S8 (S4 jS))) (qx 13 (vi r7) (jT (S8 (S4 (jH jS)))) (wn (jI (jA (jA (jZ (fun ρ wJ=>∃b1'0:Bool,∃HJ:NP,((r4 != r6)=b1'0)∧Hst w0 Hl1 w10 HJ wJ∧HB HJ wJ []∧Has ρ [(0,l1.v),(4,(vp (some p1))),(5,(vi i1)),(6,(vi r4)),(8,(vi r6)),(9,(vi r7)),(75,(vb (b1'0 || (r5 != r7))))]) ?_ ?_)))))))))
 refine rg (qd ?_)
 rcases bte (r4 != r6) with hg2 | hg2
 refine sj4 70 hg2 (q2 (vb true) (xT hg2) (ln ⟨true,_,hg2,hs,hb,hm⟩))
 refine qk 70 hg2 (zK (wy 70 hg2) (xc call12) ((p_F1 r5 w10).mono ?_))
 rintro e w13 ⟨he,hE⟩
 refine ⟨_,he,?_⟩
 obtain ⟨hs,hb⟩:=hs.pp hb hE
 refine qk 70 hg2 (qk 70 hg2 (q2 (vb (r5 != r7)) (xF hg2) (ln ⟨false,_,hg2,hs,hb,hm⟩)))
 rintro ρ w12 ⟨b1'0,H1,he0,hs,hb,hH⟩
 subst he0
 refine jP hH (jI (cbr h ?_ ?_))<;>intro h
 refine eg (qb (ln (er (zI (qX (zI (zI (qX (zI ?_)))))))))
 have ⟨h,hs⟩:=hs.hr (h H1 w12)
 refine kB (.inl rfl) results7 (v:=(vp none)) (by kernel_rfl) (v':=(vb false)) (by kernel_rfl) ⟨none,false,rfl,h⟩
 refine jC (jI (jA (eg (qb (ln (cbr h ?_ ?_))))))<;>intro h
 refine zB (vG (kQ (jI (rg (q0 (vi i1) (q0 (vi (q6.wrap (i1+1))) (q0 (vi (q6.wrap (i1+1))) (jB ?_))))))))
 have ⟨h,hs⟩:=hs.hr (h H1 w12)
 refine jI ⟨((q6.wrap (i1+1)),H1,w12),⟨rfl,hm,hs,hb,h.1⟩,h.2⟩
 refine jC (jI (eg (q (ln (jA (eg (q (jB (jI (jG ?_))))))))))
 have ⟨h,hs⟩:=hs.hr (h H1 w12)
 obtain ⟨I2,mu2,h0,hr⟩:=h
 refine zH (σ:=Bool×Int×NP×World) (fun s ρ w=>w=s.2.2.2∧Has ρ [(0,l1.v),(4,(vp (some p1))),(5,(vi i1)),(6,(vi r4)),(8,(vi r6)),(10,(vb s.1)),(11,(vi s.2.1))]∧Hst w0 s.2.2.1 w s.2.2.1 w∧HB s.2.2.1 w []∧I2 s.1 s.2.1 s.2.2.1 s.2.2.2) (fun s=>mu2 s.1 s.2.1 s.2.2.2) (false,0,H1,w12) ⟨rfl,hm,hs,hb,h0⟩ ?_
 rintro ⟨there1,k1,Hl2,wl2⟩ ρ w ⟨hw,hH,hs,hb,hI⟩
 dsimp only at hw hH hs hb;subst w
 have h:=hr there1 k1 Hl2 wl2 hs hI
 refine jN hH (jA (eg (qd (ql (isAgg39 _) h fun v4 h=>qb (ln (cbr h ?_ ?_))))))<;>intro h
 refine jC (jI (jA (zJ (fun ρ w=>∃there2,∃H:NP,Has ρ [(0,l1.v),(4,(vp (some p1))),(5,(vi i1)),(6,(vi r4)),(8,(vi r6)),(10,(vb there2)),(11,(vi k1))]∧Hst w0 H w H w∧HB H w []∧m_I_j4 k1 there2 H w (fun y'0 y'1 H' w'=>I2 y'0 y'1 H' w'∧mu2 y'0 y'1 w'<mu2 there1 k1 wl2) K) ?_ ?_)))
 rintro ρ w ⟨there2,H,hH,hs,hb,h⟩
 refine jN hH (rg (qc (ln ⟨(there2,(q6.wrap (k1+1)),H,w),⟨rfl,hm,hs,hb,h.1⟩,h.2⟩)))
 refine jG (rg (qb ?_))
 obtain ⟨hg3,h⟩|⟨hg3,h⟩:=h.br
 refine sj4 88 hg3 (sj5 88 hg3 (q2 (vb true) (xT hg3) (q (jB (qB (jI ⟨true,Hl2,hm,hs,hb,h⟩))))))
 refine qk 88 hg3 (qk 88 hg3 (qk 88 hg3 ?_))
 obtain ⟨v5,hv3,h⟩:=h
 refine q4 88 hg3 (xl (isAgg39 _) hv3) (qk 88 hg3 ?_)
 obtain ⟨a3,hv2,h⟩:=h
 refine q4 88 hg3 (xi (runUnderlying39 _) (sizeOf32 _) hv2) ?_
 obtain ⟨v6,hv1,h⟩:=h
 refine q4 88 hg3 (xl (isAgg32 _) hv1) (qk 88 hg3 (qk 88 hg3 (q2 (vb (v6 == r6)) (xF hg3) (q (jB (qB (jI ⟨(v6 == r6),Hl2,hm,hs,hb,h⟩)))))))
 refine zB (vG (vG (kQ (jI (jA (eg (q0 (vb there1) (q0 (vb (!there1)) (ln (cbr h ?_ ?_))))))))))<;>intro h
 refine rg (qd (ql (isAgg39 _) h fun v7 h=>q (qT (O:=(.cells #[(vi r6)] 32)) (fun p=>(Sl.mk (some p) 1 1).v) (jM rfl) (zA (vs:=#[(0,(vi r6))]) (by kernel_rfl) (by kernel_rfl)) ?_)))
 intro p2 w14 hn3
 have h:=h p2 w14 hn3
 obtain ⟨hs,hb⟩:=hs.nw hb hn3
 obtain ⟨s1,w15,hv5,hk,h⟩:=h
 refine st (v:=s1.v) (jM rfl) (zD (args:=#[v7.v,(Sl.mk (some p2) 1 1).v]) (by kernel_rfl) (fun _=>rfl) hv5) ?_
 obtain ⟨hs,hb⟩:=hk.hh hs hb
 refine qb (st2 (sizeOf39 _) hs hb h fun w16 hs hb h=>ln (rg (qc (ql (isAgg37 _) h fun v8 h=>q (sc call21 (h.mono fun e w17 ⟨r8,k,hk,h⟩=>have ⟨hs,hb⟩:=hk.hh hs hb;⟨_,k,?_⟩))))))
 refine jB (qB (jI (rg (qc (ln ⟨((q6.wrap (i1+1)),Hl2,w17),⟨rfl,hm,hs,hb,h.1⟩,h.2⟩)))))
 refine jC (jI (rg (qc (ql (isAgg37 _) h fun v9 h=>q (sc call21 (h.mono fun e w18 ⟨r9,k,hk,h⟩=>have ⟨hs,hb⟩:=hk.hh hs hb;⟨_,k,?_⟩))))))
 refine jB (qB (jI (rg (qc (ln ⟨((q6.wrap (i1+1)),Hl2,w18),⟨rfl,hm,hs,hb,h.1⟩,h.2⟩)))))
 refine zB (vG (vG (kQ (jI (eg (q0 (vp (some p1)) (q0 (vp (some p1)) (q0 (vb true) (ln (er (kB (.inl rfl) results7 (v:=(vp (some p1))) (by kernel_rfl) (v':=(vb true)) (by kernel_rfl) ⟨(some p1),true,rfl,h⟩)))))))))))
 refine rg (qc (ql (isAgg36 _) h fun v10 h=>q2 (vb (Option.isNone v10)) (vS (by kernel_rfl) rfl underlying36) (q ?_)))
 obtain ⟨hg4,h⟩|⟨hg4,h⟩:=h.br
 refine sj5 29 hg4 (q2 (vb true) (xT hg4) (ln ⟨true,None,hm,hs,hb,h⟩))
 refine qk 29 hg4 (qk 29 hg4 (qk 29 hg4 ?_))
 obtain ⟨v11,hv15,h⟩:=h
 refine q4 29 hg4 (xl (isAgg37 _) hv15) (stq (v:=(vb (Option.isNone v11))) (wy 29 hg4) (vS (by kernel_rfl) rfl underlying37) (q2 (vb (Option.isNone v11)) (xF hg4) (ln ⟨(Option.isNone v11),None,hm,hs,hb,h⟩)))
def m_K3  (w0:World) (K:Bool→WP):Prop :=∀p1 w1,New w0 (.cells #[(vi 2),(vi 0),(vi 0),(vu 1),ve,Sl.nil.v] 47) p1 w1→∀p2 w2,New w1 (.cells #[(vi 7),(vi 0),(vi 0),(vu 0),ve,(Sl.mk (some p1) 1 1).v,(vi 6),(vi 0),(vi 0),(vu 0),ve,Sl.nil.v] 47) p2 w2→Calls prog 7 #[(Sl.mk (some p2) 2 2).v] w2 (fun e w3=>∃r1 r2,e=.returned (.tuple #[(vp r1),(vb r2)])∧Kept None w2 w3∧Br (!r2) (K false w3) (∃C1:WP,C1 w3.drew∧∀w4,w4=w3.drew→∃a1,r1=some a1∧∃v1,(∀w',C1 w'→w'.cell? a1=some (vp v1))∧∃a2,r1=some a2∧∃v2,(∀w',C1 w'→w'.cell? (a2.add 1)=some (vp v2))∧∀p3 w5,New w4 (.cells #[(vi 0),(vi 0),(vi 0),(vu 0),ve,(vi 8),(vi 0),(vi 0),(vu 0),ve,(vi 5),(vi 1),(vi 0),(vu 0),ve,(vi 0),(vi 1),(vi 0),(vu 0),ve,(vi 9),(vi 2),(vi 3),(vu 0),ve] 49) p3 w5→C1 w5∧Calls prog 11 #[(vp v1),(vp v2),(Sl.mk (some p3) 5 5).v] w5 (fun e w6=>∃r3 r4 r5,e=.returned (.tuple #[(vi r3),(vi r4),(vi r5)])∧C1 w6∧Kept None w5 w6∧∃C2:WP,C2 w6.drew∧∀w7,w7=w6.drew→∃a3,r1=some a3∧∃v3,(∀w',C2 w'→w'.cell? a3=some (vp v3))∧∃a4,r1=some a4∧∃v4,(∀w',C2 w'→w'.cell? (a4.add 1)=some (vp v4))∧∀p4 w8,New w7 (.cells #[(vi 0),(vi 0),(vi 0),(vu 0),ve,(vi 6),(vi 0),(vi 0),(vu 0),ve] 49) p4 w8→C2 w8∧Calls prog 11 #[(vp v3),(vp v4),(Sl.mk (some p4) 2 2).v] w8 (fun e w9=>∃r6 r7 r8,e=.returned (.tuple #[(vi r6),(vi r7),(vi r8)])∧C2 w9∧Kept None w8 w9∧∃a5,r1=some a5∧∃v5,w9.cell? a5=some (vp v5)∧Calls prog 14 #[(vp v5),(vi r3)] w9 (fun e w10=>∃aA aB aC aD aE aF aG r9,e=.returned (.tuple #[(Ab aA aB aC aD aE aF aG),(vb r9)])∧Kept None w9 w10∧∀H6 w20,Hst w0 None w10 H6 w20→K (((((r4 == 0) && (aA == 7)) && (aB == 0)) && (r7 == 90)) && (r8 == 1)) w20)))))
theorem w_K3  (w0:World) (K:Bool→WP) (h:m_K3  w0 K) :
  Calls prog 6 #[] w0 (fun e w'=>∃r10,e=.returned (vb r10)∧K r10 w'):=by
 refine cw (args:=[]) func6 ntmps6 ?_
 obtain ⟨hs,hb⟩:=st0 w0
 refine eg (q (ln (eg (q (nw5 (fun p=>(Sl.mk (some p) 1 1).v) hs hb h fun p1 w1 hs hb h=>qb (nw5 (fun p=>(Sl.mk (some p) 2 2).v) hs hb h fun p2 w2 hs hb h=>sc call7 (h.mono fun e w3 ⟨r1,r2,k,hk,h⟩=>have ⟨hs,hb⟩:=hk.hh hs hb;⟨_,k,?_⟩)))))))
 refine q (qd (ln (jA (eg (qb (ln (cbr h ?_ ?_)))))))<;>intro h
 refine eg (q (ln (er (zI (rs1 results6 ⟨false,rfl,h⟩)))))
 refine jC (jI (jA ?_))
 obtain ⟨C1,hC,h⟩:=h
 refine dr2 C1 [13,14] [] hC h hs hb fun w4 hs hb h=>?_
 have hs:=hs.here
 refine qx 0 (vp r1) Kp0 (qg 1 ?_)
 obtain ⟨a1,hp1,h⟩:=h
 refine sy Kp1 (fun _ _=>xn hp1) (qx 2 (vp (some a1)) Kp2 (qg 3 ?_))
 obtain ⟨v1,hv5,h⟩:=h
 refine sy Kp3 (fun _ k=>xl (isAgg36 _) (hv5 _ k)) (qx 4 (vp r1) Kp4 (qg 5 ?_))
 obtain ⟨a2,hp2,h⟩:=h
 refine sy Kp5 (fun _ _=>xn hp2) (qx 6 (vp (some (a2.add 1))) Kp6 (qg 7 ?_))
 obtain ⟨v2,hv4,h⟩:=h
 refine sy Kp7 (fun _ k=>xl (isAgg37 _) (hv4 _ k)) (qx 8 (Aj 0 0 0 0) Kp8 (qx 9 (Aj 8 0 0 0) Kp9 (qx 10 (Aj 5 1 0 0) (jT (S8 (jH (jH jS)))) (qx 11 (Aj 0 1 0 0) (jT (S8 (jH (jH (jH jS))))) (qx 12 (Aj 9 2 3 0) (jT (S8 (S4 jS))) (lg 13 (qU (O:=(.cells #[(vi 0),(vi 0),(vi 0),(vu 0),ve,(vi 8),(vi 0),(vi 0),(vu 0),ve,(vi 5),(vi 1),(vi 0),(vu 0),ve,(vi 0),(vi 1),(vi 0),(vu 0),ve,(vi 9),(vi 2),(vi 3),(vu 0),ve] 49)) (fun p=>(Sl.mk (some p) 5 5).v) (jT (S8 (S4 (jH jS)))) (jM rfl) (by kernel_rfl) (zA (vs:=#[(0,(Aj 0 0 0 0)),(1,(Aj 8 0 0 0)),(2,(Aj 5 1 0 0)),(3,(Aj 0 1 0 0)),(4,(Aj 9 2 3 0))]) (by kernel_rfl) (by kernel_rfl)) ?_)))))))
 intro p3 w5 hn4
 have h:=h p3 w5 hn4
 refine ⟨.inr h.1,?_⟩
 have h:=h.2
 obtain ⟨hs,hb⟩:=hs.nw hb hn4
 refine lg 14 (slc (jT (S8 (S4 (jH (jH jS))))) call11 (h.mono ?_))
 rintro e w6 ⟨r3,r4,r5,rfl,hC,hk,h⟩
 refine ⟨_,rfl,.inr hC,?_⟩
 obtain ⟨hs,hb⟩:=hk.hh hs hb
 refine qx 15 (.tuple #[(vi r3),(vi r4),(vi r5)]) (jT (S8 (S4 (jH (jH (jH jS)))))) (qx 16 (vi r3) (jT (S8 (S8 jS))) (qx 17 (vi r4) (jT (S8 (S8 (jH jS)))) (qx 18 (vi r5) (jT (S8 (S8 (jH (jH jS))))) (qx 19 (vi r3) (jT (S8 (S8 (jH (jH (jH jS)))))) (qx 20 (vi r4) (jT (S8 (S8 (S4 jS)))) (qx 21 (vi r5) (jT (S8 (S8 (S4 (jH jS))))) (wn (jI (jA ?_)))))))))
 obtain ⟨C2,hC,h⟩:=h
 refine dr2 C2 [10,11] [] hC h hs hb fun w7 hs hb h=>?_
 have hs:=hs.here
 refine qx 0 (vp r1) Kp0 (qg 1 ?_)
 obtain ⟨a3,hp3,h⟩:=h
 refine sy Kp1 (fun _ _=>xn hp3) (qx 2 (vp (some a3)) Kp2 (qg 3 ?_))
 obtain ⟨v3,hv3,h⟩:=h
 refine sy Kp3 (fun _ k=>xl (isAgg36 _) (hv3 _ k)) (qx 4 (vp r1) Kp4 (qg 5 ?_))
 obtain ⟨a4,hp4,h⟩:=h
 refine sy Kp5 (fun _ _=>xn hp4) (qx 6 (vp (some (a4.add 1))) Kp6 (qg 7 ?_))
 obtain ⟨v4,hv2,h⟩:=h
 refine sy Kp7 (fun _ k=>xl (isAgg37 _) (hv2 _ k)) (qx 8 (Aj 0 0 0 0) Kp8 (qx 9 (Aj 6 0 0 0) Kp9 (lg 10 (qU (O:=(.cells #[(vi 0),(vi 0),(vi 0),(vu 0),ve,(vi 6),(vi 0),(vi 0),(vu 0),ve] 49)) (fun p=>(Sl.mk (some p) 2 2).v) (jT (S8 (jH (jH jS)))) (jM rfl) (by kernel_rfl) (zA (vs:=#[(0,(Aj 0 0 0 0)),(1,(Aj 6 0 0 0))]) (by kernel_rfl) (by kernel_rfl)) ?_))))
 intro p4 w8 hn3
 have h:=h p4 w8 hn3
 refine ⟨.inr h.1,?_⟩
 have h:=h.2
 obtain ⟨hs,hb⟩:=hs.nw hb hn3
 refine lg 11 (slc (jT (S8 (jH (jH (jH jS))))) call11 (h.mono ?_))
 rintro e w9 ⟨r6,r7,r8,rfl,hC,hk,h⟩
 refine ⟨_,rfl,.inr hC,?_⟩
 obtain ⟨hs,hb⟩:=hk.hh hs hb
 refine qx 12 (.tuple #[(vi r6),(vi r7),(vi r8)]) (jT (S8 (S4 jS))) (qx 13 (vi r6) (jT (S8 (S4 (jH jS)))) (qx 14 (vi r7) (jT (S8 (S4 (jH (jH jS))))) (qx 15 (vi r8) (jT (S8 (S4 (jH (jH (jH jS)))))) (qx 16 (vi r6) (jT (S8 (S8 jS))) (qx 17 (vi r7) (jT (S8 (S8 (jH jS)))) (qx 18 (vi r8) (jT (S8 (S8 (jH (jH jS))))) (wn (jI (eg (q (qm h fun a5 h=>q (ql (isAgg36 _) h fun v5 h=>q (sc call14 (h.mono fun e w10 ⟨aA,aB,aC,aD,aE,aF,aG,r9,k,hk,h⟩=>have ⟨hs,hb⟩:=hk.hh hs hb;⟨_,k,?_⟩))))))))))))))
 refine qc (nw3 (Ak 0 0 0 0 0 0) 51 hs hb (jX (zeroValue51 _) rfl) fun p5 w11 H1 hs hb=>sbx 0 (Aa aA aB aC aD aE aF aG) (sizeOf51 _) hs hb gZ fun w12 hs hb=>q (ln (jA (jZ (fun ρ wJ=>∃HJ:NP,Hst w0 None w10 HJ wJ∧HB HJ wJ [(p5,(Aa aA aB aC aD aE aF aG),51)]∧Has ρ [(0,(vb (((((r4 == 0) && (aA == 7)) && (aB == 0)) && (r7 == 90)) && (r8 == 1))))]) ?_ ?_))))
 refine rg (q (sc call12 ((p_F1 r4 w12).mono ?_)))
 rintro e w21 ⟨he,hE⟩
 refine ⟨_,he,?_⟩
 obtain ⟨hs,hb⟩:=hs.pp hb hE
 refine qb (jE 4 (fun ρ wJ=>∃b6'0:Bool,∃HJ:NP,((r4 == 0)=b6'0)∧Hst w0 None w10 HJ wJ∧HB HJ wJ [(p5,(Aa aA aB aC aD aE aF aG),51)]∧Has ρ [(7,(vi r7)),(8,(vi r8)),(9,(vp (some p5))),(73,(vb (b6'0 && (aA == 7))))]) ?_ ?_)
 rintro ρ w22 ⟨b6'0,H7,he0,hs,hb,hH⟩
 subst he0
 refine jJ hH (q (jE 4 (fun ρ wJ=>∃b7'0:Bool,∃HJ:NP,(((r4 == 0) && (aA == 7))=b7'0)∧Hst w0 None w10 HJ wJ∧HB HJ wJ [(p5,(Aa aA aB aC aD aE aF aG),51)]∧Has ρ [(7,(vi r7)),(8,(vi r8)),(78,(vb (b7'0 && (aB == 0))))]) ?_ ?_))
 rintro ρ w23 ⟨b7'0,H8,he0,hs,hb,hH⟩
 subst he0
 refine jJ hH (q (jE 4 (fun ρ wJ=>∃b8'0:Bool,∃HJ:NP,((((r4 == 0) && (aA == 7)) && (aB == 0))=b8'0)∧Hst w0 None w10 HJ wJ∧HB HJ wJ [(p5,(Aa aA aB aC aD aE aF aG),51)]∧Has ρ [(8,(vi r8)),(83,(vb (b8'0 && (r7 == 90))))]) ?_ ?_))
 rintro ρ w25 ⟨b8'0,H9,he0,hs,hb,hH⟩
 subst he0
 refine jJ hH (q (jE 3 (fun ρ wJ=>∃b9'0:Bool,∃HJ:NP,(((((r4 == 0) && (aA == 7)) && (aB == 0)) && (r7 == 90))=b9'0)∧Hst w0 None w10 HJ wJ∧HB HJ wJ [(p5,(Aa aA aB aC aD aE aF aG),51)]∧Has ρ [(87,(vb (b9'0 && (r8 == 1))))]) ?_ ?_))
 rintro ρ w27 ⟨b9'0,H10,he0,hs,hb,hH⟩
 subst he0
 refine jJ hH (q (ln ⟨_,hs,hb,hm⟩))
 rcases bte ((((r4 == 0) && (aA == 7)) && (aB == 0)) && (r7 == 90)) with hg16 | hg16
 refine qk 84 hg16 (qk 84 hg16 (q2 (vb (r8 == 1)) (xT hg16) (jB ⟨true,_,hg16,hs,hb,hm⟩)))
 refine sj2 84 hg16 (q2 (vb false) (xF hg16) (jB ⟨false,_,hg16,hs,hb,hm⟩))
 rcases bte (((r4 == 0) && (aA == 7)) && (aB == 0)) with hg14 | hg14
 refine qk 79 hg14 (zK (wy 79 hg14) (xc call12) ((p_F1 r7 w23).mono ?_))
 rintro e w26 ⟨he,hE⟩
 refine ⟨_,he,?_⟩
 obtain ⟨hs,hb⟩:=hs.pp hb hE
 refine qk 79 hg14 (q2 (vb (r7 == 90)) (xT hg14) (jB ⟨true,_,hg14,hs,hb,hm⟩))
 refine sj3 79 hg14 (q2 (vb false) (xF hg14) (jB ⟨false,_,hg14,hs,hb,hm⟩))
 rcases bte ((r4 == 0) && (aA == 7)) with hg12 | hg12
 refine qk 74 hg12 (q4 74 hg12 (xl (isAgg3 _) (hb.d 0 1 gZ)) (qk 74 hg12 (q2 (vb (aB == 0)) (xT hg12) (jB ⟨true,_,hg12,hs,hb,hm⟩))))
 refine sj3 74 hg12 (q2 (vb false) (xF hg12) (jB ⟨false,_,hg12,hs,hb,hm⟩))
 rcases bte (r4 == 0) with hg10 | hg10
 refine qk 69 hg10 (q4 69 hg10 (xl (isAgg3 _) (hb.d0 0 gZ)) (qk 69 hg10 (q2 (vb (aA == 7)) (xT hg10) (jB ⟨true,_,hg10,hs,hb,hm⟩))))
 refine sj3 69 hg10 (q2 (vb false) (xF hg10) (jB ⟨false,_,hg10,hs,hb,hm⟩))
 rintro ρ w20 ⟨H6,hs,hb,hH⟩
 refine jP hH (jI (er ?_))
 have ⟨h,hs⟩:=hs.hr (h H6 w20)
 refine rs1 results6 ⟨(((((r4 == 0) && (aA == 7)) && (aB == 0)) && (r7 == 90)) && (r8 == 1)),rfl,h⟩
def m_M_j2 (r2:Option Addr) (s1 r4:Sl) (x2:Bool) (w0:World) (H:NP) (w:World) (K:Bool→WP):Prop :=Br x2 (K false w) (∃C1:WP,C1 w.drew∧∀w6,w6=w.drew→∃a1,r2=some a1∧∃v1,(∀w',C1 w'→w'.cell? a1=some (vp v1))∧∃a2,r2=some a2∧∃v2,(∀w',C1 w'→w'.cell? (a2.add 1)=some (vp v2))∧Calls prog 11 #[(vp v1),(vp v2),s1.v] w6 (fun e w7=>∃r5 r6 r7,e=.returned (.tuple #[(vi r5),(vi r6),(vi r7)])∧C1 w7∧Kept H w6 w7∧∃C2:WP,C2 w7.drew∧∀w8,w8=w7.drew→∃a3,r2=some a3∧∃v3,(∀w',C2 w'→w'.cell? a3=some (vp v3))∧∃a4,r2=some a4∧∃v4,(∀w',C2 w'→w'.cell? (a4.add 1)=some (vp v4))∧Calls prog 11 #[(vp v3),(vp v4),r4.v] w8 (fun e w9=>∃r8 r9 r10,e=.returned (.tuple #[(vi r8),(vi r9),(vi r10)])∧C2 w9∧Kept H w8 w9∧Br ((r6 != 0) || ((r9 == 0) && (r5 == r8))) (∀H2 w13,Hst w0 H w9 H2 w13→Calls prog 6 #[] w13 (fun e w16=>∃r11,e=.returned (vb r11)∧Kept H2 w13 w16∧K r11 w16)) (∀H2 w13,Hst w0 H w9 H2 w13→K false w13))))
def m_M_j1 (l1 ops1:Sl) (x1:Bool) (w0:World) (H:NP) (w:World) (K:Bool→WP):Prop :=Br x1 (Calls prog 6 #[] w (fun e w1=>∃r1,e=.returned (vb r1)∧Kept H w w1∧K r1 w1)) (Calls prog 7 #[l1.v] w (fun e w2=>∃r2 r3,e=.returned (.tuple #[(vp r2),(vb r3)])∧Kept H w w2∧Br (!r3) (K false w2) (∀p1 w3,New w2 (.cells #[] 49) p1 w3→∃s1:Sl,∃w4:World,(Builtin.append_ #[23,23] 23 #[(Sl.mk (some p1) 0 0).v,ops1.v]).run prog w3=.ok s1.v w4∧Kept H w3 w4∧Calls prog 8 #[s1.v] w4 (fun e w5=>∃r4:Sl,e=.returned r4.v∧Kept H w4 w5∧Calls prog 10 #[ops1.v] w5 (fun e w17=>∃r12:Sl,e=.returned r12.v∧Kept H w5 w17∧Calls prog 9 #[r4.v,r12.v] w17 (fun e w18=>∃r13,e=.returned (vb r13)∧Kept H w17 w18∧Br (!r13) (m_M_j2 r2 s1 r4 true w0 H w18 K) (Calls prog 9 #[s1.v,ops1.v] w18 (fun e w19=>∃r14,e=.returned (vb r14)∧Kept H w18 w19∧m_M_j2 r2 s1 r4 (!r14) w0 H w19 K))))))))
def m_M (l1 ops1:Sl) (w0:World) (K:Bool→WP):Prop :=Calls prog 4 #[l1.v] w0 (fun e w20=>∃r15,e=.returned (vb r15)∧Kept None w0 w20∧Br r15 (m_M_j1 l1 ops1 true w0 None w20 K) (Calls prog 5 #[ops1.v] w20 (fun e w21=>∃r16,e=.returned (vb r16)∧Kept None w20 w21∧m_M_j1 l1 ops1 r16 w0 None w21 K)))
theorem w_M (l1 ops1 w0 K) (h:m_M l1 ops1 w0 K):
  Calls prog 3 #[l1.v,ops1.v] w0 (fun e w'=>∃r17,e=.returned (vb r17)∧K r17 w'):=by
 refine cw (args:=[l1.v,ops1.v]) func3 ntmps3 ?_
 obtain ⟨hs,hb⟩:=st0 w0
 refine eg (q (ln (jA (jA (zJ (fun ρ w=>∃x1,∃H:NP,Has ρ [(0,l1.v),(1,ops1.v),(20,(vb x1))]∧Hst w0 H w H w∧HB H w []∧m_M_j1 l1 ops1 x1 w0 H w K) ?_ ?_)))))
 rintro ρ w ⟨x1,H,hH,hs,hb,h⟩
 refine jN hH (cbr h ?_ ?_)<;>intro h
 refine eg (sc call6 (h.mono fun e w1 ⟨r1,k,hk,h⟩=>have ⟨hs,hb⟩:=hk.hh hs hb;⟨_,k,?_⟩))
 refine q (ln (er (zI (rs1 results3 ⟨r1,rfl,h⟩))))
 refine jC (jI (eg (q (sc call7 (h.mono fun e w2 ⟨r2,r3,k,hk,h⟩=>have ⟨hs,hb⟩:=hk.hh hs hb;⟨_,k,?_⟩)))))
 refine q (qd (ln (jA (eg (qb (ln (cbr h ?_ ?_)))))))<;>intro h
 refine eg (q (ln (er (zI (rs1 results3 ⟨false,rfl,h⟩)))))
 refine jC (jI (eg (nw5 (fun p=>(Sl.mk (some p) 0 0).v) hs hb h fun p1 w3 hs hb h=>q ?_)))
 obtain ⟨s1,w4,hv5,hk,h⟩:=h
 refine st (v:=s1.v) (jM rfl) (zD (args:=#[(Sl.mk (some p1) 0 0).v,ops1.v]) (by kernel_rfl) (fun _=>rfl) hv5) ?_
 obtain ⟨hs,hb⟩:=hk.hh hs hb
 refine q (ln (eg (q (sc call8 (h.mono fun e w5 ⟨r4,k,hk,h⟩=>have ⟨hs,hb⟩:=hk.hh hs hb;⟨_,k,?_⟩)))))
 refine q (ln (jA (jA (zJ (fun ρ w=>∃x2,∃H:NP,Has ρ [(5,(vp r2)),(7,s1.v),(8,r4.v),(44,(vb x2))]∧Hst w0 H w H w∧HB H w []∧m_M_j2 r2 s1 r4 x2 w0 H w K) ?_ ?_))))
 rintro ρ w ⟨x2,H,hH,hs,hb,h⟩
 refine jN hH (cbr h ?_ ?_)<;>intro h
 refine eg (q (ln (er (zI (rs1 results3 ⟨false,rfl,h⟩)))))
 refine jC (jI (jA ?_))
 obtain ⟨C1,hC,h⟩:=h
 refine dr2 C1 [9] [] hC h hs hb fun w6 hs hb h=>?_
 have hs:=hs.here
 refine qx 0 (vp r2) Kp0 (qg 1 ?_)
 obtain ⟨a1,hp1,h⟩:=h
 refine sy Kp1 (fun _ _=>xn hp1) (qx 2 (vp (some a1)) Kp2 (qg 3 ?_))
 obtain ⟨v1,hv4,h⟩:=h
 refine sy Kp3 (fun _ k=>xl (isAgg36 _) (hv4 _ k)) (qx 4 (vp r2) Kp4 (qg 5 ?_))
 obtain ⟨a2,hp2,h⟩:=h
 refine sy Kp5 (fun _ _=>xn hp2) (qx 6 (vp (some (a2.add 1))) Kp6 (qg 7 ?_))
 obtain ⟨v2,hv3,h⟩:=h
 refine sy Kp7 (fun _ k=>xl (isAgg37 _) (hv3 _ k)) (qx 8 s1.v Kp8 (lg 9 (slc Kp9 call11 (h.mono ?_))))
 rintro e w7 ⟨r5,r6,r7,rfl,hC,hk,h⟩
 refine ⟨_,rfl,.inr hC,?_⟩
 obtain ⟨hs,hb⟩:=hk.hh hs hb
 refine qx 10 (.tuple #[(vi r5),(vi r6),(vi r7)]) (jT (S8 (jH (jH jS)))) (qx 11 (vi r5) (jT (S8 (jH (jH (jH jS))))) (qx 12 (vi r6) (jT (S8 (S4 jS))) (qx 13 (vi r7) (jT (S8 (S4 (jH jS)))) (qx 14 (vi r5) (jT (S8 (S4 (jH (jH jS))))) (qx 15 (vi r6) (jT (S8 (S4 (jH (jH (jH jS)))))) (qx 16 (vi r7) (jT (S8 (S8 jS))) (wn (jI (jA ?_)))))))))
 obtain ⟨C2,hC,h⟩:=h
 refine dr2 C2 [9] [] hC h hs hb fun w8 hs hb h=>?_
 have hs:=hs.here
 refine qx 0 (vp r2) Kp0 (qg 1 ?_)
 obtain ⟨a3,hp3,h⟩:=h
 refine sy Kp1 (fun _ _=>xn hp3) (qx 2 (vp (some a3)) Kp2 (qg 3 ?_))
 obtain ⟨v3,hv2,h⟩:=h
 refine sy Kp3 (fun _ k=>xl (isAgg36 _) (hv2 _ k)) (qx 4 (vp r2) Kp4 (qg 5 ?_))
 obtain ⟨a4,hp4,h⟩:=h
 refine sy Kp5 (fun _ _=>xn hp4) (qx 6 (vp (some (a4.add 1))) Kp6 (qg 7 ?_))
 obtain ⟨v4,hv1,h⟩:=h
 refine sy Kp7 (fun _ k=>xl (isAgg37 _) (hv1 _ k)) (qx 8 r4.v Kp8 (lg 9 (slc Kp9 call11 (h.mono ?_))))
 rintro e w9 ⟨r8,r9,r10,rfl,hC,hk,h⟩
 refine ⟨_,rfl,.inr hC,?_⟩
 obtain ⟨hs,hb⟩:=hk.hh hs hb
 refine qx 10 (.tuple #[(vi r8),(vi r9),(vi r10)]) (jT (S8 (jH (jH jS)))) (qx 11 (vi r8) (jT (S8 (jH (jH (jH jS))))) (qx 12 (vi r9) (jT (S8 (S4 jS))) (qx 13 (vi r10) (jT (S8 (S4 (jH jS)))) (qx 14 (vi r8) (jT (S8 (S4 (jH (jH jS))))) (qx 15 (vi r9) (jT (S8 (S4 (jH (jH (jH jS)))))) (qx 16 (vi r10) (jT (S8 (S8 jS))) (wn (jI (eg (q (sc call12 ((p_F1 r6 w9).mono ?_))))))))))))
 rintro e w10 ⟨he,hE⟩
 refine ⟨_,he,?_⟩
 obtain ⟨hs,hb⟩:=hs.pp hb hE
 refine qb (jE 9 (fun ρ wJ=>∃b2'0:Bool,∃HJ:NP,((r6 != 0)=b2'0)∧Hst w0 H w9 HJ wJ∧HB HJ wJ []∧Has ρ [(85,(vb (b2'0 || ((r9 == 0) && (r5 == r8)))))]) ?_ ?_)
 rintro ρ w13 ⟨b2'0,H2,he0,hs,hb,hH⟩
 subst he0
 refine jJ hH (q ?_)
 obtain ⟨hg7,h⟩|⟨hg7,h⟩:=h.br
 have ⟨h,hs⟩:=hs.hr (h H2 w13)
 refine zK (wy 86 hg7) (xc call6) (h.mono ?_)
 rintro e w16 ⟨r11,rfl,hk,h⟩
 refine ⟨_,rfl,?_⟩
 obtain ⟨hs,hb⟩:=hk.hh hs hb
 refine q2 (vb r11) (xT hg7) (q (ln (er (rs1 results3 ⟨r11,rfl,h⟩))))
 refine sj 86 hg7 (q2 (vb false) (xF hg7) (q (ln (er ?_))))
 have ⟨h,hs⟩:=hs.hr (h H2 w13)
 refine rs1 results3 ⟨false,rfl,h⟩
 rcases bte (r6 != 0) with hg4 | hg4
 refine sj4 76 hg4 (sm (sm (sm (sj 76 hg4 (q2 (vb true) (xT hg4) (jB ⟨true,_,hg4,hs,hb,hm⟩))))))
 refine qk 76 hg4 (zK (wy 76 hg4) (xc call12) ((p_F1 r9 w10).mono ?_))
 rintro e w14 ⟨he,hE⟩
 refine ⟨_,he,?_⟩
 obtain ⟨hs,hb⟩:=hs.pp hb hE
 refine qk 76 hg4 (qk 76 hg4 (jE 4 (fun ρ wJ=>∃b3'0:Bool,∃HJ:NP,((r9 == 0)=b3'0)∧Hst w0 H w9 HJ wJ∧HB HJ wJ []∧Has ρ [(76,(vb (r6 != 0))),(84,(vb (b3'0 && (r5 == r8))))]) ?_ ?_))
 rintro ρ w15 ⟨b3'0,H3,he0,hs,hb,hH⟩
 subst he0
 refine jJ hH (q2 (vb ((r9 == 0) && (r5 == r8))) (xF hg4) (jB ⟨false,_,hg4,hs,hb,hm⟩))
 rcases bte (r9 == 0) with hg6 | hg6
 refine qk 80 hg6 (qk 80 hg6 (qk 80 hg6 (stq (v:=(vb (r5 == r8))) (wy 76 hg4) (xT hg6) (jB ⟨true,_,hg6,hs,hb,hm⟩))))
 refine sj3 80 hg6 (stq (v:=(vb false)) (wy 76 hg4) (xF hg6) (jB ⟨false,_,hg6,hs,hb,hm⟩))
 refine rg (qb (sc call10 (h.mono fun e w17 ⟨r12,k,hk,h⟩=>have ⟨hs,hb⟩:=hk.hh hs hb;⟨_,k,?_⟩)))
 refine sc call9 (h.mono fun e w18 ⟨r13,k,hk,h⟩=>have ⟨hs,hb⟩:=hk.hh hs hb;⟨_,k,?_⟩)
 refine qb ?_
 obtain ⟨hg8,h⟩|⟨hg8,h⟩:=h.br
 refine sj4 39 hg8 (q2 (vb true) (xT hg8) (ln ⟨true,H,hm,hs,hb,h⟩))
 refine qk 39 hg8 (qk 39 hg8 (zK (wy 39 hg8) (xc call9) (h.mono ?_)))
 rintro e w19 ⟨r14,rfl,hk,h⟩
 refine ⟨_,rfl,?_⟩
 obtain ⟨hs,hb⟩:=hk.hh hs hb
 refine qk 39 hg8 (q2 (vb (!r14)) (xF hg8) (ln ⟨(!r14),H,hm,hs,hb,h⟩))
 refine rg (q (sc call4 (h.mono fun e w20 ⟨r15,k,hk,h⟩=>have ⟨hs,hb⟩:=hk.hh hs hb;⟨_,k,?_⟩)))
 refine q ?_
 obtain ⟨hg9,h⟩|⟨hg9,h⟩:=h.br
 refine sj2 17 hg9 (q2 (vb true) (xT hg9) (ln ⟨true,None,hm,hs,hb,h⟩))
 refine qk 17 hg9 (zK (wy 17 hg9) (xc call5) (h.mono ?_))
 rintro e w21 ⟨r16,rfl,hk,h⟩
 refine ⟨_,rfl,?_⟩
 obtain ⟨hs,hb⟩:=hk.hh hs hb
 refine q2 (vb r16) (xF hg9) (ln ⟨r16,None,hm,hs,hb,h⟩)
end Go.Proofs
end
section
open Go Go.SE
namespace Go.Sp
theorem KnowOk.nil (L:Pool):KnowOk L [] []:=⟨⟨by simp [jU],by simp [jU],fun i hi=>by simp at hi⟩,by simp [jU],by simp,by simp⟩
end Go.Sp
end
