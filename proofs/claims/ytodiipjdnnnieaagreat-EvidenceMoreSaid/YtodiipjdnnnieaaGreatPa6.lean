import Derived.Test.YtodiipjdnnnieaaGreatPa5
import Derived.Test.YtodiipjdnnnieaaGreatPa0
import Derived.Test.YtodiipjdnnnieaaGreatPa4
import Derived.Test.YtodiipjdnnnieaaGreatProg
import Derived.KernelRfl
import Derived.Test.YtodiipjdnnnieaaGreatPa3
section
open Go Go.SE
namespace Go.Proofs
attribute [local irreducible] Calls
theorem IterC.at' {P:Program} {gf:FuncId} {lb:Array Value} {α:Type} {encs:α→Array Value} {xs:List α} {Rd:WP} {w w1:World} (h:IterC P gf lb encs xs Rd w) (E:Pure w w1):IterC P gf lb encs xs Rd w1 :=
 fun l J Jx W hW=>h l J Jx W (E.trans hW)
theorem it_Values {S : NP} {pc : Addr} {s : Sl} {xs : List Int} {w0 : World} (hB : Box w0 pc [s.v] 46) (hn : xs.length ≤ 1000000) :
  IterC Tryz.prog 208 #[.pointer (some pc)] (fun z:Int=>#[.int .i64 z]) xs (fun A=>Lst S A 1 s (tmr xs)) w0:=by
 intro l J Jx W E hRd hJ hJx hyield h0
 refine (w_O1 (.func (.yield l) #[] #[]) pc W (fun A=>∃X,Hst W X A X A∧(J xs X A∨∃pre,Jx pre X A)) ?_).mono (fun e A h=>⟨⟨_,h.1⟩,h.2⟩)
 unfold m_O1
 refine ⟨s,(hB.pure E).cell0,fun x A=>∃j:Nat,x=j∧j≤xs.length∧Hst W None A None A∧J (xs.take j) None A,fun x _=>((xs.length:Int) - x).toNat,⟨0,rfl,Nat.zero_le _,Hst.start W,h0⟩,?_⟩
 rintro _ A ⟨j,rfl,hj,hA,hJA⟩
 unfold m_O1_l1
 have hR:=hRd _ _ _ hJA
 have hlen:s.len=xs.length:=by rw [hR.len,tmr_len]
 refine ⟨fun hc=>?_,fun hc=>?_⟩
 ·have hc:=lt_of_dec hlen hc
  obtain ⟨a,hat,_,hv⟩:=tm_nth hR hc
  refine ⟨a,hat,_,hv,l,rfl,?_⟩
  refine (hyield (xs.take j) xs[j] _ A hJA hA ⟨xs.drop (j+1),by rw [← List.drop_eq_getElem_cons hc,List.take_append_drop]⟩).mono ?_
  rintro e A' (⟨rfl,hk,hJ'⟩ | ⟨rfl,hk,hJ'⟩)
  ·refine ⟨_,rfl,Br.f rfl ⟨⟨j+1,wrap_succ hc (by omega),hc,hA.again hk,by rw [List.take_succ_eq_append_getElem hc];exact hJ'⟩,?_⟩⟩
   rw [wrap_succ hc (by omega)]
   exact lt_dec hc
  ·exact ⟨_,rfl,Br.t rfl ⟨_,hA.again hk,.inr ⟨_,hJ'⟩⟩⟩
 ·have hc:=eq_of_dec hlen hj hc
  subst hc
  rw [List.take_length] at hJA
  exact ⟨_,hA,.inl hJA⟩
theorem c_AppendSeq {S : NP} {pc : Addr} {s : Sl} {xs : List Int} (w0 : World) (hB : Box w0 pc [s.v] 46) (hL : Lst S w0 1 s (tmr xs)) (hS : ∀ b, S b → b < w0.heap.size) (hn : xs.length ≤ 1000000) :
  Calls Tryz.prog 283 #[Sl.nil.v,.func (.func 208) #[] #[.pointer (some pc)]] w0 (fun e w'=>∃r:Sl,e=.returned r.v∧RetO w0 78 1 (tmr xs) r w'):=by
 refine w_C3 _ _ w0 (fun r w'=>RetO w0 78 1 (tmr xs) r w') ?_
 unfold m_C3
 have hnil:∀b,¬ Sl.nil.blk b:=fun b hb=>by obtain ⟨a,h,_⟩:=hb;cases h
 intro p1 w1 h1
 have E1:Pure w0 w1:=Ext.new h1
 have s1:=h1.at_size
 have B1:=Box.of_new h1
 have l1:=B1.lt
 refine ⟨_,_,rfl,Tryz.call208,xs,_,IterC.at' (it_Values (S:=S) hB hn) E1,?_⟩
 refine ⟨fun pre Y A=>∃so:Sl,Box A p1 [so.v] 46∧Rws A 78 1 so (tmr pre)∧Lst S A 1 s (tmr xs)∧Pure w0 A∧(∀b,so.blk b→w1.heap.size≤b∧¬ Y b)∧¬ Y p1.block∧w1.heap.size≤A.heap.size,⟨?_,?_,fun _ _ _ _ _ h=>h.elim,fun _ _ _ _ _ h=>h.elim⟩,?_,?_,?_⟩
 ·rintro pre Y A ⟨so,_,_,h,_⟩;exact h
 ·rintro pre Y A Y' A' ⟨so,b1,hR,hl,hE,ho,hp,hz⟩ hs
  have d1:¬ Y' p1.block:=hs.disj (G:=(·=p1.block)) (fun b e=>by subst e;exact ⟨b1.lt,hp⟩) _ rfl
  have d2:∀b,so.blk b→¬ Y' b:=hs.disj (G:=so.blk) (fun b hb=>⟨hR.lt hb,(ho b hb).2⟩)
  exact ⟨so,b1.ext hs.ext d1,hR.ext hs.ext d2,hl.hst hs hS,hE.hst hs,fun b hb=>⟨(ho b hb).1,d2 b hb⟩,d1,Nat.le_trans hz hs.ext.size⟩
 ·exact ⟨Sl.nil,B1,Rws.nil _ _ _,hL.pure E1,E1,fun b hb=>(hnil b hb).elim,id,Nat.le_refl _⟩
 ·rintro pre z Y A ⟨so,b1,hR,hl,hE,ho,hp,hz⟩ hsA ⟨post,hpost⟩
  have hpl:pre.length<xs.length:=by rw [hpost];simp
  refine ⟨so,b1.cell0,?_⟩
  intro p2 w2 h2
  have E2:Pure A w2:=Ext.new h2
  obtain ⟨s2,w3,hr3,R3,X3,f3⟩:=(hR.pure E2).append (P:=Tryz.prog) (ty:=46) (c:=1) slT_tm (r:=[.int .i64 z]) (Box.of_new h2).row rfl rfl (by rw [tmr_len];omega) (by rw [tmr_len];simp [maxLen];omega)
  have d1:¬ so.blk p1.block:=fun hb=>by have:=(ho _ hb).1;omega
  have b3:=(b1.pure E2).ext X3 d1
  have z2:=E2.size;have z3:=X3.size
  have hk3:Kept None w2 w3:=X3.kept (fun b hb=>hb.elim)
  refine ⟨s2,w3,hr3,hk3,b3.canW0 (by simp),id,fun w4 h4=>?_⟩
  have E4:Ext (·=p1.block) w3 w4:=by rw [h4];exact Ext.setCell p1 _
  have b4:Box w4 p1 [s2.v] 46:=by rw [h4];exact b3.set0
  have o2:∀b,s2.blk b→w1.heap.size≤b:=fun b hb=>(f3 b hb).elim (fun h=>(ho b h).1) (fun h=>by omega)
  have hYlt:=hsA.lt
  have XX:Ext (fun b=>so.blk b∨b=p1.block) A w4:=((E2.pure).trans (X3.mono (fun b _ h=>.inl h))).trans (E4.mono (fun b _ h=>.inr h))
  refine ⟨XX.kept (fun b hY hb=>hb.elim (fun h=>(ho b h).2 hY) (fun h=>hp (h▸hY))),s2,b4,?_,?_,?_,fun b hb=>⟨o2 b hb,fun hY=>(f3 b hb).elim (fun h=>(ho b h).2 hY) (fun h=>by have:=hYlt b hY;omega)⟩,hp,by have:=E4.size;omega⟩
  ·rw [show tmr (pre++[z])=tmr pre++[[.int .i64 z]] by simp [tmr]]
   exact R3.ext E4 (fun b hb e=>by have:=o2 b hb;omega)
  ·exact hl.ext XX (fun b hb h=>by have:=hS b hb;rcases h with h | h;(· have:=(ho b h).1;have:=E1.size;omega);(· omega))
  ·exact hE.trans' XX (fun i hi hb=>by rcases hb with h | h;(· have:=(ho i h).1;have:=E1.size;omega);(· omega))
 ·rintro H1 w5 hs5 _ _ ⟨so,b1,hR,hl,hE,ho,hp,hz⟩
  refine ⟨so,b1.cell0,fun w6 hs6=>⟨hR.ext hs6.ext (hs6.disj (G:=so.blk) (fun b hb=>⟨hR.lt hb,(ho b hb).2⟩)),fun b hb=>by have:=(ho b hb).1;have:=E1.size;omega,hE.hst hs6⟩⟩
theorem c_SortedV {S : NP} {pc : Addr} {s : Sl} {xs : List Int} (w0 : World) (hB : Box w0 pc [s.v] 46) (hL : Lst S w0 1 s (tmr xs)) (hS : ∀ b, S b → b < w0.heap.size) (hn : xs.length ≤ 1000000) :
  Calls Tryz.prog 152 #[.func (.func 208) #[] #[.pointer (some pc)]] w0 (fun e w'=>∃r:Sl,e=.returned r.v∧∃l,RetO w0 78 1 (tmr l) r w'∧l.Perm xs∧l.Pairwise (·≤·)):=by
 refine w_A3 _ w0 (fun r w'=>∃l,RetO w0 78 1 (tmr l) r w'∧l.Perm xs∧l.Pairwise (·≤·)) ?_
 unfold m_A3
 refine (w_Z2 _ w0 (fun r w'=>RetO w0 78 1 (tmr xs) r w') ?_).mono ?_
 ·unfold m_Z2
  refine (c_AppendSeq w0 hB hL hS hn).mono ?_
  rintro _ w1 ⟨r,rfl,hr⟩
  exact ⟨r,rfl,hr⟩
 ·rintro _ w1 ⟨r,rfl,hr⟩
  refine ⟨r,rfl,?_⟩
  refine (c_Sort r xs w1 hr.rows hn).mono ?_
  rintro _ w2 ⟨rfl,l,hl,hx,hp,hs⟩
  exact ⟨rfl,l,⟨hl,hr.own,hr.pure.trans' hx (fun i hi hb=>by have:=hr.own i hb;omega)⟩,hp,hs⟩
theorem c_ded_Seen (k p : Addr) (w0 : World) {G : List Int} {W : List Sp.Way} {F : NP} (h : KnowAt w0 k p G W F) (hn : (Sp.wkeys W).length ≤ 1000000) :
  Calls Tryz.prog 80 #[.pointer (some k)] w0 (fun e w'=>∃r:Sl,e=.returned r.v∧∃l,RetO w0 78 1 (tmr l) r w'∧l.Perm (Sp.wkeys W)∧l.Pairwise (·≤·)):=by
 refine w_E3 _ w0 (fun r w'=>∃l,RetO w0 78 1 (tmr l) r w'∧l.Perm (Sp.wkeys W)∧l.Pairwise (·≤·)) ?_
 unfold m_E3
 obtain ⟨sg,m,sl,h,hF⟩:=h
 refine Br.f rfl ⟨k,rfl,sl,h.box.cell rfl,?_⟩
 refine (w_B3 sl w0 (fun r w'=>∃p1,r=.func (.func 208) #[] #[.pointer (some p1)]∧Box w' p1 [sl.v] 46∧Pure w0 w') ?_).mono ?_
 ·unfold m_B3
  intro p1 w1 h1
  exact ⟨p1,rfl,Box.of_new h1,Ext.new h1⟩
 ·rintro _ w1 ⟨r,rfl,p1,rfl,B1,E1⟩
  refine ⟨_,rfl,?_⟩
  refine (c_SortedV (S:=sl.blk) w1 B1 (h.list.pure E1).lst (fun b hb=>(h.list.pure E1).lt hb) hn).mono ?_
  rintro _ w2 ⟨r2,rfl,l,hl,hp,hs⟩
  exact ⟨r2,rfl,l,⟨hl.rows,fun b hb=>by have:=hl.own b hb;have:=E1.size;omega,E1.trans hl.pure⟩,hp,hs⟩
end Go.Proofs
end
section
open Go Go.SE
namespace Go.Proofs
attribute [local irreducible] Calls
section
variable {w w':World} {k p:Addr} {G:List Int} {S:List Sp.Way} {F:NP}
theorem KnowAt.hst {w0:World} {H H':NP} (h:KnowAt w k p G S F) (hs:Hst w0 H w H' w') (hd:∀b,F b→¬ H b):KnowAt w' k p G S F∧∀b,F b→¬ H' b:=by
 have hd':=hs.disj (G:=F) (fun b hb=>⟨h.lt hb,hd b hb⟩)
 exact ⟨h.ext hs.ext hd',hd'⟩
end
theorem c_ded_sees1 (k p : Addr) (t rule u : Int) (c1 c2 : Addr) (w0 : World) {G : List Int} {S : List Sp.Way} {F : NP} (h : KnowAt w0 k p G S F) (h1 : w0.cell? c1 = some (.pointer (some k))) (h2 : w0.cell? c2 = some (.int .i64 u)) (d1 : ¬ F c1.block) (d2 : ¬ F c2.block) (hn : S.length ≤ 1000000) :
  Calls Tryz.prog 205 #[.int .i64 t,.int .i64 rule,.pointer (some c1),.pointer (some c2)] w0 (fun e w'=>e=.returned (.tuple #[])∧∃F',KnowAt w' k p G (Sp.addWay S ⟨t,rule,u⟩) F'∧Ext F w0 w'∧∀b,F' b→F b∨w0.heap.size≤b):=by
 refine w_F3 _ _ _ _ w0 (fun w'=>∃F',KnowAt w' k p G (Sp.addWay S ⟨t,rule,u⟩) F'∧Ext F w0 w'∧∀b,F' b→F b∨w0.heap.size≤b) ?_
 unfold m_F3
 have hA:=h
 obtain ⟨sg,m,sl,h,hF⟩:=h
 obtain ⟨r,f,hl,_⟩:=h.look t
 refine ⟨_,h1,k,rfl,_,h.box.cell rfl,r,f,_,hl,fun hc=>?_,fun hc=>?_⟩
 ·have hnt:t ∉ Sp.wkeys S:=by simpa using hc
  have hadd:Sp.addWay S ⟨t,rule,u⟩=S++[⟨t,rule,u⟩]:=if_neg hnt
  rw [hadd]
  intro H1 w2 hs2
  have E2:=hs2.first
  have hh:∀{b},b<w0.heap.size→¬ H1 b:=fun hb hx=>by have:=hs2.old _ hx;omega
  have E3:Pure w0 w2.drew:=E2.trans (Ext.drew w2)
  have D4:∀w4:World,Pure w4 w4.drew:=fun w4=>Ext.drew w4
  have c1lt:=World.block_lt_of_cell? w0 c1 h1
  refine ⟨fun w'=>KnowS w' k p G S (Sp.wkeys S) sg m sl∧w'.cell? c1=some (.pointer (some k))∧w'.cell? c2=some (.int .i64 u),⟨h.pure E3,E3.cell h1 (fun h=>h),E3.cell h2 (fun h=>h)⟩,?_⟩
  rintro _ rfl
  have h3:=h.pure E3
  refine ⟨_,fun w' h=>h.2.1,k,rfl,_,fun w' h=>h.1.box.cell rfl,_,fun w' h=>h.2.2,?_⟩
  obtain ⟨w4,hr4,h4,E4⟩:=h3.put (v:=⟨t,rule,u⟩) hnt
  refine ⟨w4,hr4,E4.kept (fun b hb e=>by subst e;exact hh (h.lt (.inr (.inr (.inl rfl)))) hb),?_⟩
  have c14:w4.cell? c1=some (.pointer (some k)):=E4.cell (E3.cell h1 (fun h=>h)) (fun e=>d1 ((hF _).2 (.inr (.inr (.inl e)))))
  have h5:=h4.pure (Ext.drew w4)
  refine ⟨fun w'=>w'.cell? c1=some (.pointer (some k))∧Box w' k [.pointer (some p),sg.v,.map (some m),sl.v] 212,⟨(D4 w4).cell c14 (fun h=>h),h5.box⟩,?_⟩
  rintro _ rfl
  refine ⟨_,fun w' h=>h.1,_,fun w' h=>h.1,k,rfl,sl,fun w' h=>h.2.cell rfl,?_⟩
  intro q w6 h6
  have E6:Pure w4.drew w6:=Ext.new h6
  refine ⟨⟨E6.cell ((D4 w4).cell c14 (fun h=>h)) (fun h=>h),h5.box.pure E6⟩,?_⟩
  obtain ⟨s1,w7,hr7,X7,b7,k7,E7,f7⟩:=h5.app h6 (by rw [Sp.wkeys_len];exact hn)
  have c17:w7.cell? c1=some (.pointer (some k)):=X7.cell (E6.cell ((D4 w4).cell c14 (fun h=>h)) (fun h=>h)) (fun hb=>d1 ((hF _).2 (.inr (.inr (.inr hb)))))
  refine ⟨s1,w7,hr7,⟨c17,b7⟩,X7.kept (fun b hb hx=>hh (h.lt (.inr (.inr (.inr hx)))) hb),k,rfl,b7.canW (by simp),by rw [add_block];exact hh h.box.lt,?_⟩
  rintro _ rfl
  rw [← show Sp.wkeys (S++[⟨t,rule,u⟩])=Sp.wkeys S++[t] from Sp.wkeys_snoc S ⟨t,rule,u⟩] at k7
  have e4:w0.heap.size≤w4.drew.heap.size:=Nat.le_trans E3.size (Nat.le_trans E4.size (D4 w4).size)
  refine ⟨_,⟨sg,m,s1,k7,fun b=>Iff.rfl⟩,?_,fun b hb=>(f7 b hb).imp (hF b).2 (fun h=>by omega)⟩
  refine ((E3.pure (F:=F)).trans (E4.mono (fun b _ e=>(hF b).2 (.inr (.inr (.inl e)))))).trans (((Ext.drew w4:Pure w4 w4.drew).pure (F:=F)).trans (E7.mono (fun b _ hb=>(hF b).2 hb)))
 ·have hnt:t∈Sp.wkeys S:=by simpa using hc
  have hadd:Sp.addWay S ⟨t,rule,u⟩=S:=if_pos hnt
  rw [hadd]
  intro H1 w2 hs2
  exact ⟨F,hA.pure hs2.first,hs2.first.pure,fun b hb=>.inl hb⟩
structure SeesAt (w0:World) (H:NP) (w:World) (k p p1:Addr) (L:Sp.Pool) (G:List Int) (S:List Sp.Way) (F F0 FP:NP):Prop where
 know:KnowAt w k p G S F
 pool:PoolAt w p L FP
 cap:w.cell? p1=some (.pointer (some k))
 ext:Ext F0 w0 w
 own:∀b,F b→F0 b∨w0.heap.size≤b
 h1:∀b,F b→¬ H b
 h2:∀b,FP b→¬ H b
 h3:¬ H p1.block
 d1:¬ F p1.block
 d2:∀b,F b→¬ FP b
section
variable {w0 w w':World} {H H':NP} {k p p1:Addr} {L:Sp.Pool} {G:List Int} {S S':List Sp.Way} {F F' F0 FP:NP}
theorem SeesAt.pure (h:SeesAt w0 H w k p p1 L G S F F0 FP) (E:Pure w w'):SeesAt w0 H w' k p p1 L G S F F0 FP :=
 ⟨h.know.pure E,h.pool.pure E,E.cell h.cap (fun h=>h),h.ext.thenPure E,h.own,h.h1,h.h2,h.h3,h.d1,h.d2⟩
theorem SeesAt.hst (h:SeesAt w0 H w k p p1 L G S F F0 FP) (hs:Hst w0 H w H' w'):SeesAt w0 H' w' k p p1 L G S F F0 FP:=by
 have x1:=hs.disj (G:=F) (fun b hb=>⟨h.know.lt hb,h.h1 b hb⟩)
 have x2:=hs.disj (G:=FP) (fun b hb=>⟨h.pool.lt hb,h.h2 b hb⟩)
 have x3:=hs.disj (G:=(·=p1.block)) (fun b hb=>by subst hb;exact ⟨World.block_lt_of_cell? w p1 h.cap,h.h3⟩) _ rfl
 exact ⟨h.know.ext hs.ext x1,h.pool.ext hs.ext x2,hs.ext.cell h.cap x3,h.ext.trans' hs.ext (fun i hi hb=>by have:=hs.old i hb;omega),h.own,x1,x2,x3,h.d1,h.d2⟩
theorem SeesAt.fresh (h:SeesAt w0 H w k p p1 L G S F F0 FP) {q:Nat} (E:Ext (·=q) w w') (q1:¬ F q) (q2:¬ FP q) (q3:q≠p1.block) (q4:w0.heap.size≤q):SeesAt w0 H w' k p p1 L G S F F0 FP :=
 ⟨h.know.ext E (fun b hb e=>q1 (e▸hb)),h.pool.ext E (fun b hb e=>q2 (e▸hb)),E.cell h.cap (fun e=>q3 e.symm),h.ext.trans' E (fun i hi e=>by subst e;omega),h.own,h.h1,h.h2,h.h3,h.d1,h.d2⟩
theorem SeesAt.step (h:SeesAt w0 H w k p p1 L G S F F0 FP) (hH:∀b,H b→b<w.heap.size) (hK:KnowAt w' k p G S' F') (E:Ext F w w') (hF:∀b,F' b→F b∨w.heap.size≤b):SeesAt w0 H w' k p p1 L G S' F' F0 FP:=by
 have hb:=h.ext.size
 refine ⟨hK,h.pool.ext E (fun b hb hf=>h.d2 b hf hb),E.cell h.cap h.d1,h.ext.trans' E (fun i hi hf=>(h.own i hf).elim id (fun hh=>by omega)),fun b hb=>?_,fun b hb hh=>?_,h.h2,h.h3,fun hh=>?_,fun b hb hh=>?_⟩
 ·rcases hF b hb with h1 | h1
  ·exact h.own b h1
  ·right;omega
 ·rcases hF b hb with h1 | h1
  ·exact h.h1 b h1 hh
  ·have:=hH b hh;omega
 ·rcases hF _ hh with h1 | h1
  ·exact h.d1 h1
  ·have:=World.block_lt_of_cell? w p1 h.cap;omega
 ·rcases hF b hb with h1 | h1
  ·exact h.d2 b h1 hh
  ·have:=h.pool.lt hh;omega
end
theorem c_ded_sees (k p : Addr) (t rule frm : Int) (w0 : World) {L : Sp.Pool} {G : List Int} {S : List Sp.Way} {F FP : NP} (h : KnowAt w0 k p G S F) (hP : PoolAt w0 p L FP) (hW : Sp.Wf L) (hd : ∀ b, F b → ¬ FP b)
  (hwo:Sp.WaysOk L G S) (hcl:∀u∈Sp.wkeys S,Sp.Shown L S u) (ht:Sp.inP L t=true) (hv:Sp.WayOk L G S ⟨t,rule,frm⟩) :
  Calls Tryz.prog 151 #[.pointer (some k),.int .i64 t,.agg #[.int .i64 rule,.int .i64 frm]] w0 (fun e w'=>e=.returned (.tuple #[])∧∃S' F',KnowAt w' k p G S' F'∧(Sp.WaysOk L G S'∧(∀u∈Sp.wkeys S',Sp.Shown L S' u)∧t∈Sp.wkeys S'∧∀u∈Sp.wkeys S,u∈Sp.wkeys S')∧Ext F w0 w'∧∀b,F' b→F b∨w0.heap.size≤b):=by
 suffices key:∀K:WP,(∀S' F' w',KnowAt w' k p G S' F'→(Sp.WaysOk L G S'∧(∀u∈Sp.wkeys S',Sp.Shown L S' u)∧t∈Sp.wkeys S'∧∀u∈Sp.wkeys S,u∈Sp.wkeys S')→Ext F w0 w'→(∀b,F' b→F b∨w0.heap.size≤b)→K w')→m_O (some k) t rule frm w0 K from
  w_O _ _ _ _ w0 _ (key _ (fun S' F' w' a b c d=>⟨S',F',a,b,c,d⟩))
 intro K hK
 unfold m_O
 intro p1 w1 h1 H1 w2 hs2
 have hp1:=h1.at_size
 have E1:Pure w0 w1:=Ext.new h1
 have nF:∀{b},F b→b<w0.heap.size:=fun hb=>h.lt hb
 have nP:∀{b},FP b→b<w0.heap.size:=fun hb=>hP.lt hb
 have A1:SeesAt w0 None w1 k p p1 L G S F F FP:=⟨h.pure E1,hP.pure E1,(Box.of_new h1).cell0,E1.pure,fun b hb=>.inl hb,fun b _ h=>h,fun b _ h=>h,fun h=>h,fun hb=>by have:=nF hb;omega,hd⟩
 have A2:=A1.hst hs2
 obtain ⟨sg,m,sl,k2,hF2⟩:=A2.know
 obtain ⟨r,f,hl,_⟩:=k2.look t
 refine ⟨_,A2.cap,k,rfl,_,k2.box.cell rfl,r,f,_,hl,fun hc=>?_,fun hc=>?_⟩
 ·intro H2 w4 hs4
  have A4:=A2.hst hs4
  exact hK S F w4 A4.know ⟨hwo,hcl,by simpa using hc,fun _ h=>h⟩ A4.ext (fun b hb=>.inl hb)
 have hnt:t ∉ Sp.wkeys S:=by simpa using hc
 intro H2 w4 hs4
 have A4:=A2.hst hs4
 have k4:KnowS w4 k p G S (Sp.wkeys S) sg m sl:=k2.ext hs4.ext (fun b hb=>A4.h1 b ((hF2 b).2 hb))
 have D:∀w:World,Pure w w.drew:=fun w=>Ext.drew w
 refine ⟨fun w'=>w'.cell? p1=some (.pointer (some k))∧Box w' k [.pointer (some p),sg.v,.map (some m),sl.v] 212,⟨(A4.pure (D w4)).cap,(k4.pure (D w4)).box⟩,?_⟩
 rintro _ rfl
 have A5:=A4.pure (D w4)
 have k5:=k4.pure (D w4)
 have hs5:Hst w0 H2 w4.drew H2 w4.drew:=hs4.here.again (D w4).keptP
 refine ⟨_,fun w' h=>h.1,k,rfl,_,fun w' h=>h.2.cell rfl,?_⟩
 obtain ⟨w6,hr6,k6,E6⟩:=k5.put (v:=⟨t,rule,frm⟩) hnt
 have hm:¬ H2 m:=A5.h1 m ((hF2 m).2 (.inr (.inr (.inl rfl))))
 refine ⟨w6,hr6,E6.kept (fun b hb e=>hm (e▸hb)),?_⟩
 have c16:w6.cell? p1=some (.pointer (some k)):=E6.cell A5.cap (fun e=>A5.d1 ((hF2 _).2 (.inr (.inr (.inl e)))))
 refine ⟨_,c16,k,rfl,sl,k6.box.cell rfl,?_⟩
 have k7:=k6.pure (D w6)
 have c17:w6.drew.cell? p1=some (.pointer (some k)):=(D w6).cell c16 (fun h=>h)
 refine ⟨fun w'=>w'.cell? p1=some (.pointer (some k))∧Box w' k [.pointer (some p),sg.v,.map (some m),sl.v] 212,⟨c17,k7.box⟩,?_⟩
 rintro _ rfl
 refine ⟨_,fun w' h=>h.1,_,fun w' h=>h.1,k,rfl,sl,fun w' h=>h.2.cell rfl,?_⟩
 intro q w8 h8
 have E8:Pure w6.drew w8:=Ext.new h8
 refine ⟨⟨E8.cell c17 (fun h=>h),k7.box.pure E8⟩,?_⟩
 have hSn:S.length≤65536:=by have:=hwo.few;have:=hW.ok.few;omega
 obtain ⟨s1,w9,hr9,X9,b9,k9,E9,f9⟩:=k7.app h8 (by rw [Sp.wkeys_len];omega)
 have c19:w9.cell? p1=some (.pointer (some k)):=X9.cell (E8.cell c17 (fun h=>h)) (fun hb=>A5.d1 ((hF2 _).2 (.inr (.inr (.inr hb)))))
 have hH8:∀b,H2 b→b<w4.drew.heap.size:=hs5.lt
 refine ⟨s1,w9,hr9,⟨c19,b9⟩,X9.kept (fun b hb hx=>A5.h1 b ((hF2 b).2 (.inr (.inr (.inr hx)))) hb),k,rfl,b9.canW (by simp),by rw [add_block];exact A5.h1 _ ((hF2 _).2 (.inl rfl)),?_⟩
 rintro _ rfl
 rw [← show Sp.wkeys (S++[⟨t,rule,frm⟩])=Sp.wkeys S++[t] from Sp.wkeys_snoc S ⟨t,rule,frm⟩] at k9
 have E59:Ext F w4.drew (w9.setCell (k.add 3) s1.v):=(E6.mono (fun b _ e=>(hF2 b).2 (.inr (.inr (.inl e))))).trans (((D w6).pure (F:=F)).trans (E9.mono (fun b _ hb=>(hF2 b).2 hb)))
 have z6:w4.drew.heap.size≤w6.drew.heap.size:=Nat.le_trans E6.size (D w6).size
 have A10:SeesAt w0 H2 (w9.setCell (k.add 3) s1.v) k p p1 L G (S++[⟨t,rule,frm⟩]) (KF k sg m s1) F FP:=A5.step hH8 ⟨sg,m,s1,k9,fun b=>Iff.rfl⟩ E59 (fun b hb=>(f9 b hb).imp (hF2 b).2 (fun h=>by omega))
 have hw1:Sp.WaysOk L G (S++[⟨t,rule,frm⟩]):=hwo.snoc hnt ht hv
 have hl2:sl.len=S.length:=by rw [k2.list.len,tmr_len,Sp.wkeys_len]
 refine ⟨fun i H w'=>∃(j:Nat) (Sj:List Sp.Way) (Fj:NP),i=j∧j≤Sj.length∧SeesAt w0 H w' k p p1 L G Sj Fj F FP∧Sp.WaysOk L G Sj∧(∀u∈Sp.wkeys (Sj.take j),Sp.Shown L Sj u)∧t∈Sp.wkeys Sj∧∀u∈Sp.wkeys S,u∈Sp.wkeys Sj,fun i _=>((L.length:Int) - i).toNat,
  ⟨S.length,_,_,by rw [hl2],by simp,A10,hw1,fun u hu=>by rw [List.take_left] at hu;exact (hcl u hu).snoc,by rw [Sp.wkeys_snoc];simp,fun u hu=>by rw [Sp.wkeys_snoc];exact List.mem_append_left _ hu⟩,?_⟩
 rintro _ Hl wl hl ⟨j,Sj,Fj,rfl,hj,A,hwj,hcj,htj,hSj⟩
 unfold m_O_l1
 obtain ⟨tg,mj,tl,kj,hFj⟩:=A.know
 have hlj:tl.len=Sj.length:=by rw [kj.list.len,tmr_len,Sp.wkeys_len]
 refine ⟨_,A.cap,k,rfl,tl,kj.box.cell rfl,fun hc=>?_,fun hc=>?_⟩
 ·have hlt:=lt_of_dec hlj hc
  obtain ⟨a8,at8,_,c8⟩:=tm_nth kj.list.lst (j:=j) (by rw [Sp.wkeys_len];exact hlt)
  have hu:(Sp.wkeys Sj)[j]'(by rw [Sp.wkeys_len];exact hlt)=Sj[j].t:=by simp [Sp.wkeys]
  rw [hu] at c8
  have hum:Sj[j].t∈Sp.wkeys Sj:=List.mem_map.2 ⟨_,List.getElem_mem hlt,rfl⟩
  have hui:=hwj.inp _ hum
  have hLn:Sj.length≤L.length:=hwj.few
  have hL6:=hW.ok.few
  have htk:Sp.wkeys (Sj.take (j+1))=Sp.wkeys (Sj.take j)++[Sj[j].t]:=by rw [List.take_succ_eq_append_getElem hlt,Sp.wkeys_snoc]
  generalize Sj[j].t=u at *
  refine ⟨_,A.cap,k,rfl,tl,kj.box.cell rfl,a8,at8,u,c8,?_⟩
  intro p5 w11 h11
  have hp5:=h11.at_size
  have E11:Pure wl w11:=Ext.new h11
  have b5:=Box.of_new h11
  have hnh5:¬ Hl p5.block:=fun hh=>by have:=hl.lt _ hh;omega
  refine ⟨b5.canW0 (by simp),hnh5,?_⟩
  rintro _ rfl
  have b12:=b5.set0 (v:=.int .i64 u)
  have E12:=Ext.setCell (w:=w11) p5 (.int .i64 u)
  have wl0:=A.ext.size
  have n5:¬ Fj p5.block:=fun hh=>by have:=A.know.lt hh;omega
  have n5p:¬ FP p5.block:=fun hh=>by have:=A.pool.lt hh;omega
  have n51:p5.block≠p1.block:=fun hh=>by have:=World.block_lt_of_cell? wl p1 A.cap;omega
  have A12:SeesAt w0 Hl (w11.setCell p5 (.int .i64 u)) k p p1 L G Sj Fj F FP:=(A.pure E11).fresh E12 n5 n5p n51 (by omega)
  have k12:KnowS (w11.setCell p5 (.int .i64 u)) k p G Sj (Sp.wkeys Sj) tg mj tl:=(kj.pure E11).ext E12 (fun b hb e=>n5 (e▸(hFj b).2 hb))
  have hl12:Hst w0 Hl (w11.setCell p5 (.int .i64 u)) Hl (w11.setCell p5 (.int .i64 u)):=(hl.again E11.keptP).again (E12.kept (fun b hb e=>hnh5 (e▸hb)))
  generalize w11.setCell p5 (.int .i64 u)=w12 at *
  clear E11 E12 h11
  refine ⟨fun w'=>w'.cell? p1=some (.pointer (some k))∧Box w' k [.pointer (some p),tg.v,.map (some mj),tl.v] 212∧Box w' p5 [.int .i64 u] 78,⟨(A12.pure (D w12)).cap,(k12.pure (D w12)).box,b12.pure (D w12)⟩,?_⟩
  rintro _ rfl
  have A17:=A12.pure (D w12)
  have b17:=b12.pure (D w12)
  have k17:=k12.pure (D w12)
  have hs17:Hst w0 Hl w12.drew Hl w12.drew:=hl12.again (D w12).keptP
  generalize hn:Sp.nodeOf L u=n at *
  have J2 : ∀ (a9 : Addr) (w : World), Hst w0 Hl w Hl w → SeesAt w0 Hl w k p p1 L G Sj Fj F FP → w.cell? p5 = some (.int .i64 u) → Row w a9 (nrow n) → ¬ Fj a9.block → ¬ Hl a9.block →
    m_O_j2 p1 j p5 a9 w0 Hl w (fun y'0 H' w'=>(∃(j:Nat) (Sj:List Sp.Way) (Fj:NP),y'0=j∧j≤Sj.length∧SeesAt w0 H' w' k p p1 L G Sj Fj F FP∧Sp.WaysOk L G Sj∧(∀u∈Sp.wkeys (Sj.take j),Sp.Shown L Sj u)∧t∈Sp.wkeys Sj∧∀u∈Sp.wkeys S,u∈Sp.wkeys Sj)∧((L.length:Int) - y'0).toNat<((L.length:Int) - (j:Int)).toNat) K:=by
   intro a9 w hs Aw c5 r9 n9 nh9
   have fin : ∀ (H' : NP) (w' : World) (S' : List Sp.Way) (F' : NP), SeesAt w0 H' w' k p p1 L G S' F' F FP → Sp.WaysOk L G S' → (∃ M, S' = Sj ++ M) → Sp.Shown L S' u →
     ((∃(j':Nat) (Sj:List Sp.Way) (Fj:NP),IntKind.i64.wrap ((j:Int)+1)=j'∧j'≤Sj.length∧SeesAt w0 H' w' k p p1 L G Sj Fj F FP∧Sp.WaysOk L G Sj∧(∀u∈Sp.wkeys (Sj.take j'),Sp.Shown L Sj u)∧t∈Sp.wkeys Sj∧∀u∈Sp.wkeys S,u∈Sp.wkeys Sj)∧((L.length:Int) - IntKind.i64.wrap ((j:Int)+1)).toNat<((L.length:Int) - (j:Int)).toNat):=by
    rintro H' w' S' F' A' hw' ⟨M,rfl⟩ hsh
    have hsub:∀x∈Sp.wkeys Sj,x∈Sp.wkeys (Sj++M):=fun x hx=>by unfold Sp.wkeys at hx ⊢;rw [List.map_append];exact List.mem_append_left _ hx
    rw [wrap_succ (n:=L.length) (by omega) (by omega)]
    refine ⟨⟨j+1,_,F',rfl,by rw [List.length_append];omega,A',hw',fun x hx=>?_,hsub t htj,fun x hx=>hsub x (hSj x hx)⟩,lt_dec (by omega)⟩
    rw [List.take_append_of_le_length (by omega),htk,List.mem_append,List.mem_singleton] at hx
    rcases hx with hx | rfl
    ·exact fun r y ha=>hsub y (hcj x hx r y ha)
    ·exact hsh
   unfold m_O_j2
   have ck:w.cell? a9=some (.int .i64 n.kind):=by simpa [Addr.add,nrow] using r9 0 (by simp [nrow])
   have ca:w.cell? (a9.add 5)=some (.int .i64 n.a):=r9 5 (by simp [nrow])
   have cb:w.cell? (a9.add 6)=some (.int .i64 n.b):=r9 6 (by simp [nrow])
   refine ⟨_,ck,fun hk=>?_,fun hk=>?_⟩
   ·have hk4:n.kind=4:=by simpa using hk
    have hkids:=Sp.kids4 hW hui (by rw [hn];exact hk4)
    rw [hn] at hkids
    refine ⟨_,ca,?_⟩
    refine (c_ded_sees1 k p n.a 1 u p1 p5 w Aw.know Aw.cap c5 Aw.d1 (fun hh=>n5 hh) (by omega)).mono ?_
    rintro _ w13 ⟨rfl,F1,K1,X1,f1⟩
    have A1:=Aw.step hs.lt K1 X1 f1
    have hs13:=hs.again (X1.kept (fun b hb hf=>Aw.h1 b hf hb))
    refine ⟨rfl,X1.kept (fun b hb hf=>Aw.h1 b hf hb),n.b,X1.cell cb (by rw [add_block];exact n9),?_⟩
    have a1:Sp.Arises L 1 u n.a:=.inl ⟨rfl,by rw [hn];exact hk4,by rw [hn]⟩
    have a2:Sp.Arises L 2 u n.b:=.inr (.inl ⟨rfl,by rw [hn];exact hk4,by rw [hn]⟩)
    have hw1:=hwj.add (v:=⟨n.a,1,u⟩) hkids.1.1 (.inr ⟨by simp,a1,hum⟩)
    have u1:=(Sp.addWay_keys Sj ⟨n.a,1,u⟩).2 u hum
    have hw2:=hw1.add (v:=⟨n.b,2,u⟩) hkids.2.1 (.inr ⟨by simp,a2,u1⟩)
    have p5lt:=World.block_lt_of_cell? w p5 c5
    have m5:¬ F1 p5.block:=fun hh=>(f1 _ hh).elim n5 (fun hx=>by omega)
    refine (c_ded_sees1 k p n.b 2 u p1 p5 w13 A1.know A1.cap (X1.cell c5 n5) A1.d1 m5 (by have:=hw1.few;omega)).mono ?_
    rintro _ w14 ⟨rfl,F2,K2,X2,f2⟩
    have A2:=A1.step hs13.lt K2 X2 f2
    refine ⟨rfl,X2.kept (fun b hb hf=>A1.h1 b hf hb),?_⟩
    refine fin Hl w14 _ F2 A2 hw2 ?_ ?_
    ·obtain ⟨M1,e1⟩:=Sp.addWay_take Sj ⟨n.a,1,u⟩
     obtain ⟨M2,e2⟩:=Sp.addWay_take (Sp.addWay Sj ⟨n.a,1,u⟩) ⟨n.b,2,u⟩
     exact ⟨M1++M2,by rw [e2,e1,List.append_assoc]⟩
    ·rintro r y (⟨_,_,h3⟩ | ⟨_,_,h3⟩ | ⟨_,h2,_⟩)
     ·rw [hn] at h3;subst h3
      exact (Sp.addWay_keys _ ⟨n.b,2,u⟩).2 _ (Sp.addWay_keys Sj ⟨n.a,1,u⟩).1
     ·rw [hn] at h3;subst h3
      exact (Sp.addWay_keys _ ⟨n.b,2,u⟩).1
     ·rw [hn,hk4] at h2;cases h2
   ·have hk4:n.kind≠4:=by simpa using hk
    rintro y1 rfl
    have hy:(cond ((n.kind:Int) == 7) ((n.kind:Int) == 7) (cond ((n.kind:Int) == 8) ((n.kind:Int) == 8) ((n.kind:Int) == 9)))=Sp.showsK n.kind:=by
     unfold Sp.showsK;cases h7:(n.kind == 7) <;> cases h8:(n.kind == 8) <;> simp
    rw [hy]
    refine ⟨fun hs7=>?_,fun hs7=>?_⟩
    ·intro H3 w15 hs15
     have A15:=Aw.hst hs15
     have hkids:=Sp.kids7 hW hui (by rw [hn];exact hs7)
     rw [hn] at hkids
     have r15:=row_hst r9 nh9 hs15
     have ca15:w15.cell? (a9.add 5)=some (.int .i64 n.a):=r15 5 (by simp)
     have c515:=cell_hst c5 hnh5 hs15
     refine ⟨n.a,ca15,?_⟩
     refine (c_ded_sees1 k p n.a 3 u p1 p5 w15 A15.know A15.cap c515 A15.d1 n5 (by omega)).mono ?_
     rintro _ w16 ⟨rfl,F1,K1,X1,f1⟩
     have A1:=A15.step hs15.lt K1 X1 f1
     refine ⟨rfl,X1.kept (fun b hb hf=>A15.h1 b hf hb),?_⟩
     have a3:Sp.Arises L 3 u n.a:=.inr (.inr ⟨rfl,by rw [hn];exact hs7,by rw [hn]⟩)
     refine fin H3 w16 _ F1 A1 (hwj.add (v:=⟨n.a,3,u⟩) hkids.1 (.inr ⟨by simp,a3,hum⟩)) (Sp.addWay_take Sj ⟨n.a,3,u⟩) ?_
     rintro r y (⟨_,h2,_⟩ | ⟨_,h2,_⟩ | ⟨_,_,h3⟩)
     ·rw [hn] at h2;exact absurd h2 hk4
     ·rw [hn] at h2;exact absurd h2 hk4
     ·rw [hn] at h3;subst h3
      exact (Sp.addWay_keys Sj ⟨n.a,3,u⟩).1
    ·intro H3 w15 hs15
     refine fin H3 w15 Sj Fj (Aw.hst hs15) hwj ⟨[],by simp⟩ ?_
     rintro r y (⟨_,h2,_⟩ | ⟨_,h2,_⟩ | ⟨_,h2,_⟩)
     ·rw [hn] at h2;exact absurd h2 hk4
     ·rw [hn] at h2;exact absurd h2 hk4
     ·rw [hn,hs7] at h2;cases h2
  refine ⟨_,fun w' h=>h.1,k,rfl,_,fun w' h=>h.2.1.cell0,_,fun w' h=>h.2.2.cell0,?_,?_⟩
  ·refine (c_Node p u w12.drew A17.pool hW.ok).mono ?_
   rintro _ w18 ⟨nk,nf,nt,nu,nx,na,nb,ok,rfl,⟨hnn,_⟩,E18⟩
   rw [hn] at hnn
   refine ⟨_,_,_,_,_,_,_,_,rfl,⟨(A17.pure E18).cap,k17.box.pure E18,b17.pure E18⟩,E18.keptP,?_⟩
   intro p6 w19 h19
   have hp6:=h19.at_size
   have E19:=E18.trans (Ext.new h19)
   have b6:=Box.of_new h19
   have z18:=E18.size
   have z12:wl.heap.size≤w12.drew.heap.size:=by have:=(b17.lt);omega
   have nh6:¬ Hl p6.block:=fun hh=>by have:=hl.lt _ hh;omega
   refine ⟨⟨(A17.pure E19).cap,k17.box.pure E19,b17.pure E19⟩,b6.canWs (n:=7) (by simp),nh6,?_⟩
   rintro _ rfl
   have E20:=Ext.storeRow w19 p6 [(.int .i64 nk),(.int .i64 nf),(.int .i64 nt),(.int .u64 nu),(.string nx),(.int .i64 na),(.int .i64 nb)]
   have b20:=b6.store (vs:=[(.int .i64 nk),(.int .i64 nf),(.int .i64 nt),(.int .u64 nu),(.string nx),(.int .i64 na),(.int .i64 nb)]) rfl
   have A19:=A17.pure E19
   have n6:¬ Fj p6.block:=fun hh=>by have:=A17.know.lt hh;omega
   have A20:=A19.fresh E20 n6 (fun hh=>by have:=A17.pool.lt hh;omega) (fun hh=>by have:=World.block_lt_of_cell? _ p1 A17.cap;omega) (by have:=A17.ext.size;omega)
   have k20:=(k17.box.pure E19).ext E20 (fun e=>by have:=k17.box.lt;omega)
   have b520:=(b17.pure E19).ext E20 (fun e=>by have:=b17.lt;omega)
   have hs20:Hst w0 Hl _ Hl _:=(hs17.again E19.keptP).again (E20.kept (fun b hb e=>nh6 (e▸hb)))
   exact ⟨⟨A20.cap,k20,b520⟩,J2 p6 _ hs20 A20 b520.cell0 (by rw [← hnn];exact b20.row) n6 nh6⟩
  ·intro p7 w21 h21
   have hp6:=h21.at_size
   have E21:Pure w12.drew w21:=Ext.new h21
   have b7:=Box.of_new h21
   refine ⟨⟨(A17.pure E21).cap,k17.box.pure E21,b17.pure E21⟩,?_⟩
   refine (c_Node p u w21 (A17.pure E21).pool hW.ok).mono ?_
   rintro _ w22 ⟨nk,nf,nt,nu,nx,na,nb,ok,rfl,⟨hnn,_⟩,E22⟩
   rw [hn] at hnn
   have E19:=E21.trans E22
   have z12:wl.heap.size≤w12.drew.heap.size:=by have:=(b17.lt);omega
   have nh6:¬ Hl p7.block:=fun hh=>by have:=hl.lt _ hh;omega
   have b6:=b7.pure E22
   refine ⟨_,_,_,_,_,_,_,_,rfl,⟨(A17.pure E19).cap,k17.box.pure E19,b17.pure E19⟩,E22.keptP,b6.canWs (n:=7) (by simp),nh6,?_⟩
   rintro _ rfl
   have E20:=Ext.storeRow w22 p7 [(.int .i64 nk),(.int .i64 nf),(.int .i64 nt),(.int .u64 nu),(.string nx),(.int .i64 na),(.int .i64 nb)]
   have b20:=b6.store (vs:=[(.int .i64 nk),(.int .i64 nf),(.int .i64 nt),(.int .u64 nu),(.string nx),(.int .i64 na),(.int .i64 nb)]) rfl
   have A19:=A17.pure E19
   have n6:¬ Fj p7.block:=fun hh=>by have:=A17.know.lt hh;omega
   have A20:=A19.fresh E20 n6 (fun hh=>by have:=A17.pool.lt hh;omega) (fun hh=>by have:=World.block_lt_of_cell? _ p1 A17.cap;omega) (by have:=A17.ext.size;omega)
   have k20:=(k17.box.pure E19).ext E20 (fun e=>by have:=k17.box.lt;omega)
   have b520:=(b17.pure E19).ext E20 (fun e=>by have:=b17.lt;omega)
   have hs20:Hst w0 Hl _ Hl _:=(hs17.again E19.keptP).again (E20.kept (fun b hb e=>nh6 (e▸hb)))
   exact ⟨⟨A20.cap,k20,b520⟩,J2 p7 _ hs20 A20 b520.cell0 (by rw [← hnn];exact b20.row) n6 nh6⟩
 ·have hge:=eq_of_dec hlj hj hc
  subst hge
  rw [List.take_length] at hcj
  exact hK Sj Fj wl A.know ⟨hwj,hcj,htj,hSj⟩ A.ext A.own
end Go.Proofs
end
section
open Go.SE
namespace Go.Sp
def keyOf (L:Pool) (n:Int):Int×Bool:=match find L (keyNode n) with
 | some i=>((i:Int)+1,true)
 | none=>(0,false)
theorem kind_cases {L:Pool} (h:Wf L) {t:Int} (ht:inP L t=true):freeK (nodeOf L t).kind=true∨(nodeOf L t).kind=4∨(nodeOf L t).kind=5∨(nodeOf L t).kind=6∨showsK (nodeOf L t).kind=true:=by
 have h1:=(h.node ht).1
 unfold plainErr at h1
 simp only at h1
 split at h1
 ·cases h1
 ·rename_i hh
  simp only [Bool.or_eq_true,Bool.not_eq_true',not_or] at hh
  have hk:isKind (nodeOf L t).kind=true:=by simpa using hh.1.1.1.1
  simp only [isKind,Bool.and_eq_true,decide_eq_true_eq] at hk
  simp only [freeK,showsK,Bool.or_eq_true,beq_iff_eq]
  omega
inductive Sub (L:Pool):Int→Int→Prop
 | refl (t:Int):Sub L t t
 | kid {t u k:Int}:Sub L t u→k∈kidsOf (nodeOf L u)→Sub L t k
theorem Sub.trans {L:Pool} {a b c:Int} (h:Sub L a b) (k:Sub L b c):Sub L a c:=by
 induction k with
 | refl=>exact h
 | kid _ hk ih=>exact .kid ih hk
theorem kids_a {n:Node} (h:n.kind=4∨n.kind=5∨showsK n.kind=true):n.a∈kidsOf n:=by
 simp only [showsK,Bool.or_eq_true,beq_iff_eq] at h
 rcases h with h | h | (h | h) | h <;> simp [kidsOf,h,shapeOf]
theorem kids_b {n:Node} (h:n.kind=4):n.b∈kidsOf n:=by simp [kidsOf,h,shapeOf]
theorem Arises.sub {L:Pool} {r u t:Int} (h:Arises L r u t):Sub L u t:=by
 rcases h with ⟨_,hk,rfl⟩ | ⟨_,hk,rfl⟩ | ⟨_,hk,rfl⟩
 ·exact .kid (.refl u) (kids_a (.inl hk))
 ·exact .kid (.refl u) (kids_b hk)
 ·exact .kid (.refl u) (kids_a (.inr (.inr hk)))
theorem Seen.sub {L:Pool} {G:List Int} {t:Int} (h:Seen L G t):∃g∈G,Sub L g t:=by
 induction h with
 | given hg=>exact ⟨_,hg,.refl _⟩
 | «from» _ ha ih=>obtain ⟨g,hg,hs⟩:=ih;exact ⟨g,hg,hs.trans ha.sub⟩
def rank (S:List Way) (t:Int):Nat:=(wkeys S).idxOf t+if t∈wkeys S then 0 else t.toNat
theorem Arises.rule {L:Pool} {r u t:Int} (h:Arises L r u t):r=1∨r=2∨r=3:=by
 rcases h with ⟨h,_⟩ | ⟨h,_⟩ | ⟨h,_⟩
 ·exact .inl h
 ·exact .inr (.inl h)
 ·exact .inr (.inr h)
def amap (l:List Step):List (Int×Int):=l.zipIdx.map fun p=>(p.1.t,(p.2:Int))
structure PrfOk (L:Pool) (G:List Int) (K:Int→Prop) (l:List Step) (B:List Int):Prop where
 fol:∀i (hi:i<l.length),fol L G (l.take i) l[i]=true
 nd:(l.map Step.t).Nodup
 drv:∀s∈l,Drv L K s.t
 bar:∀t∈B,¬ Drv L K t
theorem PrfOk.nil (L:Pool) (G:List Int) (K:Int→Prop):PrfOk L G K [] []:=⟨fun i hi=>by simp at hi,by simp,by simp,by simp⟩
theorem PrfOk.snoc {L:Pool} {G:List Int} {K:Int→Prop} {l:List Step} {B:List Int} (h:PrfOk L G K l B) {s:Step} (hf:Sp.fol L G l s=true) (hn:s.t ∉ l.map Step.t) (hd:Drv L K s.t):PrfOk L G K (l++[s]) B:=by
 refine ⟨fun i hi=>?_,?_,fun x hx=>?_,h.bar⟩
 ·rw [List.length_append] at hi
  simp only [List.length_cons,List.length_nil] at hi
  by_cases hl:i<l.length
  ·rw [List.getElem_append_left hl,List.take_append_of_le_length (by omega)];exact h.fol i hl
  ·have:i=l.length:=by omega
   subst this
   rw [List.getElem_append_right (Nat.le_refl _),List.take_left]
   simpa using hf
 ·rw [List.map_append,List.nodup_append]
  exact ⟨h.nd,by simp,fun x hx y hy e=>by simp at hy;subst hy;exact hn (e▸hx)⟩
 ·rcases List.mem_append.1 hx with hx | hx
  ·exact h.drv x hx
  ·simp at hx;subst hx;exact hd
theorem fol_in {L:Pool} {G:List Int} {pre:List Step} {s:Step} (h:fol L G pre s=true):inP L s.t=true:=by
 unfold fol at h
 split at h
 ·cases h
 ·rename_i hh;simpa using hh
theorem PrfOk.few {L:Pool} {G:List Int} {K:Int→Prop} {l:List Step} {B:List Int} (h:PrfOk L G K l B):l.length≤L.length:=by
 have:=pool_few h.nd (fun t ht=>by
  obtain ⟨s,hs,rfl⟩:=List.mem_map.1 ht
  obtain ⟨i,hi,rfl⟩:=List.getElem_of_mem hs
  exact fol_in (h.fol i hi))
 simpa using this
end Go.Sp
end
section
open Go Go.SE
namespace Go.Sp
def addT (G:List Int) (t:Int):List Int:=if t∈G then G else G++[t]
def giveT (L:Pool) (G:List Int) (t:Int):List Int:=if inP L t=true then addT G t else G
theorem mem_addT {G:List Int} {t x:Int}:x∈addT G t↔x∈G∨x=t:=by
 unfold addT;split
 ·rename_i h;exact ⟨.inl,fun h'=>h'.elim id (fun e=>e▸h)⟩
 ·simp
theorem addT_nd {G:List Int} {t:Int} (h:G.Nodup):(addT G t).Nodup:=by
 unfold addT;split
 ·exact h
 ·rename_i hn
  rw [List.nodup_append];exact ⟨h,by simp,fun x hx y hy e=>by simp at hy;subst hy;exact hn (e▸hx)⟩
def madeS (L:Pool) (S:List Way) (t:Int):Int×Int×Bool×Bool :=
 if inP L t=false then (0,0,false,false)
 else if freeK (nodeOf L t).kind=true then (0,0,true,true)
 else if (nodeOf L t).kind=4 then ((nodeOf L t).a,(nodeOf L t).b,false,true)
 else if (nodeOf L t).kind=5 then ((nodeOf L t).a,0,false,true)
 else if (nodeOf L t).kind=6 then (0,0,false,false)
 else ((nodeOf L t).a,(keyOf L (whoOf (nodeOf L t))).1,false,(keyOf L (whoOf (nodeOf L t))).2 && decide ((keyOf L (whoOf (nodeOf L t))).1∈wkeys S))
end Go.Sp
namespace Go.Proofs
attribute [local irreducible] Calls
abbrev MakePost (p:Addr) (L:Sp.Pool) (F:NP) (w:World) (n:Sp.Node) (e:Ending) (w':World):Prop :=
 ∃r1:Int,∃r2:Int,e=.returned (.tuple #[.int .i64 r1,.int .i64 r2])∧((r1,r2)=((Sp.make L n).1,(Sp.make L n).2.1)∧∃F',PoolAt w' p (Sp.make L n).2.2 F'∧Ext F w w'∧∀b,F' b→F b∨w.heap.size≤b)
section
variable (p:Addr) (w0:World) {L:Sp.Pool} {F:NP} (hP:PoolAt w0 p L F) (hok:Sp.Ok L)
include hP hok
theorem c_Pair (a b:Int):Calls Tryz.prog 91 #[.pointer (some p),.int .i64 a,.int .i64 b] w0 (MakePost p L F w0 ⟨4,0,0,0,⟨#[]⟩,a,b⟩):=by
 refine w_I2 _ _ _ w0 (fun r1 r2 w'=>(r1,r2)=((Sp.make L ⟨4,0,0,0,⟨#[]⟩,a,b⟩).1,(Sp.make L ⟨4,0,0,0,⟨#[]⟩,a,b⟩).2.1)∧∃F',PoolAt w' p (Sp.make L ⟨4,0,0,0,⟨#[]⟩,a,b⟩).2.2 F'∧Ext F w0 w'∧∀b,F' b→F b∨w0.heap.size≤b) ?_
 unfold m_I2
 refine (c_Make p _ _ _ _ _ _ _ w0 hP hok).mono ?_
 rintro _ w1 ⟨r1,r2,rfl,h⟩
 exact ⟨r1,r2,rfl,h⟩
theorem c_Sign (n a:Int):Calls Tryz.prog 93 #[.pointer (some p),.int .i64 n,.int .i64 a] w0 (MakePost p L F w0 ⟨7,n,0,0,⟨#[]⟩,a,0⟩):=by
 refine w_K2 _ _ _ w0 (fun r1 r2 w'=>(r1,r2)=((Sp.make L ⟨7,n,0,0,⟨#[]⟩,a,0⟩).1,(Sp.make L ⟨7,n,0,0,⟨#[]⟩,a,0⟩).2.1)∧∃F',PoolAt w' p (Sp.make L ⟨7,n,0,0,⟨#[]⟩,a,0⟩).2.2 F'∧Ext F w0 w'∧∀b,F' b→F b∨w0.heap.size≤b) ?_
 unfold m_K2
 refine (c_Make p _ _ _ _ _ _ _ w0 hP hok).mono ?_
 rintro _ w1 ⟨r1,r2,rfl,h⟩
 exact ⟨r1,r2,rfl,h⟩
end
theorem KnowS.appG {w : World} {k p : Addr} {G : List Int} {S : List Sp.Way} {ks : List Int} {sg sl : Sl} {m : Nat} (h : KnowS w k p G S ks sg m sl) {t : Int} {q : Addr} {w1 : World} (hq : New w (.cells #[.int .i64 t] 78) q w1) (hn : G.length ≤ 1000000) : ∃ s1 w2, (Builtin.append_ #[46, 46] 46 #[sg.v, (Sl.mk (some q) 1 1).v]).run Tryz.prog w1 = .ok s1.v w2 ∧ Ext sg.blk w1 w2 ∧ CanW w2 (k.add 1) ∧
  KnowS (w2.setCell (k.add 1) s1.v) k p (G++[t]) S ks s1 m sl∧Ext (KF k sg m sl) w (w2.setCell (k.add 1) s1.v)∧∀b,KF k s1 m sl b→KF k sg m sl b∨w.heap.size≤b:=by
 have E1:Pure w w1:=Ext.new hq
 have h1:=h.pure E1
 obtain ⟨s1,w2,hr,hR,hE,hb⟩:=h1.giv.append (P:=Tryz.prog) (ty:=46) (c:=1) slT_tm (r:=[.int .i64 t]) (Box.of_new hq).row rfl rfl (by rw [tmr_len];omega) (by rw [tmr_len];simp [maxLen];omega)
 have hbx:=h1.box.ext hE h1.n2
 have hs1:∀b,s1.blk b→sg.blk b∨w.heap.size≤b:=fun b h=>(hb b h).imp_right (fun h=>by have:=E1.size;omega)
 have nk:¬ s1.blk k.block:=fun hh=>(hs1 _ hh).elim h.n2 (fun hh=>by have:=h.box.lt;omega)
 have nm:¬ s1.blk m:=fun hh=>(hs1 _ hh).elim h.n4 (fun hh=>by have:=h.seen.lt;omega)
 have E3:=Ext.setCell (w:=w2) (k.add 1) s1.v
 rw [add_block] at E3
 refine ⟨s1,w2,hr,hE,hbx.canW (by simp),⟨hbx.set 1 s1.v,by rw [show tmr (G++[t])=tmr G++[[.int .i64 t]] by simp [tmr]];exact hR.ext E3 (fun b hb e=>nk (e▸hb)),((h1.seen.ext hE h.n4).ext E3 h.n1),((h1.list.ext hE (fun b h2 h1=>h.n6 b h1 h2)).ext E3 (fun b hb e=>h.n3 (e▸hb))),h.n1,nk,h.n3,nm,h.n5,fun b h1 h2=>(hs1 b h1).elim (fun h1=>h.n6 b h1 h2) (fun hh=>by have:=h.list.lt h2;omega)⟩,?_,?_⟩
 ·exact ((E1.pure (F:=KF k sg m sl)).trans (hE.mono (fun b _ hb=>.inr (.inl hb)))).trans (E3.mono (fun b _ hb=>.inl hb))
 ·rintro b (hb | hb | hb | hb)
  ·exact .inl (.inl hb)
  ·exact (hs1 b hb).imp_left (fun h=>.inr (.inl h))
  ·exact .inl (.inr (.inr (.inl hb)))
  ·exact .inl (.inr (.inr (.inr hb)))
theorem c_ded_Add (k p : Addr) (t : Int) (w0 : World) {L : Sp.Pool} {G : List Int} {S : List Sp.Way} {F FP : NP} (h : KnowAt w0 k p G S F) (hP : PoolAt w0 p L FP) (hW : Sp.Wf L) (hd : ∀ b, F b → ¬ FP b) (hk : Sp.KnowOk L G S) :
  Calls Tryz.prog 79 #[.pointer (some k),.int .i64 t] w0 (fun e w'=>∃r:Int,e=.returned (.int .i64 r)∧(r=(if Sp.inP L t=true then 0 else 51)∧∃S' F',KnowAt w' k p (Sp.giveT L G t) S' F'∧Sp.KnowOk L (Sp.giveT L G t) S'∧Ext F w0 w'∧∀b,F' b→F b∨w0.heap.size≤b)):=by
 suffices key:∀K:Int→WP,(∀S' F' w',KnowAt w' k p (Sp.giveT L G t) S' F'→Sp.KnowOk L (Sp.giveT L G t) S'→Ext F w0 w'→(∀b,F' b→F b∨w0.heap.size≤b)→K (if Sp.inP L t=true then 0 else 51) w')→m_D2 (some k) t w0 K from
  w_D2 _ _ w0 _ (key _ (fun S' F' w' a b c d=>⟨rfl,S',F',a,b,c,d⟩))
 intro K hK
 unfold m_D2
 obtain ⟨sg,m,sl,k0,hF⟩:=h
 refine Br.f rfl ⟨k,rfl,_,k0.box.cell0,?_⟩
 refine (c_Node p t w0 hP hW.ok).mono ?_
 rintro _ w1 ⟨nk,nf,nt,nu,nx,na,nb,ok,rfl,⟨_,rfl⟩,E1⟩
 refine ⟨_,_,_,_,_,_,_,_,rfl,E1.keptP,fun hc=>?_,fun hc=>?_⟩
 ·have hin:Sp.inP L t=false:=by simpa using hc
  intro H1 w3 hs3
  have E3:Pure w0 w3:=E1.hst hs3
  have hg:Sp.giveT L G t=G:=by unfold Sp.giveT;rw [if_neg (by simp [hin])]
  have:=hK S F w3 (by rw [hg];exact ⟨sg,m,sl,k0.pure E3,hF⟩) (by rw [hg];exact hk) E3.pure (fun b hb=>.inl hb)
  simpa [hin] using this
 have hin:Sp.inP L t=true:=by simpa using hc
 have hg:Sp.giveT L G t=Sp.addT G t:=by unfold Sp.giveT;rw [if_pos hin]
 rw [hg] at hK
 simp only [hin,if_true] at hK
 refine ⟨k,rfl,?_⟩
 intro H1 w3 hs3
 have E3:Pure w0 w3:=E1.hst hs3
 have k3:=k0.pure E3
 have nh:∀b,b<w0.heap.size→¬ H1 b:=fun b hb hh=>by have:=hs3.old b hh;omega
 have hGn:G.length≤65536:=by have:=Sp.pool_few hk.gnd (fun t ht=>hk.inp t (hk.giv t ht));have:=hW.ok.few;omega
 have fin:∀(w:World) (F':NP),KnowAt w k p (Sp.addT G t) S F'→Ext F w0 w→(∀b,F' b→F b∨w0.heap.size≤b)→Hst w0 H1 w H1 w→(∀b,F' b→¬ H1 b)→Calls Tryz.prog 151 #[.pointer (some k),.int .i64 t,.agg #[.int .i64 0,.int .i64 0]] w (fun e w8=>e=.returned (.tuple #[])∧Kept H1 w w8∧K 0 w8):=by
  intro w F' hw hE hf hs hh
  have hGs:∀x∈G,x∈Sp.addT G t:=fun x hx=>Sp.mem_addT.2 (.inl hx)
  have hPw:PoolAt w p L FP:=hP.ext hE (fun b hb hfb=>hd b hfb hb)
  refine (c_ded_sees k p t 0 0 w hw hPw hW (fun b hb hp=>?_) (hk.toWaysOk.mono hGs) hk.closed hin (.inl ⟨rfl,rfl,Sp.mem_addT.2 (.inr rfl)⟩)).mono ?_
  ·rcases hf b hb with h1 | h1
   ·exact hd b h1 hp
   ·have:=hP.lt hp;omega
  ·rintro _ w8 ⟨rfl,S',F2,K2,⟨q1,q2,q3,q4⟩,X2,f2⟩
   have z:=hE.size
   refine ⟨rfl,X2.kept (fun b hb hx=>hh b hx hb),hK S' F2 w8 K2 ⟨q1,q2,fun x hx=>?_,Sp.addT_nd hk.gnd⟩ (hE.trans' X2 (fun i hi hx=>(hf i hx).elim id (fun h=>by omega))) (fun b hb=>?_)⟩
   ·rcases Sp.mem_addT.1 hx with hx | rfl
    ·exact q4 x (hk.giv x hx)
    ·exact q3
   ·rcases f2 b hb with h1 | h1
    ·exact hf b h1
    ·right;omega
 refine ⟨_,k3.box.cell rfl,?_⟩
 refine (c_slContains sg G t w3 k3.giv.lst (by omega)).mono ?_
 rintro _ w3 ⟨r,rfl,rfl,rfl⟩
 refine ⟨_,rfl,Kept.refl _,fun hc2=>?_,fun hc2=>?_⟩
 ·have hnG:t ∉ G:=by simpa using hc2
  have hadd:Sp.addT G t=G++[t]:=if_neg hnG
  refine ⟨k,rfl,_,k3.box.cell rfl,?_⟩
  intro q w5 h5
  obtain ⟨s1,w6,hr6,X6,cw6,k6,E6,f6⟩:=k3.appG h5 (by omega)
  have hs5:Hst w0 H1 w5 H1 w5:=hs3.here.again (Ext.new h5:Pure w3 w5).keptP
  have sgn:∀b,sg.blk b→¬ H1 b:=fun b hb=>nh b (k0.lt (.inr (.inl hb)))
  have kk:Kept H1 w5 w6:=X6.kept (fun b hb hx=>sgn b hx hb)
  refine ⟨s1,w6,hr6,kk,k,rfl,cw6,by rw [add_block];exact nh _ k0.box.lt,?_⟩
  rintro _ rfl
  have z3:=E3.size
  have z5:w3.heap.size≤w5.heap.size:=(Ext.new h5:Pure w3 w5).size
  refine fin _ (KF k s1 m sl) (by rw [hadd];exact ⟨s1,m,sl,k6,fun b=>Iff.rfl⟩) ((E3.pure (F:=F)).trans (E6.mono (fun b _ hb=>(hF b).2 hb))) (fun b hb=>(f6 b hb).imp (hF b).2 (fun h=>by omega)) ((hs5.again kk).again (Kept.setCell (by rw [add_block];exact nh _ k0.box.lt))) (fun b hb hh=>?_)
  rcases f6 b hb with h1 | h1
  ·exact nh b (k0.lt h1) hh
  ·have:=hs3.lt b hh;omega
 ·have hG:t∈G:=by simpa using hc2
  have hadd:Sp.addT G t=G:=if_pos hG
  exact fin w3 F (by rw [hadd];exact ⟨sg,m,sl,k3,hF⟩) E3.pure (fun b hb=>.inl hb) hs3.here (fun b hb=>nh b (k0.lt ((hF b).1 hb)))
end Go.Proofs
end
section
open Go Go.SE
namespace Go.Sp
def gives (L:Pool) (ts:List Int):List Int:=ts.foldl (giveT L) []
def AllOk (L:Pool) (G:List Int) (fs:List Fact):Prop:=fs.Pairwise LtF∧∀x,x∈fs↔∃t,Seen L G t∧x∈ofS L t
theorem KnowOk.nil0 (L:Pool):KnowOk L [] []:=⟨⟨by simp [wkeys],by simp [wkeys],fun i hi=>by simp at hi⟩,by simp [wkeys],by simp,by simp⟩
theorem ofS_few (L:Pool) (t:Int):(ofS L t).length≤3:=by
 unfold ofS ofR factsS
 repeat' split
 all_goals simp
end Go.Sp
namespace Go.Proofs
attribute [local irreducible] Calls
theorem c_ev_All {S : NP} (p : Addr) (l : Sl) (ts : List Int) (w0 : World) {L : Sp.Pool} {F : NP} (hP : PoolAt w0 p L F) (hW : Sp.Wf L) (hs : Lst S w0 1 l (tmr ts)) (hn : ts.length ≤ 1000000) :
  Calls Tryz.prog 26 #[.pointer (some p),l.v] w0 (fun e w'=>∃r:Sl,e=.returned r.v∧∃fs,RetO w0 75 4 (fs.map frow) r w'∧Sp.AllOk L (Sp.gives L ts) fs∧fs.length≤200000):=by
 suffices key:∀K:Sl→WP,(∀r fs w',RetO w0 75 4 (fs.map frow) r w'→(Sp.AllOk L (Sp.gives L ts) fs∧fs.length≤200000)→K r w')→m_S (some p) l w0 K from
  w_S _ _ w0 _ (key _ (fun r fs w' h1 h2=>⟨fs,h1,h2⟩))
 intro K hK
 unfold m_S
 refine (c_ded_New p w0).mono ?_
 rintro _ w1 ⟨_,rfl,k,F1,rfl,hk1,E1,hF1⟩
 have hll:l.len=ts.length:=by rw [hs.len,tmr_len]
 refine ⟨_,rfl,fun i w'=>∃j:Nat,i=j∧j≤ts.length∧∃W FK,KnowAt w' k p (Sp.gives L (ts.take j)) W FK∧Sp.KnowOk L (Sp.gives L (ts.take j)) W∧(∀b,FK b→w0.heap.size≤b)∧Pure w0 w',fun i _=>((ts.length:Int) - i).toNat,⟨0,rfl,Nat.zero_le _,[],F1,hk1,Sp.KnowOk.nil0 L,hF1,E1⟩,?_⟩
 rintro _ wl ⟨j,rfl,hj,W,FK,hk,hok,hFK,El⟩
 unfold m_S_l1
 refine ⟨fun h=>?_,fun h=>?_⟩
 ·have hlt:=lt_of_dec hll h
  obtain ⟨a,hat,_,hv⟩:=tm_nth (hs.pure El) hlt
  refine ⟨a,hat,_,hv,?_⟩
  refine (c_ded_Add k p ts[j] wl hk (hP.pure El) hW (fun b hb hp=>by have:=hFK b hb;have:=hP.lt hp;omega) hok).mono ?_
  rintro _ w2 ⟨_,rfl,_,W',F',hk',hok',X,hF'⟩
  refine ⟨_,rfl,?_⟩
  rw [wrap_succ hlt (by omega)]
  have e:Sp.gives L (ts.take (j+1))=Sp.giveT L (Sp.gives L (ts.take j)) ts[j]:=by
   unfold Sp.gives;rw [List.take_succ_eq_append_getElem hlt,List.foldl_append];rfl
  exact ⟨⟨j+1,rfl,hlt,W',F',by rw [e];exact hk',by rw [e];exact hok',fun b hb=>(hF' b hb).elim (hFK b) (fun h=>by have:=El.size;omega),El.trans' X (fun i hi hf=>by have:=hFK i hf;omega)⟩,lt_dec hlt⟩
 have hge:=eq_of_dec hll hj h
 subst hge
 rw [List.take_length] at hk hok
 have hfew:(Sp.wkeys W).length≤65536:=by rw [Sp.wkeys_len];exact Nat.le_trans hok.toWaysOk.few hW.ok.few
 refine (c_ded_Seen k p wl hk (by omega)).mono ?_
 rintro _ w3 ⟨r3,rfl,q,hr3,hperm,_⟩
 have hql:q.length≤65536:=by rw [hperm.length_eq];exact hfew
 have hq3:r3.len=q.length:=by rw [hr3.rows.len,tmr_len]
 have E3:=El.trans hr3.pure
 have hsz3:=E3.size
 have hbl:∀j,((q.take j).flatMap (Sp.ofS L)).length≤3*j:=by
  intro j
  induction j with
  | zero=>simp
  | succ j ih =>
   by_cases hj:j<q.length
   ·rw [List.take_succ_eq_append_getElem hj,List.flatMap_append,List.length_append]
    have:=Sp.ofS_few L q[j]
    simp only [List.flatMap_cons,List.flatMap_nil,List.append_nil]
    omega
   ·rw [List.take_of_length_le (by omega)] at ih ⊢;omega
 refine ⟨r3,rfl,fun o i w'=>∃j:Nat,i=j∧j≤q.length∧Pure w3 w'∧(∀b,o.blk b→w3.heap.size≤b)∧Rws w' 75 4 o (((q.take j).flatMap (Sp.ofS L)).map frow),fun _ i _=>((q.length:Int) - i).toNat,⟨0,rfl,Nat.zero_le _,Ext.refl _,fun b h=>(by obtain ⟨a,h,_⟩:=h;cases h),Rws.nil _ _ _⟩,?_⟩
 rintro o _ w4 ⟨j,rfl,hj,E4,hown,Ro⟩
 unfold m_S_l2
 refine ⟨fun h=>?_,fun h=>?_⟩
 ·have hlt:=lt_of_dec hq3 h
  obtain ⟨a,hat,_,hv⟩:=tm_nth (hr3.rows.pure E4).lst hlt
  refine ⟨a,hat,_,hv,?_⟩
  refine (c_ev_Of (some p) q[j] w4 (hP.pure (E3.trans E4)) hW.ok).mono ?_
  rintro _ w5 ⟨r4,rfl,hr4⟩
  have b1:=hbl j
  have b2:=Sp.ofS_few L q[j]
  have E5:=E4.trans hr4.pure
  obtain ⟨s1,w6,hrun,hR,hE,hb⟩:=(Ro.pure hr4.pure).appendL (P:=Tryz.prog) slT_fact (ty:=71) hr4.rows.lst (frow_sz _) (frow_one _) (by rw [List.length_map,List.length_map];omega) (by rw [List.length_map,List.length_map];unfold maxLen;omega)
  refine ⟨r4,rfl,s1,w6,hrun,?_⟩
  rw [wrap_succ hlt (by omega)]
  have:=E5.size
  refine ⟨⟨j+1,rfl,hlt,E5.trans' hE (fun i hi h=>by have:=hown i h;omega),fun b h=>(hb b h).elim (hown b) (fun h=>by omega),?_⟩,lt_dec hlt⟩
  rw [List.take_succ_eq_append_getElem hlt,List.flatMap_append,List.map_append]
  simpa using hR
 have hge:=eq_of_dec hq3 hj h
 subst hge
 rw [List.take_length] at Ro
 have hb3:=hbl q.length
 rw [List.take_length] at hb3
 generalize hfs:q.flatMap (Sp.ofS L)=fs at *
 refine (c_SortFunc o fs w4 Ro (by omega)).mono ?_
 rintro _ w5 ⟨rfl,fs',hp',hsd,R5,E5⟩
 refine ⟨rfl,?_⟩
 refine (c_Compact o fs' w5 R5 (by rw [hp'.length_eq];omega)).mono ?_
 rintro _ w6 ⟨r,rfl,R6,E6,hb6⟩
 refine ⟨r,rfl,hK r (Sp.compF fs') w6 ⟨R6,fun b hb=>by have:=hown b (hb6 b hb);omega,?_⟩ ⟨⟨Sp.compF_sorted hsd,fun x=>?_⟩,by have:=Sp.compF_len fs';have:=hp'.length_eq;omega⟩⟩
 ·exact (E3.trans E4).trans' (E5.trans E6) (fun i hi h=>by have:=hown i h;omega)
 ·rw [Sp.mem_compF,hp'.mem_iff,← hfs,List.mem_flatMap]
  constructor
  ·rintro ⟨t,ht,hx⟩
   exact ⟨t,(hok.seen_iff t).1 (hperm.mem_iff.1 ht),hx⟩
  ·rintro ⟨t,ht,hx⟩
   exact ⟨t,hperm.mem_iff.2 ((hok.seen_iff t).2 ht),hx⟩
end Go.Proofs
end
section
namespace Go.Sp
inductive Good:Tree→Prop
 | mk (k f t u:Int) (x:ByteArray) (ks:List Tree) (own:ownErr ⟨k,f,t,u,x,0,0⟩ ks.length=0) (kids:∀i (hi:i<ks.length),Good ks[i]):Good (.mk k f t u x ks)
end Go.Sp
end
section
namespace Go.Sp
mutual
def cnt:Tree→Nat
 | .mk _ _ _ _ _ ks=>1+cntAll ks
def cntAll:List Tree→Nat
 | []=>0
 | t :: ts=>cnt t+cntAll ts
end
mutual
def parts (most:Int):Tree→Int
 | .mk _ _ _ _ _ ks=>partsAll most 1 ks
def partsAll (most n:Int):List Tree→Int
 | []=>n
 | t :: ts=>if n≤most then partsAll most (n+parts (most - n) t) ts else n
end
theorem parts_facts (t:Tree):∀most:Int,0≤most→1≤parts most t∧parts most t≤most+1∧(parts most t≤most→(cnt t:Int)=parts most t):=by
 induction t using Tree.ind with
 | h k f tt u x ks ih =>
  have hA : ∀ (ks : List Tree), (∀ i (hi : i < ks.length), ∀ most : Int, 0 ≤ most → 1 ≤ parts most ks[i] ∧ parts most ks[i] ≤ most + 1 ∧ (parts most ks[i] ≤ most → (cnt ks[i] : Int) = parts most ks[i])) →
    ∀most n:Int,1≤n→n≤most+1→n≤partsAll most n ks∧partsAll most n ks≤most+1∧(partsAll most n ks≤most→n+(cntAll ks:Int)=partsAll most n ks):=by
   intro ks
   induction ks with
   | nil=>intro _ most n h1 h2;simp [partsAll,cntAll,h2]
   | cons t ts iht =>
    intro hh most n h1 h2
    unfold partsAll
    by_cases hn:n≤most
    ·rw [if_pos hn]
     have h0:=hh 0 (by simp) (most - n) (by omega)
     simp only [List.getElem_cons_zero] at h0
     have h3:=iht (fun i hi=>hh (i+1) (by simpa using hi)) most (n+parts (most - n) t) (by omega) (by omega)
     refine ⟨by omega,h3.2.1,fun h=>?_⟩
     have h4:=h3.2.2 h
     have h5:=h0.2.2 (by omega)
     simp only [cntAll];omega
    ·rw [if_neg hn];exact ⟨Int.le_refl _,h2,fun h=>absurd h hn⟩
  intro most hm
  have:=hA ks ih most 1 (by omega) (by omega)
  simp only [parts,cnt]
  refine ⟨this.1,this.2.1,fun h=>?_⟩
  have:=this.2.2 h
  omega
mutual
def same:Tree→Tree→Bool
 | .mk k f t u x ks,.mk k' f' t' u' x' ks'=>decide (k=k') && decide (f=f') && decide (t=t') && decide (u=u') && decide (x=x') && sameAll ks ks'
def sameAll:List Tree→List Tree→Bool
 | [],[]=>true
 | t :: ts,t' :: ts'=>same t t' && sameAll ts ts'
 | _,_=>false
end
end Go.Sp
end
section
namespace Go.Sp
def isSigned (k:Int):Bool:=(k == 1 || k == 2) || k == 4
def isTexted (k:Int):Bool:=isSigned k || k == 6
def letErr (l:Letter):Int :=
 if l.kind<1∨l.kind>7∨(l.frm≠0∧l.frm≠1)∨(isSigned l.kind=false∧l.frm≠0)∨(isTexted l.kind=false∧l.text≠⟨#[]⟩)∨(l.fake=true∧l.kind≠1∧l.kind≠4) then 110 else if l.text.size>64 then 1 else 0
end Go.Sp
end
section
open Go Go.SE
open Go.IntKind renaming i64 → q6
namespace Go.Proofs
set_option maxRecDepth 100000
set_option maxHeartbeats 4000000
attribute [local irreducible] wpL wpX opE wpE Calls
def m_G3  (w0:World) (K:(Array Value)→WP):Prop :=
 ∀(p1:Addr) (w1:World),New w0 (.cells #[(vb false),(vb false),(vb false),(vs ⟨#[]⟩),(vb false),(vb false),(vb false),(vs ⟨#[]⟩),(vb false),(vb false),(vb false),(vs ⟨#[]⟩),(vb false),(vb false),(vb false),(vs ⟨#[]⟩),(vb false),(vb false),(vb false),(vs ⟨#[]⟩),(vb false),(vb false),(vb false),(vs ⟨#[]⟩),(vb false),(vb false),(vb false),(vs ⟨#[]⟩),(vb false),(vb false),(vb false),(vs ⟨#[]⟩)] 302) p1 w1 →
 (∀j,j<32→CanW w1 (p1.add j))∧∀w2:World,w2=storeRow w1 p1 [(vb false),(vb false),(vb false),(vs ⟨#[]⟩),(vb true),(vb true),(vb true),(vs (⟨#[112,114,111,109,105,115,101]⟩:ByteArray)),(vb true),(vb true),(vb false),(vs (⟨#[115,105,103,110]⟩:ByteArray)),(vb false),(vb false),(vb false),(vs (⟨#[97,98,111,114,116]⟩:ByteArray)),(vb true),(vb true),(vb true),(vs (⟨#[114,101,115,111,108,118,101]⟩:ByteArray)),(vb false),(vb false),(vb false),(vs (⟨#[116,111,107,101,110]⟩:ByteArray)),(vb false),(vb true),(vb false),(vs (⟨#[105,110,115,116,101,97,100]⟩:ByteArray)),(vb false),(vb false),(vb false),(vs (⟨#[102,117,108,108]⟩:ByteArray))] →
 ∃cT:Array Value,(cT.size=32∧Row w2 p1 cT.toList) ∧
 K cT w2
theorem w_G3  (w0 : World) (K : (Array Value) → WP) (h : m_G3  w0 K) :
  Calls Tryz.prog 193 #[] w0 (fun e w'=>∃r1:Array Value,e=.returned (.agg r1)∧K r1 w'):=by
 unfold m_G3 at h
 refine cw (args:=[]) Tryz.func193 Tryz.ntmps193 (eg (sn (O:=(.cells #[(vb false),(vb false),(vb false),(vs ⟨#[]⟩),(vb false),(vb false),(vb false),(vs ⟨#[]⟩),(vb false),(vb false),(vb false),(vs ⟨#[]⟩),(vb false),(vb false),(vb false),(vs ⟨#[]⟩),(vb false),(vb false),(vb false),(vs ⟨#[]⟩),(vb false),(vb false),(vb false),(vs ⟨#[]⟩),(vb false),(vb false),(vb false),(vs ⟨#[]⟩),(vb false),(vb false),(vb false),(vs ⟨#[]⟩)] 302)) (x_alloc (Tryz.zeroValue302 _) rfl) ?_))
 intro p1 w1 hn2
 have h:=h p1 w1 hn2
 refine ln (eg (q0 (.agg #[(vb true),(vb true),(vb true),(vs (⟨#[112,114,111,109,105,115,101]⟩:ByteArray))]) (q0 (.agg #[(vb true),(vb true),(vb false),(vs (⟨#[115,105,103,110]⟩:ByteArray))]) (q0 (.agg #[(vb false),(vb false),(vb false),(vs (⟨#[97,98,111,114,116]⟩:ByteArray))]) (q0 (.agg #[(vb true),(vb true),(vb true),(vs (⟨#[114,101,115,111,108,118,101]⟩:ByteArray))]) (q0 (.agg #[(vb false),(vb false),(vb false),(vs (⟨#[116,111,107,101,110]⟩:ByteArray))]) (q0 (.agg #[(vb false),(vb true),(vb false),(vs (⟨#[105,110,115,116,101,97,100]⟩:ByteArray))]) (q0 (.agg #[(vb false),(vb false),(vb false),(vs (⟨#[102,117,108,108]⟩:ByteArray))]) (q0 (.agg #[(vb false),(vb false),(vb false),(vs ⟨#[]⟩),(vb true),(vb true),(vb true),(vs (⟨#[112,114,111,109,105,115,101]⟩:ByteArray)),(vb true),(vb true),(vb false),(vs (⟨#[115,105,103,110]⟩:ByteArray)),(vb false),(vb false),(vb false),(vs (⟨#[97,98,111,114,116]⟩:ByteArray)),(vb true),(vb true),(vb true),(vs (⟨#[114,101,115,111,108,118,101]⟩:ByteArray)),(vb false),(vb false),(vb false),(vs (⟨#[116,111,107,101,110]⟩:ByteArray)),(vb false),(vb true),(vb false),(vs (⟨#[105,110,115,116,101,97,100]⟩:ByteArray)),(vb false),(vb false),(vb false),(vs (⟨#[102,117,108,108]⟩:ByteArray))]) ?_)))))))))
 obtain ⟨hp1,h⟩:=h
 refine st_set (want0 rfl) (xo p1 [(vb false),(vb false),(vb false),(vs ⟨#[]⟩),(vb true),(vb true),(vb true),(vs (⟨#[112,114,111,109,105,115,101]⟩:ByteArray)),(vb true),(vb true),(vb false),(vs (⟨#[115,105,103,110]⟩:ByteArray)),(vb false),(vb false),(vb false),(vs (⟨#[97,98,111,114,116]⟩:ByteArray)),(vb true),(vb true),(vb true),(vs (⟨#[114,101,115,111,108,118,101]⟩:ByteArray)),(vb false),(vb false),(vb false),(vs (⟨#[116,111,107,101,110]⟩:ByteArray)),(vb false),(vb true),(vb false),(vs (⟨#[105,110,115,116,101,97,100]⟩:ByteArray)),(vb false),(vb false),(vb false),(vs (⟨#[102,117,108,108]⟩:ByteArray))] (Tryz.sizeOf302 _) hp1) ?_
 intro w2 hn1
 have h:=h w2 hn1
 refine ln (er ?_)
 obtain ⟨cT,hv1,h⟩:=h
 refine resG (.inl rfl) (vs:=[(.agg cT)]) (v:=(.agg cT)) Tryz.results193 ⟨(RV.cellAr (A:=p1) (vs:=cT) (by kernel_rfl) (Tryz.isAgg302 _) (Tryz.sizeOf302 _) hv1),trivial⟩ (by kernel_rfl) ?_
 exact ⟨cT,rfl,h⟩
def m_L_j3 (aC:ByteArray) (aD:Bool) (a1:Addr) (x2:Bool) (w0:World) (H:NP) (w:World) (K:Int→WP):Prop :=
 Br x2
  (K 110 w)
  (∃v1:Bool,w.cell? (a1.add 2)=some (vb v1) ∧
  Br ((!v1) && aD)
   (∀(H6:NP) (w6:World),Hst w0 H w H6 w6 →
   K 110 w6)
   (Br (decide ((aC.size:Int)>64))
    (∀(H6:NP) (w6:World),Hst w0 H w H6 w6 →
    K 1 w6)
    (∀(H6:NP) (w6:World),Hst w0 H w H6 w6 →
    K 0 w6)))
def m_L_j2 (aC:ByteArray) (aD:Bool) (a1:Addr) (x1:Bool) (w0:World) (H:NP) (w:World) (K:Int→WP):Prop :=
 Br x1
  (K 110 w)
  (∃v2:Bool,w.cell? (a1.add 1)=some (vb v2) ∧
  ∀(H7:NP) (w7:World),Hst w0 H w H7 w7 →
  m_L_j3 aC aD a1 ((!v2) && (!(decide (aC=⟨#[]⟩)))) w0 H7 w7 K)
def m_L_j1 (aB:Int) (aC:ByteArray) (aD:Bool) (a1:Addr) (w0:World) (H:NP) (w:World) (K:Int→WP):Prop :=
 Br ((aB != 0) && (aB != 1))
  (∀(H4:NP) (w4:World),Hst w0 H w H4 w4 →
  K 110 w4)
  (∀(H4:NP) (w4:World),Hst w0 H w H4 w4 →
  ∃v3:Bool,w4.cell? a1=some (vb v3) ∧
  ∀(H8:NP) (w8:World),Hst w0 H4 w4 H8 w8 →
  m_L_j2 aC aD a1 ((!v3) && (aB != 0)) w0 H8 w8 K)
def m_L (aA aB aE:Int) (aC:ByteArray) (aD:Bool) (w0:World) (K:Int→WP):Prop :=
 Br ((decide (aA<1)) || (decide (aA>7)))
  (∀(H2:NP) (w2:World),Hst w0 None w0 H2 w2 →
  K 110 w2)
  (∀(H2:NP) (w2:World),Hst w0 None w0 H2 w2 →
  ∃C1:WP,C1 w2.drew∧∀w9,w9=w2.drew →
  (Calls Tryz.prog 193 #[] w9 (fun e w10=>∃r1:Array Value,e=.returned (.agg r1)∧C1 w10∧
   Kept H2 w9 w10 ∧
   ∃efrom1 etext1 efake1:Bool,∃eword1:ByteArray,(∀w',C1 w'→(Instr.index 302 (.agg r1) (vi aA)).run Tryz.prog w'=.ok (.agg #[(vb efrom1),(vb etext1),(vb efake1),(vs eword1)]) w') ∧
   ∀(p2:Addr) (w11:World),New w10 (.cells #[(vb false),(vb false),(vb false),(vs ⟨#[]⟩)] 301) p2 w11→C1 w11 ∧
   (∀j,j<4→CanW w11 (p2.add j))∧¬ H2 p2.block∧∀w12:World,w12=storeRow w11 p2 [(vb efrom1),(vb etext1),(vb efake1),(vs eword1)] →
   m_L_j1 aB aC aD p2 w0 H2 w12 K)) ∧
  (∀(p3:Addr) (w13:World),New w9 (.cells #[(vb false),(vb false),(vb false),(vs ⟨#[]⟩)] 301) p3 w13→C1 w13 ∧
  Calls Tryz.prog 193 #[] w13 (fun e w14=>∃r2:Array Value,e=.returned (.agg r2)∧C1 w14∧
   Kept H2 w13 w14 ∧
   ∃efrom2 etext2 efake2:Bool,∃eword2:ByteArray,(∀w',C1 w'→(Instr.index 302 (.agg r2) (vi aA)).run Tryz.prog w'=.ok (.agg #[(vb efrom2),(vb etext2),(vb efake2),(vs eword2)]) w') ∧
   (∀j,j<4→CanW w14 (p3.add j))∧¬ H2 p3.block∧∀w15:World,w15=storeRow w14 p3 [(vb efrom2),(vb etext2),(vb efake2),(vs eword2)] →
   m_L_j1 aB aC aD p3 w0 H2 w15 K)))
theorem w_L (aA aB aE : Int) (aC : ByteArray) (aD : Bool) (w0 : World) (K : Int → WP) (h : m_L aA aB aE aC aD w0 K) :
  Calls Tryz.prog 142 #[(.agg #[(vi aA),(vi aB),(vu aE),(vs aC),(vb aD)])] w0 (fun e w'=>∃r3:Int,e=.returned (vi r3)∧K r3 w'):=by
 unfold m_L at h
 refine cw (args:=[(.agg #[(vi aA),(vi aB),(vu aE),(vs aC),(vb aD)])]) Tryz.func142 Tryz.ntmps142 ?_
 have hs:=Hst.start w0
 have hb:=HB.nil None w0
 refine eg (sn (O:=(.cells #[(vi aA),(vi aB),(vu aE),(vs aC),(vb aD)] 35)) xb ?_)
 intro p1 w1 hn1
 obtain ⟨H1,hs,hb⟩:=hs.alloc hb hn1
 refine q0 (vi 0) (ln (wpE_seq (wpE_seq ?_)))
 refine wpE_via (fun ρ wJ=>∃b1'0:Bool,∃HJ:NP,((decide (aA<1))=b1'0)∧Hst w0 None w0 HJ wJ∧HB HJ wJ [(p1,[(vi aA),(vi aB),(vu aE),(vs aC),(vb aD)],35)]∧Has ρ [(1,(vp (some p1))),(11,(vb (b1'0 || (decide (aA>7)))))]) ?_ ?_
 refine rg (q0 (vp (some p1)) (q2 (vi aA) (xl (Tryz.isAgg3 _) (hb.c0 0 gZ)) (q0 (vb (decide (aA<1))) (q0 (vb (decide (aA<1))) ?_))))
 rcases Bool.eq_false_or_eq_true (decide (aA<1)) with hg2 | hg2
 refine sk (yD 7 hg2) (sk (yD 7 hg2) (sk (yD 7 hg2) (q2 (vb true) (xT hg2) (ln ?_))))
 exact ⟨true,_,hg2,hs,hb,hm⟩
 refine q1 (vp (some p1)) (wy 7 hg2) (stp (v:=(vi aA)) (wy 7 hg2) (xl (Tryz.isAgg3 _) (hb.c0 0 gZ)) (q1 (vb (decide (aA>7))) (wy 7 hg2) (q2 (vb (decide (aA>7))) (xF hg2) (ln ?_))))
 exact ⟨false,_,hg2,hs,hb,hm⟩
 rintro ρ w2 ⟨b1'0,H2,he0,hs,hb,hH⟩
 subst he0
 refine norm_has hH ?_
 refine th_n ?_
 refine wpE_cond (t:=((decide (aA<1)) || (decide (aA>7)))) (by kernel_rfl) (fun hc1=>?_) (fun hc1=>?_)
 have h:=h.1 hc1
 refine eg (q0 (vi 110) (ln (er (th_r ?_))))
 have h:=h H2 w2 hs
 have hs:=hs.here
 refine rs1 Tryz.results142 (v:=(vi 110)) ?_
 exact ⟨110,rfl,h⟩
 have h:=h.2 hc1
 refine wpE_skip (th_n (wpE_seq ?_))
 refine wpE_joinT (fun ρ w=>∃a1:Addr,∃H:NP,Has ρ [(1,(vp (some p1))),(3,(vp (some a1)))]∧Hst w0 H w H w∧HB H w [(p1,[(vi aA),(vi aB),(vu aE),(vs aC),(vb aD)],35)]∧m_L_j1 aB aC aD a1 w0 H w K) ?_ ?_
 rintro ρ w ⟨a1,H,hH,hs,hb,h⟩
 unfold m_L_j1 at h
 refine wpE_has hH ?_
 refine wpE_seq (wpE_block (wpE_seq (wpE_seq ?_)))
 refine wpE_via (fun ρ wJ=>∃HJ:NP,Hst w0 H w HJ wJ∧HB HJ wJ [(p1,[(vi aA),(vi aB),(vu aE),(vs aC),(vb aD)],35)]∧Has ρ [(1,(vp (some p1))),(3,(vp (some a1))),(16,(vb ((aB != 0) && (aB != 1))))]) ?_ ?_
 refine rg (q0 (vp (some (p1.add 1))) (q2 (vi aB) (xl (Tryz.isAgg3 _) (hb.c 0 1 gZ)) (q0 (vb (aB != 0)) (q0 (vb (aB != 0)) ?_))))
 refine wpL_join 4 (fun ρ wJ=>∃b4'0:Bool,∃HJ:NP,((aB != 0)=b4'0)∧Hst w0 H w HJ wJ∧HB HJ wJ [(p1,[(vi aA),(vi aB),(vu aE),(vs aC),(vb aD)],35)]∧Has ρ [(1,(vp (some p1))),(3,(vp (some a1))),(24,(vb (b4'0 && (aB != 1))))]) ?_ ?_
 rintro ρ w5 ⟨b4'0,H5,he0,hs,hb,hH⟩
 subst he0
 refine wpL_has hH ?_
 refine q0 (vb ((aB != 0) && (aB != 1))) (ln ?_)
 exact ⟨_,hs,hb,hm⟩
 rcases Bool.eq_false_or_eq_true (aB != 0) with hg6 | hg6
 refine q1 (vp (some (p1.add 1))) (wy 20 hg6) (stp (v:=(vi aB)) (wy 20 hg6) (xl (Tryz.isAgg3 _) (hb.c 0 1 gZ)) (q1 (vb (aB != 1)) (wy 20 hg6) (q2 (vb (aB != 1)) (xT hg6) (wpL_nil ?_))))
 exact ⟨true,_,hg6,hs,hb,hm⟩
 refine sk (yD 20 hg6) (sk (yD 20 hg6) (sk (yD 20 hg6) (q2 (vb false) (xF hg6) (wpL_nil ?_))))
 exact ⟨false,_,hg6,hs,hb,hm⟩
 rintro ρ w4 ⟨H4,hs,hb,hH⟩
 refine norm_has hH ?_
 refine th_n ?_
 refine wpE_cond (t:=((aB != 0) && (aB != 1))) (by kernel_rfl) (fun hc2=>?_) (fun hc2=>?_)
 have h:=h.1 hc2
 refine wpE_skip (th_n (wpE_condT' (t:=((aB != 0) && (aB != 1))) (by kernel_rfl) hc2 (eg (q0 (vi 110) (ln (er (bl_r (th_r ?_))))))))
 have h:=h H4 w4 hs
 have hs:=hs.here
 refine rs1 Tryz.results142 (v:=(vi 110)) ?_
 exact ⟨110,rfl,h⟩
 have h:=h.2 hc2
 refine wpE_seq ?_
 refine wpE_joinT (fun ρ w=>∃x1:Bool,∃H:NP,Has ρ [(1,(vp (some p1))),(3,(vp (some a1))),(16,(vb x1))]∧Hst w0 H w H w∧HB H w [(p1,[(vi aA),(vi aB),(vu aE),(vs aC),(vb aD)],35)]∧m_L_j2 aC aD a1 x1 w0 H w K) ?_ ?_
 rintro ρ w ⟨x1,H,hH,hs,hb,h⟩
 unfold m_L_j2 at h
 refine wpE_has hH ?_
 refine wpE_cond (t:=x1) (by kernel_rfl) (fun hc3=>?_) (fun hc3=>?_)
 have h:=h.1 hc3
 refine wpE_skip (th_n (wpE_condT' (t:=x1) (by kernel_rfl) hc3 (eg (q0 (vi 110) (ln (er (bl_r (th_r (rs1 Tryz.results142 (v:=(vi 110)) ?_)))))))))
 exact ⟨110,rfl,h⟩
 have h:=h.2 hc3
 refine wpE_seq ?_
 refine wpE_joinT (fun ρ w=>∃x2:Bool,∃H:NP,Has ρ [(1,(vp (some p1))),(3,(vp (some a1))),(16,(vb x2))]∧Hst w0 H w H w∧HB H w [(p1,[(vi aA),(vi aB),(vu aE),(vs aC),(vb aD)],35)]∧m_L_j3 aC aD a1 x2 w0 H w K) ?_ ?_
 rintro ρ w ⟨x2,H,hH,hs,hb,h⟩
 unfold m_L_j3 at h
 refine wpE_has hH ?_
 refine wpE_cond (t:=x2) (by kernel_rfl) (fun hc4=>?_) (fun hc4=>?_)
 have h:=h.1 hc4
 refine wpE_skip (th_n (wpE_condT' (t:=x2) (by kernel_rfl) hc4 (eg (q0 (vi 110) (ln (er (bl_r (th_r (rs1 Tryz.results142 (v:=(vi 110)) ?_)))))))))
 exact ⟨110,rfl,h⟩
 have h:=h.2 hc4
 refine rg (q0 (vp (some (a1.add 2))) ?_)
 obtain ⟨v1,hv1,h⟩:=h
 refine q2 (vb v1) (xl (Tryz.isAgg4 _) hv1) (q0 (vb (!v1)) (q0 (vb (!v1)) ?_))
 refine wpL_join 3 (fun ρ wJ=>∃b5'0:Bool,∃HJ:NP,((!v1)=b5'0)∧Hst w0 H w HJ wJ∧HB HJ wJ [(p1,[(vi aA),(vi aB),(vu aE),(vs aC),(vb aD)],35)]∧Has ρ [(1,(vp (some p1))),(47,(vb (b5'0 && aD)))]) ?_ ?_
 rintro ρ w6 ⟨b5'0,H6,he0,hs,hb,hH⟩
 subst he0
 refine wpL_has hH ?_
 refine q0 (vb ((!v1) && aD)) (ln ?_)
 refine wpE_cond (t:=((!v1) && aD)) (by kernel_rfl) (fun hc5=>?_) (fun hc5=>?_)
 have h:=h.1 hc5
 refine eg (q0 (vi 110) (ln (er (bl_r (th_r ?_)))))
 have h:=h H6 w6 hs
 have hs:=hs.here
 refine rs1 Tryz.results142 (v:=(vi 110)) ?_
 exact ⟨110,rfl,h⟩
 have h:=h.2 hc5
 refine eg (q0 (vp (some (p1.add 3))) (q2 (vs aC) (xl (Tryz.isAgg9 _) (hb.c 0 3 gZ)) (q0 (vi (aC.size:Int)) (q0 (vb (decide ((aC.size:Int)>64))) (q0 (vb (decide ((aC.size:Int)>64))) (ln ?_))))))
 refine wpE_cond (t:=(decide ((aC.size:Int)>64))) (by kernel_rfl) (fun hc6=>?_) (fun hc6=>?_)
 have h:=h.1 hc6
 refine eg (q0 (vi 1) (ln (er (bl_r (th_r ?_)))))
 have h:=h H6 w6 hs
 have hs:=hs.here
 refine rs1 Tryz.results142 (v:=(vi 1)) ?_
 exact ⟨1,rfl,h⟩
 have h:=h.2 hc6
 refine wpE_skip (bl_n (th_n (eg (q0 (vi 0) (ln (er ?_))))))
 have h:=h H6 w6 hs
 have hs:=hs.here
 refine rs1 Tryz.results142 (v:=(vi 0)) ?_
 exact ⟨0,rfl,h⟩
 rcases Bool.eq_false_or_eq_true (!v1) with hg8 | hg8
 refine q1 (vp (some (p1.add 4))) (wy 44 hg8) (stp (v:=(vb aD)) (wy 44 hg8) (xl (Tryz.isAgg4 _) (hb.c 0 4 gZ)) (q2 (vb aD) (xT hg8) (wpL_nil ?_)))
 exact ⟨true,_,hg8,hs,hb,hm⟩
 refine sk (yD 44 hg8) (sk (yD 44 hg8) (q2 (vb false) (xF hg8) (wpL_nil ?_)))
 exact ⟨false,_,hg8,hs,hb,hm⟩
 refine rg (q0 (vp (some (a1.add 1))) ?_)
 obtain ⟨v2,hv2,h⟩:=h
 refine q2 (vb v2) (xl (Tryz.isAgg4 _) hv2) (q0 (vb (!v2)) (q0 (vb (!v2)) ?_))
 refine wpL_join 4 (fun ρ wJ=>∃b6'0:Bool,∃HJ:NP,((!v2)=b6'0)∧Hst w0 H w HJ wJ∧HB HJ wJ [(p1,[(vi aA),(vi aB),(vu aE),(vs aC),(vb aD)],35)]∧Has ρ [(1,(vp (some p1))),(3,(vp (some a1))),(40,(vb (b6'0 && (!(decide (aC=⟨#[]⟩))))))]) ?_ ?_
 rintro ρ w7 ⟨b6'0,H7,he0,hs,hb,hH⟩
 subst he0
 refine wpL_has hH ?_
 refine q0 (vb ((!v2) && (!(decide (aC=⟨#[]⟩))))) (wpL_nil ?_)
 have h:=h H7 w7 hs
 have hs:=hs.here
 refine th_n ?_
 exact ⟨((!v2) && (!(decide (aC=⟨#[]⟩)))),H7,hm,hs,hb,h⟩
 rcases Bool.eq_false_or_eq_true (!v2) with hg10 | hg10
 refine q1 (vp (some (p1.add 3))) (wy 36 hg10) (stp (v:=(vs aC)) (wy 36 hg10) (xl (Tryz.isAgg9 _) (hb.c 0 3 gZ)) (stp (v:=(vb (!(decide (aC=⟨#[]⟩))))) (wy 36 hg10) (x_strneq (by kernel_rfl) (by kernel_rfl)) (q2 (vb (!(decide (aC=⟨#[]⟩)))) (xT hg10) (wpL_nil ?_))))
 exact ⟨true,_,hg10,hs,hb,hm⟩
 refine sk (yD 36 hg10) (sk (yD 36 hg10) (sk (yD 36 hg10) (q2 (vb false) (xF hg10) (wpL_nil ?_))))
 exact ⟨false,_,hg10,hs,hb,hm⟩
 refine rg (q0 (vp (some a1)) ?_)
 have h:=h H4 w4 hs
 have hs:=hs.here
 obtain ⟨v3,hv3,h⟩:=h
 refine q2 (vb v3) (xl (Tryz.isAgg4 _) hv3) (q0 (vb (!v3)) (q0 (vb (!v3)) ?_))
 refine wpL_join 4 (fun ρ wJ=>∃b7'0:Bool,∃HJ:NP,((!v3)=b7'0)∧Hst w0 H4 w4 HJ wJ∧HB HJ wJ [(p1,[(vi aA),(vi aB),(vu aE),(vs aC),(vb aD)],35)]∧Has ρ [(1,(vp (some p1))),(3,(vp (some a1))),(32,(vb (b7'0 && (aB != 0))))]) ?_ ?_
 rintro ρ w8 ⟨b7'0,H8,he0,hs,hb,hH⟩
 subst he0
 refine wpL_has hH ?_
 refine q0 (vb ((!v3) && (aB != 0))) (wpL_nil ?_)
 have h:=h H8 w8 hs
 have hs:=hs.here
 refine th_n ?_
 exact ⟨((!v3) && (aB != 0)),H8,hm,hs,hb,h⟩
 rcases Bool.eq_false_or_eq_true (!v3) with hg12 | hg12
 refine q1 (vp (some (p1.add 1))) (wy 28 hg12) (stp (v:=(vi aB)) (wy 28 hg12) (xl (Tryz.isAgg3 _) (hb.c 0 1 gZ)) (q1 (vb (aB != 0)) (wy 28 hg12) (q2 (vb (aB != 0)) (xT hg12) (wpL_nil ?_))))
 exact ⟨true,_,hg12,hs,hb,hm⟩
 refine sk (yD 28 hg12) (sk (yD 28 hg12) (sk (yD 28 hg12) (q2 (vb false) (xF hg12) (wpL_nil ?_))))
 exact ⟨false,_,hg12,hs,hb,hm⟩
 have h:=h H2 w2 hs
 have hs:=hs.here
 obtain ⟨C1,hC,h⟩:=h
 refine wpE_drawnC (fun x=>C1 x∧HB H2 x [(p1,[(vi aA),(vi aB),(vu aE),(vs aC),(vb aD)],35)]) [0,4,5] [5] (by kernel_rfl) (by kernel_rfl) (by kernel_rfl) (by kernel_rfl) ⟨hC,hb.drew⟩ ?_
 intro w9 hw9
 have h:=h w9 hw9
 have hs:Hst w0 H2 w2 H2 w9:=by rw [hw9];exact hs.drew
 have hb:HB H2 w9 [(p1,[(vi aA),(vi aB),(vu aE),(vs aC),(vb aD)],35)]:=by rw [hw9];exact hb.drew
 have hs:=hs.here
 refine qx 1 (vp (some p1)) Kp1 (qz 2 (vi aA) Kp2 (fun w' hw'=>(xl (Tryz.isAgg3 _) (hw'.2.cell0 0 gZ (by kernel_rfl)))) ?_)
 refine lgo2 (k:=0) (k':=4) (by kernel_rfl) ?_ ?_
 have h:=h.1
 refine sl_call Kp0 (want0 rfl) (by kernel_rfl) (xc Tryz.call193) (h.mono ?_)
 rintro e w10 ⟨r1,rfl,hC,hk,h⟩
 refine ⟨_,rfl,.inr ⟨hC,hb.kept hk⟩,?_⟩
 obtain ⟨hs,hb⟩:=hk.hh hs hb
 refine qg 3 ?_
 obtain ⟨efrom1,etext1,efake1,eword1,hv4,h⟩:=h
 refine sy (v:=(.agg #[(vb efrom1),(vb etext1),(vb efake1),(vs eword1)])) Kp3 (fun w' hw'=>(x_index (by kernel_rfl) (by kernel_rfl) (hv4 w' hw'.1))) (lg 4 (sl_new (O:=(.cells #[(vb false),(vb false),(vb false),(vs ⟨#[]⟩)] 301)) (fun p=>.pointer (some p)) Kp4 (want0 rfl) (by kernel_rfl) (x_alloc (Tryz.zeroValue301 _) rfl) ?_))
 intro p2 w11 hn3
 have h:=h p2 w11 hn3
 refine ⟨.inr ⟨h.1,hb.kept (Ext.new (F:=None) hn3).keptP⟩,?_⟩
 have h:=h.2
 have hs:=hs.again (Ext.new (F:=None) hn3).keptP
 have hb:=hb.kept (Ext.new (F:=None) hn3).keptP
 refine lg 5 ?_
 obtain ⟨hp1,hnh,h⟩:=h
 refine sl_set Kp5 (want0 rfl) (by kernel_rfl) (xo p2 [(vb efrom1),(vb etext1),(vb efake1),(vs eword1)] (Tryz.sizeOf301 _) hp1) ?_
 intro w12 hn2
 have h:=h w12 hn2
 refine ⟨.inl (by kernel_rfl),?_⟩
 have hk:Kept H2 w11 w12:=by rw [hn2];exact Kept.storeRow hnh
 obtain ⟨hs,hb⟩:=hk.hh hs hb
 refine wn (th_n ?_)
 exact ⟨p2,H2,hm,hs,hb,h⟩
 have h:=h.2
 refine sl_new (O:=(.cells #[(vb false),(vb false),(vb false),(vs ⟨#[]⟩)] 301)) (fun p=>.pointer (some p)) Kp4 (want0 rfl) (by kernel_rfl) (x_alloc (Tryz.zeroValue301 _) rfl) ?_
 intro p3 w13 hn5
 have h:=h p3 w13 hn5
 refine ⟨.inr ⟨h.1,hb.kept (Ext.new (F:=None) hn5).keptP⟩,?_⟩
 have h:=h.2
 have hs:=hs.again (Ext.new (F:=None) hn5).keptP
 have hb:=hb.kept (Ext.new (F:=None) hn5).keptP
 refine lg 0 ?_
 refine sl_call Kp0 (want0 rfl) (by kernel_rfl) (xc Tryz.call193) (h.mono ?_)
 rintro e w14 ⟨r2,rfl,hC,hk,h⟩
 refine ⟨_,rfl,.inr ⟨hC,hb.kept hk⟩,?_⟩
 obtain ⟨hs,hb⟩:=hk.hh hs hb
 refine qg 3 ?_
 obtain ⟨efrom2,etext2,efake2,eword2,hv5,h⟩:=h
 refine sy (v:=(.agg #[(vb efrom2),(vb etext2),(vb efake2),(vs eword2)])) Kp3 (fun w' hw'=>(x_index (by kernel_rfl) (by kernel_rfl) (hv5 w' hw'.1))) (lg 5 ?_)
 obtain ⟨hp2,hnh,h⟩:=h
 refine sl_set Kp5 (want0 rfl) (by kernel_rfl) (xo p3 [(vb efrom2),(vb etext2),(vb efake2),(vs eword2)] (Tryz.sizeOf301 _) hp2) ?_
 intro w15 hn4
 have h:=h w15 hn4
 refine ⟨.inl (by kernel_rfl),?_⟩
 have hk:Kept H2 w14 w15:=by rw [hn4];exact Kept.storeRow hnh
 obtain ⟨hs,hb⟩:=hk.hh hs hb
 refine wn (th_n ?_)
 exact ⟨p3,H2,hm,hs,hb,h⟩
def s_Q (s1:ByteArray):Int×Int×Int×Int×ByteArray×Sl :=
 (3,0,0,0,s1,Sl.nil)
theorem pw_Q (s1 : ByteArray) (w0 : World) :
  Calls Tryz.prog 198 #[(vs s1)] w0 (fun e w'=>(e=.returned (.agg #[(vi 3),(vi 0),(vi 0),(vu 0),(vs s1),Sl.nil.v]))∧Pure w0 w'):=by
 refine cw (args:=[(vs s1)]) Tryz.func198 Tryz.ntmps198 ?_
 have hs:=Hst.start w0
 have hb:=HB.nil None w0
 refine eg (sn (O:=(.cells #[(vi 0),(vi 0),(vi 0),(vu 0),(vs ⟨#[]⟩),Sl.nil.v] 107)) (x_alloc (Tryz.zeroValue107 _) rfl) ?_)
 intro p1 w1 hn1
 obtain ⟨H1,hs,hb⟩:=hs.alloc hb hn1
 refine ln (eg (q0 (vs s1) (q0 (.agg #[(vi 3),(vi 0),(vi 0),(vu 0),(vs s1),Sl.nil.v]) (st_set (want0 rfl) (xo p1 [(vi 3),(vi 0),(vi 0),(vu 0),(vs s1),Sl.nil.v] (Tryz.sizeOf107 _) (hb.k0 0 6 gZ)) ?_))))
 intro w2 hn2
 obtain ⟨hs,hb⟩:=hb.s0 (l':=[(p1,[(vi 3),(vi 0),(vi 0),(vu 0),(vs s1),Sl.nil.v],107)]) 0 [(vi 3),(vi 0),(vi 0),(vu 0),(vs s1),Sl.nil.v] hs hn2 gZ
 refine ln (er (resG (.inl rfl) (vs:=[(.agg #[(vi 3),(vi 0),(vi 0),(vu 0),(vs s1),Sl.nil.v])]) (v:=(.agg #[(vi 3),(vi 0),(vi 0),(vu 0),(vs s1),Sl.nil.v])) Tryz.results198 ⟨(rA (Tryz.isAgg107 _) (Tryz.sizeOf107 _) (hb.r0 0 6 gZ)),trivial⟩ (by kernel_rfl) ?_))
 exact ⟨by kernel_rfl,(Ext.refl (F:=None) _).hst hs⟩
theorem p_Q (s1:ByteArray) (w0:World):Calls Tryz.prog 198 #[(.string s1)] w0 (fun e w'=>e=.returned (.agg #[(.int .i64 (s_Q s1).1),(.int .i64 (s_Q s1).2.1),(.int .i64 (s_Q s1).2.2.1),(.int .u64 (s_Q s1).2.2.2.1),(.string (s_Q s1).2.2.2.2.1),(s_Q s1).2.2.2.2.2.v])∧Pure w0 w'):=pw_Q s1 w0
def s_W (n1:Int):Int×Int×Int×Int×ByteArray×Sl :=
 (2,0,0,n1,⟨#[]⟩,Sl.nil)
theorem pw_W (n1 : Int) (w0 : World) :
  Calls Tryz.prog 199 #[(vu n1)] w0 (fun e w'=>(e=.returned (.agg #[(vi 2),(vi 0),(vi 0),(vu n1),(vs ⟨#[]⟩),Sl.nil.v]))∧Pure w0 w'):=by
 refine cw (args:=[(vu n1)]) Tryz.func199 Tryz.ntmps199 ?_
 have hs:=Hst.start w0
 have hb:=HB.nil None w0
 refine eg (sn (O:=(.cells #[(vi 0),(vi 0),(vi 0),(vu 0),(vs ⟨#[]⟩),Sl.nil.v] 107)) (x_alloc (Tryz.zeroValue107 _) rfl) ?_)
 intro p1 w1 hn1
 obtain ⟨H1,hs,hb⟩:=hs.alloc hb hn1
 refine ln (eg (q0 (vu n1) (q0 (.agg #[(vi 2),(vi 0),(vi 0),(vu n1),(vs ⟨#[]⟩),Sl.nil.v]) (st_set (want0 rfl) (xo p1 [(vi 2),(vi 0),(vi 0),(vu n1),(vs ⟨#[]⟩),Sl.nil.v] (Tryz.sizeOf107 _) (hb.k0 0 6 gZ)) ?_))))
 intro w2 hn2
 obtain ⟨hs,hb⟩:=hb.s0 (l':=[(p1,[(vi 2),(vi 0),(vi 0),(vu n1),(vs ⟨#[]⟩),Sl.nil.v],107)]) 0 [(vi 2),(vi 0),(vi 0),(vu n1),(vs ⟨#[]⟩),Sl.nil.v] hs hn2 gZ
 refine ln (er (resG (.inl rfl) (vs:=[(.agg #[(vi 2),(vi 0),(vi 0),(vu n1),(vs ⟨#[]⟩),Sl.nil.v])]) (v:=(.agg #[(vi 2),(vi 0),(vi 0),(vu n1),(vs ⟨#[]⟩),Sl.nil.v])) Tryz.results199 ⟨(rA (Tryz.isAgg107 _) (Tryz.sizeOf107 _) (hb.r0 0 6 gZ)),trivial⟩ (by kernel_rfl) ?_))
 exact ⟨by kernel_rfl,(Ext.refl (F:=None) _).hst hs⟩
theorem p_W (n1:Int) (w0:World):Calls Tryz.prog 199 #[(.int .u64 n1)] w0 (fun e w'=>e=.returned (.agg #[(.int .i64 (s_W n1).1),(.int .i64 (s_W n1).2.1),(.int .i64 (s_W n1).2.2.1),(.int .u64 (s_W n1).2.2.2.1),(.string (s_W n1).2.2.2.2.1),(s_W n1).2.2.2.2.2.v])∧Pure w0 w'):=pw_W n1 w0
def m_H3 (aL aM:Int) (aN aO:Int) (aP:ByteArray) (aQ:Sl) (bJ bK:Int) (bL bM:Int) (bN:ByteArray) (bO:Sl) (w0:World) (K:Int→Int→Int→Int→ByteArray→Sl→WP):Prop :=
 ∀(H3:NP) (w3:World),Hst w0 None w0 H3 w3 →
 ∀(p4:Addr) (w4:World),New w3 (.cells #[(vi aL),(vi aM),(vi aN),(vu aO),(vs aP),aQ.v,(vi bJ),(vi bK),(vi bL),(vu bM),(vs bN),bO.v] 107) p4 w4 →
 ∀(w5:World),Hst w0 H3 w4 H3 w5 →
 K 4 0 0 0 ⟨#[]⟩ (Sl.mk (some p4) 2 2) w5
theorem w_H3 (aL aM : Int) (aN aO : Int) (aP : ByteArray) (aQ : Sl) (bJ bK : Int) (bL bM : Int) (bN : ByteArray) (bO : Sl) (w0 : World) (K : Int → Int → Int → Int → ByteArray → Sl → WP) (h : m_H3 aL aM aN aO aP aQ bJ bK bL bM bN bO w0 K) :
  Calls Tryz.prog 197 #[(.agg #[(vi aL),(vi aM),(vi aN),(vu aO),(vs aP),aQ.v]),(.agg #[(vi bJ),(vi bK),(vi bL),(vu bM),(vs bN),bO.v])] w0 (fun e w'=>∃aF aG:Int,∃aH aI:Int,∃aJ:ByteArray,∃aK:Sl,e=.returned (.agg #[(vi aF),(vi aG),(vi aH),(vu aI),(vs aJ),aK.v])∧K aF aG aH aI aJ aK w'):=by
 unfold m_H3 at h
 refine cw (args:=[(.agg #[(vi aL),(vi aM),(vi aN),(vu aO),(vs aP),aQ.v]),(.agg #[(vi bJ),(vi bK),(vi bL),(vu bM),(vs bN),bO.v])]) Tryz.func197 Tryz.ntmps197 ?_
 have hs:=Hst.start w0
 have hb:=HB.nil None w0
 refine eg (sn (O:=(.cells #[(vi aL),(vi aM),(vi aN),(vu aO),(vs aP),aQ.v] 107)) xb ?_)
 intro p1 w1 hn1
 obtain ⟨H1,hs,hb⟩:=hs.alloc hb hn1
 refine sn (O:=(.cells #[(vi bJ),(vi bK),(vi bL),(vu bM),(vs bN),bO.v] 107)) xb ?_
 intro p2 w2 hn2
 obtain ⟨H2,hs,hb⟩:=hs.alloc hb hn2
 refine sn (O:=(.cells #[(vi 0),(vi 0),(vi 0),(vu 0),(vs ⟨#[]⟩),Sl.nil.v] 107)) (x_alloc (Tryz.zeroValue107 _) rfl) ?_
 intro p3 w3 hn3
 obtain ⟨H3,hs,hb⟩:=hs.alloc hb hn3
 refine ln (eg (q2 (.agg #[(vi aL),(vi aM),(vi aN),(vu aO),(vs aP),aQ.v]) (xa p1 [(vi aL),(vi aM),(vi aN),(vu aO),(vs aP),aQ.v] (Tryz.isAgg107 _) (Tryz.sizeOf107 _) (hb.r0 2 6 (gS (gS gZ)))) (q2 (.agg #[(vi bJ),(vi bK),(vi bL),(vu bM),(vs bN),bO.v]) (xa p2 [(vi bJ),(vi bK),(vi bL),(vu bM),(vs bN),bO.v] (Tryz.isAgg107 _) (Tryz.sizeOf107 _) (hb.r0 1 6 (gS gZ))) ?_)))
 have h:=h H3 w3 hs
 have hs:=hs.here
 refine st_new (O:=(.cells #[(vi aL),(vi aM),(vi aN),(vu aO),(vs aP),aQ.v,(vi bJ),(vi bK),(vi bL),(vu bM),(vs bN),bO.v] 107)) (fun p=>(Sl.mk (some p) 2 2).v) (want0 rfl) (x_buildSlice (vs:=#[(0,(.agg #[(vi aL),(vi aM),(vi aN),(vu aO),(vs aP),aQ.v])),(1,(.agg #[(vi bJ),(vi bK),(vi bL),(vu bM),(vs bN),bO.v]))]) (by kernel_rfl) (by kernel_rfl)) ?_
 intro p4 w4 hn5
 have h:=h p4 w4 hn5
 have hs:=hs.again (Ext.new (F:=None) hn5).keptP
 have hb:=hb.kept (Ext.new (F:=None) hn5).keptP
 refine q0 (.agg #[(vi 4),(vi 0),(vi 0),(vu 0),(vs ⟨#[]⟩),(Sl.mk (some p4) 2 2).v]) (st_set (want0 rfl) (xo p3 [(vi 4),(vi 0),(vi 0),(vu 0),(vs ⟨#[]⟩),(Sl.mk (some p4) 2 2).v] (Tryz.sizeOf107 _) (hb.k0 0 6 gZ)) ?_)
 intro w5 hn4
 obtain ⟨hs,hb⟩:=hb.s0 (l':=[(p3,[(vi 4),(vi 0),(vi 0),(vu 0),(vs ⟨#[]⟩),(Sl.mk (some p4) 2 2).v],107),(p2,[(vi bJ),(vi bK),(vi bL),(vu bM),(vs bN),bO.v],107),(p1,[(vi aL),(vi aM),(vi aN),(vu aO),(vs aP),aQ.v],107)]) 0 [(vi 4),(vi 0),(vi 0),(vu 0),(vs ⟨#[]⟩),(Sl.mk (some p4) 2 2).v] hs hn4 gZ
 refine ln (er ?_)
 have h:=h w5 hs
 have hs:=hs.here
 refine resG (.inl rfl) (vs:=[(.agg #[(vi 4),(vi 0),(vi 0),(vu 0),(vs ⟨#[]⟩),(Sl.mk (some p4) 2 2).v])]) (v:=(.agg #[(vi 4),(vi 0),(vi 0),(vu 0),(vs ⟨#[]⟩),(Sl.mk (some p4) 2 2).v])) Tryz.results197 ⟨(rA (Tryz.isAgg107 _) (Tryz.sizeOf107 _) (hb.r0 0 6 gZ)),trivial⟩ (by kernel_rfl) ?_
 exact ⟨4,0,0,0,⟨#[]⟩,(Sl.mk (some p4) 2 2),rfl,h⟩
def m_I3 (c1:Int) (text1:ByteArray) (w0:World) (K:Int→Int→Int→Int→ByteArray→Sl→WP):Prop :=
 ∀(H1:NP) (w4:World),Hst w0 None w0 H1 w4 →
 Calls Tryz.prog 197 #[(.agg #[(vi 2),(vi 0),(vi 0),(vu c1),(vs ⟨#[]⟩),Sl.nil.v]),(.agg #[(vi 3),(vi 0),(vi 0),(vu 0),(vs text1),Sl.nil.v])] w4 (fun e w5=>∃aF aG:Int,∃aH aI:Int,∃aJ:ByteArray,∃aK:Sl,e=.returned (.agg #[(vi aF),(vi aG),(vi aH),(vu aI),(vs aJ),aK.v])∧
  Kept H1 w4 w5 ∧
  Calls Tryz.prog 197 #[(.agg #[(vi 3),(vi 0),(vi 0),(vu 0),(vs (⟨#[100,101,97,108]⟩:ByteArray)),Sl.nil.v]),(.agg #[(vi aF),(vi aG),(vi aH),(vu aI),(vs aJ),aK.v])] w5 (fun e w6=>∃aR aS:Int,∃aT aU:Int,∃aV:ByteArray,∃aW:Sl,e=.returned (.agg #[(vi aR),(vi aS),(vi aT),(vu aU),(vs aV),aW.v])∧
   Kept H1 w5 w6 ∧
   ∀(w7:World),Hst w0 H1 w6 H1 w7 →
   K aR aS aT aU aV aW w7))
theorem w_I3 (c1 : Int) (text1 : ByteArray) (w0 : World) (K : Int → Int → Int → Int → ByteArray → Sl → WP) (h : m_I3 c1 text1 w0 K) :
  Calls Tryz.prog 194 #[(vu c1),(vs text1)] w0 (fun e w'=>∃aX aY:Int,∃aZ bA:Int,∃bB:ByteArray,∃bC:Sl,e=.returned (.agg #[(vi aX),(vi aY),(vi aZ),(vu bA),(vs bB),bC.v])∧K aX aY aZ bA bB bC w'):=by
 unfold m_I3 at h
 refine cw (args:=[(vu c1),(vs text1)]) Tryz.func194 Tryz.ntmps194 ?_
 have hs:=Hst.start w0
 have hb:=HB.nil None w0
 refine eg (sn (O:=(.cells #[(vi 0),(vi 0),(vi 0),(vu 0),(vs ⟨#[]⟩),Sl.nil.v] 107)) (x_alloc (Tryz.zeroValue107 _) rfl) ?_)
 intro p1 w1 hn1
 obtain ⟨H1,hs,hb⟩:=hs.alloc hb hn1
 refine ln (eg ?_)
 refine sc Tryz.call198 ((p_Q (⟨#[100,101,97,108]⟩:ByteArray) w1).mono ?_)
 rintro e w2 ⟨he,hE⟩
 refine ⟨(.agg #[(vi 3),(vi 0),(vi 0),(vu 0),(vs (⟨#[100,101,97,108]⟩:ByteArray)),Sl.nil.v]),he.trans (by kernel_rfl),?_⟩
 have hs:=hs.pure hE
 have hb:=hb.pure hE
 refine q0 (vu c1) ?_
 refine sc Tryz.call199 ((p_W c1 w2).mono ?_)
 rintro e w3 ⟨he,hE⟩
 refine ⟨(.agg #[(vi 2),(vi 0),(vi 0),(vu c1),(vs ⟨#[]⟩),Sl.nil.v]),he.trans (by kernel_rfl),?_⟩
 have hs:=hs.pure hE
 have hb:=hb.pure hE
 refine q0 (vs text1) ?_
 refine sc Tryz.call198 ((p_Q text1 w3).mono ?_)
 rintro e w4 ⟨he,hE⟩
 refine ⟨(.agg #[(vi 3),(vi 0),(vi 0),(vu 0),(vs text1),Sl.nil.v]),he.trans (by kernel_rfl),?_⟩
 have hs:=hs.pure hE
 have hb:=hb.pure hE
 have h:=h H1 w4 hs
 have hs:=hs.here
 refine sc Tryz.call197 (h.mono ?_)
 rintro e w5 ⟨aF,aG,aH,aI,aJ,aK,rfl,hk,h⟩
 refine ⟨_,rfl,?_⟩
 obtain ⟨hs,hb⟩:=hk.hh hs hb
 refine sc Tryz.call197 (h.mono ?_)
 rintro e w6 ⟨aR,aS,aT,aU,aV,aW,rfl,hk,h⟩
 refine ⟨_,rfl,?_⟩
 obtain ⟨hs,hb⟩:=hk.hh hs hb
 refine st_set (want0 rfl) (xo p1 [(vi aR),(vi aS),(vi aT),(vu aU),(vs aV),aW.v] (Tryz.sizeOf107 _) (hb.k0 0 6 gZ)) ?_
 intro w7 hn2
 obtain ⟨hs,hb⟩:=hb.s0 (l':=[(p1,[(vi aR),(vi aS),(vi aT),(vu aU),(vs aV),aW.v],107)]) 0 [(vi aR),(vi aS),(vi aT),(vu aU),(vs aV),aW.v] hs hn2 gZ
 refine ln (er ?_)
 have h:=h w7 hs
 have hs:=hs.here
 refine resG (.inl rfl) (vs:=[(.agg #[(vi aR),(vi aS),(vi aT),(vu aU),(vs aV),aW.v])]) (v:=(.agg #[(vi aR),(vi aS),(vi aT),(vu aU),(vs aV),aW.v])) Tryz.results194 ⟨(rA (Tryz.isAgg107 _) (Tryz.sizeOf107 _) (hb.r0 0 6 gZ)),trivial⟩ (by kernel_rfl) ?_
 exact ⟨aR,aS,aT,aU,aV,aW,rfl,h⟩
def m_J3 (from1:Int) (fake1:Bool) (bD bE:Int) (bF bG:Int) (bH:ByteArray) (bI:Sl) (w0:World) (K:Int→Int→Int→Int→ByteArray→Sl→WP):Prop :=
 ∀(H3:NP) (w3:World),Hst w0 None w0 H3 w3 →
 ∀(p3:Addr) (w4:World),New w3 (.cells #[(vi bD),(vi bE),(vi bF),(vu bG),(vs bH),bI.v] 107) p3 w4 →
 ∀(w5:World),Hst w0 H3 w4 H3 w5 →
 K (cond fake1 9 8) from1 (q6.wrap (1 - from1)) 0 ⟨#[]⟩ (Sl.mk (some p3) 1 1) w5
theorem w_J3 (from1 : Int) (fake1 : Bool) (bD bE : Int) (bF bG : Int) (bH : ByteArray) (bI : Sl) (w0 : World) (K : Int → Int → Int → Int → ByteArray → Sl → WP) (h : m_J3 from1 fake1 bD bE bF bG bH bI w0 K) :
  Calls Tryz.prog 195 #[(vi from1),(vb fake1),(.agg #[(vi bD),(vi bE),(vi bF),(vu bG),(vs bH),bI.v])] w0 (fun e w'=>∃aF aG:Int,∃aH aI:Int,∃aJ:ByteArray,∃aK:Sl,e=.returned (.agg #[(vi aF),(vi aG),(vi aH),(vu aI),(vs aJ),aK.v])∧K aF aG aH aI aJ aK w'):=by
 unfold m_J3 at h
 refine cw (args:=[(vi from1),(vb fake1),(.agg #[(vi bD),(vi bE),(vi bF),(vu bG),(vs bH),bI.v])]) Tryz.func195 Tryz.ntmps195 ?_
 have hs:=Hst.start w0
 have hb:=HB.nil None w0
 refine eg (sn (O:=(.cells #[(vi bD),(vi bE),(vi bF),(vu bG),(vs bH),bI.v] 107)) xb ?_)
 intro p1 w1 hn1
 obtain ⟨H1,hs,hb⟩:=hs.alloc hb hn1
 refine sn (O:=(.cells #[(vi 0),(vi 0),(vi 0),(vu 0),(vs ⟨#[]⟩),Sl.nil.v] 107)) (x_alloc (Tryz.zeroValue107 _) rfl) ?_
 intro p2 w2 hn2
 obtain ⟨H2,hs,hb⟩:=hs.alloc hb hn2
 refine ln (eg (q0 (vi 8) (ln (wpE_seq (eg (q0 (vb fake1) (wpL_nil ?_)))))))
 refine th_n ?_
 refine wpE_via (fun ρ wJ=>∃b1'0:Bool,∃HJ:NP,(fake1=b1'0)∧Hst w0 None w0 HJ wJ∧HB HJ wJ [(p2,[(vi 0),(vi 0),(vi 0),(vu 0),(vs ⟨#[]⟩),Sl.nil.v],107),(p1,[(vi bD),(vi bE),(vi bF),(vu bG),(vs bH),bI.v],107)]∧Has ρ [(0,(vi from1)),(5,(vp (some p1))),(6,(vp (some p2))),(7,(vi (cond b1'0 9 8)))]) ?_ ?_
 refine wpE_cond (t:=fake1) (by kernel_rfl) (fun hc2=>?_) (fun hc2=>?_)
 refine rg (q0 (vi 9) (ln ?_))
 exact ⟨true,_,hc2,hs,hb,hm⟩
 refine wpE_skip (th_n ?_)
 exact ⟨false,_,hc2,hs,hb,hm⟩
 rintro ρ w3 ⟨b1'0,H3,he0,hs,hb,hH⟩
 subst he0
 refine norm_has hH ?_
 refine th_n (eg (q0 (vi (cond fake1 9 8)) (q0 (vi from1) (q0 (vi from1) (q0 (vi (q6.wrap (1 - from1))) (q2 (.agg #[(vi bD),(vi bE),(vi bF),(vu bG),(vs bH),bI.v]) (xa p1 [(vi bD),(vi bE),(vi bF),(vu bG),(vs bH),bI.v] (Tryz.isAgg107 _) (Tryz.sizeOf107 _) (hb.r0 1 6 (gS gZ))) ?_))))))
 have h:=h H3 w3 hs
 have hs:=hs.here
 refine st_new (O:=(.cells #[(vi bD),(vi bE),(vi bF),(vu bG),(vs bH),bI.v] 107)) (fun p=>(Sl.mk (some p) 1 1).v) (want0 rfl) (x_buildSlice (vs:=#[(0,(.agg #[(vi bD),(vi bE),(vi bF),(vu bG),(vs bH),bI.v]))]) (by kernel_rfl) (by kernel_rfl)) ?_
 intro p3 w4 hn4
 have h:=h p3 w4 hn4
 have hs:=hs.again (Ext.new (F:=None) hn4).keptP
 have hb:=hb.kept (Ext.new (F:=None) hn4).keptP
 refine q0 (.agg #[(vi (cond fake1 9 8)),(vi from1),(vi (q6.wrap (1 - from1))),(vu 0),(vs ⟨#[]⟩),(Sl.mk (some p3) 1 1).v]) (st_set (want0 rfl) (xo p2 [(vi (cond fake1 9 8)),(vi from1),(vi (q6.wrap (1 - from1))),(vu 0),(vs ⟨#[]⟩),(Sl.mk (some p3) 1 1).v] (Tryz.sizeOf107 _) (hb.k0 0 6 gZ)) ?_)
 intro w5 hn3
 obtain ⟨hs,hb⟩:=hb.s0 (l':=[(p2,[(vi (cond fake1 9 8)),(vi from1),(vi (q6.wrap (1 - from1))),(vu 0),(vs ⟨#[]⟩),(Sl.mk (some p3) 1 1).v],107),(p1,[(vi bD),(vi bE),(vi bF),(vu bG),(vs bH),bI.v],107)]) 0 [(vi (cond fake1 9 8)),(vi from1),(vi (q6.wrap (1 - from1))),(vu 0),(vs ⟨#[]⟩),(Sl.mk (some p3) 1 1).v] hs hn3 gZ
 refine ln (er ?_)
 have h:=h w5 hs
 have hs:=hs.here
 refine resG (.inl rfl) (vs:=[(.agg #[(vi (cond fake1 9 8)),(vi from1),(vi (q6.wrap (1 - from1))),(vu 0),(vs ⟨#[]⟩),(Sl.mk (some p3) 1 1).v])]) (v:=(.agg #[(vi (cond fake1 9 8)),(vi from1),(vi (q6.wrap (1 - from1))),(vu 0),(vs ⟨#[]⟩),(Sl.mk (some p3) 1 1).v])) Tryz.results195 ⟨(rA (Tryz.isAgg107 _) (Tryz.sizeOf107 _) (hb.r0 0 6 gZ)),trivial⟩ (by kernel_rfl) ?_
 exact ⟨(cond fake1 9 8),from1,(q6.wrap (1 - from1)),0,⟨#[]⟩,(Sl.mk (some p3) 1 1),rfl,h⟩
def m_K3 (who1 aL:Int) (aM aN aO:Int) (aP:ByteArray) (aQ:Sl) (w0:World) (K:Int→Int→Int→Int→ByteArray→Sl→WP):Prop :=
 ∀(H2:NP) (w2:World),Hst w0 None w0 H2 w2 →
 ∀(p3:Addr) (w3:World),New w2 (.cells #[(vi aL),(vi aM),(vi aN),(vu aO),(vs aP),aQ.v] 107) p3 w3 →
 ∀(w4:World),Hst w0 H2 w3 H2 w4 →
 K 7 who1 0 0 ⟨#[]⟩ (Sl.mk (some p3) 1 1) w4
theorem w_K3 (who1 aL : Int) (aM aN aO : Int) (aP : ByteArray) (aQ : Sl) (w0 : World) (K : Int → Int → Int → Int → ByteArray → Sl → WP) (h : m_K3 who1 aL aM aN aO aP aQ w0 K) :
  Calls Tryz.prog 196 #[(vi who1),(.agg #[(vi aL),(vi aM),(vi aN),(vu aO),(vs aP),aQ.v])] w0 (fun e w'=>∃aF aG:Int,∃aH aI:Int,∃aJ:ByteArray,∃aK:Sl,e=.returned (.agg #[(vi aF),(vi aG),(vi aH),(vu aI),(vs aJ),aK.v])∧K aF aG aH aI aJ aK w'):=by
 unfold m_K3 at h
 refine cw (args:=[(vi who1),(.agg #[(vi aL),(vi aM),(vi aN),(vu aO),(vs aP),aQ.v])]) Tryz.func196 Tryz.ntmps196 ?_
 have hs:=Hst.start w0
 have hb:=HB.nil None w0
 refine eg (sn (O:=(.cells #[(vi aL),(vi aM),(vi aN),(vu aO),(vs aP),aQ.v] 107)) xb ?_)
 intro p1 w1 hn1
 obtain ⟨H1,hs,hb⟩:=hs.alloc hb hn1
 refine sn (O:=(.cells #[(vi 0),(vi 0),(vi 0),(vu 0),(vs ⟨#[]⟩),Sl.nil.v] 107)) (x_alloc (Tryz.zeroValue107 _) rfl) ?_
 intro p2 w2 hn2
 obtain ⟨H2,hs,hb⟩:=hs.alloc hb hn2
 refine ln (eg (q0 (vi who1) (q2 (.agg #[(vi aL),(vi aM),(vi aN),(vu aO),(vs aP),aQ.v]) (xa p1 [(vi aL),(vi aM),(vi aN),(vu aO),(vs aP),aQ.v] (Tryz.isAgg107 _) (Tryz.sizeOf107 _) (hb.r0 1 6 (gS gZ))) ?_)))
 have h:=h H2 w2 hs
 have hs:=hs.here
 refine st_new (O:=(.cells #[(vi aL),(vi aM),(vi aN),(vu aO),(vs aP),aQ.v] 107)) (fun p=>(Sl.mk (some p) 1 1).v) (want0 rfl) (x_buildSlice (vs:=#[(0,(.agg #[(vi aL),(vi aM),(vi aN),(vu aO),(vs aP),aQ.v]))]) (by kernel_rfl) (by kernel_rfl)) ?_
 intro p3 w3 hn4
 have h:=h p3 w3 hn4
 have hs:=hs.again (Ext.new (F:=None) hn4).keptP
 have hb:=hb.kept (Ext.new (F:=None) hn4).keptP
 refine q0 (.agg #[(vi 7),(vi who1),(vi 0),(vu 0),(vs ⟨#[]⟩),(Sl.mk (some p3) 1 1).v]) (st_set (want0 rfl) (xo p2 [(vi 7),(vi who1),(vi 0),(vu 0),(vs ⟨#[]⟩),(Sl.mk (some p3) 1 1).v] (Tryz.sizeOf107 _) (hb.k0 0 6 gZ)) ?_)
 intro w4 hn3
 obtain ⟨hs,hb⟩:=hb.s0 (l':=[(p2,[(vi 7),(vi who1),(vi 0),(vu 0),(vs ⟨#[]⟩),(Sl.mk (some p3) 1 1).v],107),(p1,[(vi aL),(vi aM),(vi aN),(vu aO),(vs aP),aQ.v],107)]) 0 [(vi 7),(vi who1),(vi 0),(vu 0),(vs ⟨#[]⟩),(Sl.mk (some p3) 1 1).v] hs hn3 gZ
 refine ln (er ?_)
 have h:=h w4 hs
 have hs:=hs.here
 refine resG (.inl rfl) (vs:=[(.agg #[(vi 7),(vi who1),(vi 0),(vu 0),(vs ⟨#[]⟩),(Sl.mk (some p3) 1 1).v])]) (v:=(.agg #[(vi 7),(vi who1),(vi 0),(vu 0),(vs ⟨#[]⟩),(Sl.mk (some p3) 1 1).v])) Tryz.results196 ⟨(rA (Tryz.isAgg107 _) (Tryz.sizeOf107 _) (hb.r0 0 6 gZ)),trivial⟩ (by kernel_rfl) ?_
 exact ⟨7,who1,0,0,⟨#[]⟩,(Sl.mk (some p3) 1 1),rfl,h⟩
def m_L3 (aA aB aE:Int) (aC:ByteArray) (aD:Bool) (w0:World) (K:Int→Int→Int→Int→ByteArray→Sl→WP):Prop :=
 ∀(H2:NP) (w2:World),Hst w0 None w0 H2 w2 →
 Calls Tryz.prog 194 #[(vu aE),(vs aC)] w2 (fun e w3=>∃aF aG:Int,∃aH aI:Int,∃aJ:ByteArray,∃aK:Sl,e=.returned (.agg #[(vi aF),(vi aG),(vi aH),(vu aI),(vs aJ),aK.v])∧
  Kept H2 w2 w3 ∧
  Br (aA == 1)
   (∀(H3:NP) (w5:World),Hst w0 H2 w3 H3 w5 →
   Calls Tryz.prog 195 #[(vi aB),(vb aD),(.agg #[(vi aF),(vi aG),(vi aH),(vu aI),(vs aJ),aK.v])] w5 (fun e w6=>∃aR aS:Int,∃aT aU:Int,∃aV:ByteArray,∃aW:Sl,e=.returned (.agg #[(vi aR),(vi aS),(vi aT),(vu aU),(vs aV),aW.v])∧
    Kept H3 w5 w6 ∧
    ∀(w7:World),Hst w0 H3 w6 H3 w7 →
    K aR aS aT aU aV aW w7))
   (Br (aA == 2)
    (∀(H3:NP) (w5:World),Hst w0 H2 w3 H3 w5 →
    Calls Tryz.prog 196 #[(vi aB),(.agg #[(vi aF),(vi aG),(vi aH),(vu aI),(vs aJ),aK.v])] w5 (fun e w8=>∃aX aY:Int,∃aZ bA:Int,∃bB:ByteArray,∃bC:Sl,e=.returned (.agg #[(vi aX),(vi aY),(vi aZ),(vu bA),(vs bB),bC.v])∧
     Kept H3 w5 w8 ∧
     ∀(w9:World),Hst w0 H3 w8 H3 w9 →
     K aX aY aZ bA bB bC w9))
    (Br (aA == 3)
     (∀(H3:NP) (w5:World),Hst w0 H2 w3 H3 w5 →
     ∃C1:WP,C1 w5.drew∧∀w10,w10=w5.drew →
     Calls Tryz.prog 198 #[(vs (⟨#[97,98,111,114,116]⟩:ByteArray))] w10 (fun e w11=>∃cU cV:Int,∃cW cX:Int,∃cY:ByteArray,∃cZ:Sl,e=.returned (.agg #[(vi cU),(vi cV),(vi cW),(vu cX),(vs cY),cZ.v])∧C1 w11∧
      Kept H3 w10 w11 ∧
      Calls Tryz.prog 199 #[(vu aE)] w11 (fun e w12=>∃dA dB:Int,∃dC dD:Int,∃dE:ByteArray,∃dF:Sl,e=.returned (.agg #[(vi dA),(vi dB),(vi dC),(vu dD),(vs dE),dF.v])∧
       Kept H3 w11 w12 ∧
       Calls Tryz.prog 197 #[(.agg #[(vi cU),(vi cV),(vi cW),(vu cX),(vs cY),cZ.v]),(.agg #[(vi dA),(vi dB),(vi dC),(vu dD),(vs dE),dF.v])] w12 (fun e w13=>∃dG dH:Int,∃dI dJ:Int,∃dK:ByteArray,∃dL:Sl,e=.returned (.agg #[(vi dG),(vi dH),(vi dI),(vu dJ),(vs dK),dL.v])∧
        Kept H3 w12 w13 ∧
        Calls Tryz.prog 196 #[(vi 0),(.agg #[(vi dG),(vi dH),(vi dI),(vu dJ),(vs dK),dL.v])] w13 (fun e w14=>∃bP bQ:Int,∃bR bS:Int,∃bT:ByteArray,∃bU:Sl,e=.returned (.agg #[(vi bP),(vi bQ),(vi bR),(vu bS),(vs bT),bU.v])∧
         Kept H3 w13 w14 ∧
         ∀(w15:World),Hst w0 H3 w14 H3 w15 →
         K bP bQ bR bS bT bU w15)))))
     (Br (aA == 4)
      (∀(H3:NP) (w5:World),Hst w0 H2 w3 H3 w5 →
      ∃C2:WP,C2 w5.drew∧∀w16,w16=w5.drew →
      Calls Tryz.prog 198 #[(vs (⟨#[114,101,115,111,108,118,101]⟩:ByteArray))] w16 (fun e w17=>∃dM dN:Int,∃dO dP:Int,∃dQ:ByteArray,∃dR:Sl,e=.returned (.agg #[(vi dM),(vi dN),(vi dO),(vu dP),(vs dQ),dR.v])∧C2 w17∧
       Kept H3 w16 w17 ∧
       Calls Tryz.prog 195 #[(vi 0),(vb aD),(.agg #[(vi aF),(vi aG),(vi aH),(vu aI),(vs aJ),aK.v])] w17 (fun e w18=>∃dS dT:Int,∃dU dV:Int,∃dW:ByteArray,∃dX:Sl,e=.returned (.agg #[(vi dS),(vi dT),(vi dU),(vu dV),(vs dW),dX.v])∧C2 w18∧
        Kept H3 w17 w18 ∧
        Calls Tryz.prog 195 #[(vi 1),(vb aD),(.agg #[(vi aF),(vi aG),(vi aH),(vu aI),(vs aJ),aK.v])] w18 (fun e w19=>∃dY dZ:Int,∃eA eB:Int,∃eC:ByteArray,∃eD:Sl,e=.returned (.agg #[(vi dY),(vi dZ),(vi eA),(vu eB),(vs eC),eD.v])∧C2 w19∧
         Kept H3 w18 w19 ∧
         Calls Tryz.prog 197 #[(.agg #[(vi dS),(vi dT),(vi dU),(vu dV),(vs dW),dX.v]),(.agg #[(vi dY),(vi dZ),(vi eA),(vu eB),(vs eC),eD.v])] w19 (fun e w20=>∃eE eF:Int,∃eG eH:Int,∃eI:ByteArray,∃eJ:Sl,e=.returned (.agg #[(vi eE),(vi eF),(vi eG),(vu eH),(vs eI),eJ.v])∧C2 w20∧
          Kept H3 w19 w20 ∧
          Calls Tryz.prog 197 #[(.agg #[(vi dM),(vi dN),(vi dO),(vu dP),(vs dQ),dR.v]),(.agg #[(vi eE),(vi eF),(vi eG),(vu eH),(vs eI),eJ.v])] w20 (fun e w21=>∃eK eL:Int,∃eM eN:Int,∃eO:ByteArray,∃eP:Sl,e=.returned (.agg #[(vi eK),(vi eL),(vi eM),(vu eN),(vs eO),eP.v])∧C2 w21∧
           Kept H3 w20 w21 ∧
           Calls Tryz.prog 196 #[(vi aB),(.agg #[(vi eK),(vi eL),(vi eM),(vu eN),(vs eO),eP.v])] w21 (fun e w22=>∃bV bW:Int,∃bX bY:Int,∃bZ:ByteArray,∃cA:Sl,e=.returned (.agg #[(vi bV),(vi bW),(vi bX),(vu bY),(vs bZ),cA.v])∧
            Kept H3 w21 w22 ∧
            ∀(w23:World),Hst w0 H3 w22 H3 w23 →
            K bV bW bX bY bZ cA w23)))))))
      (Br (aA == 5)
       (∀(H3:NP) (w5:World),Hst w0 H2 w3 H3 w5 →
       ∃C3:WP,C3 w5.drew∧∀w24,w24=w5.drew →
       Calls Tryz.prog 198 #[(vs (⟨#[97,98,111,114,116,101,100]⟩:ByteArray))] w24 (fun e w25=>∃eQ eR:Int,∃eS eT:Int,∃eU:ByteArray,∃eV:Sl,e=.returned (.agg #[(vi eQ),(vi eR),(vi eS),(vu eT),(vs eU),eV.v])∧C3 w25∧
        Kept H3 w24 w25 ∧
        Calls Tryz.prog 199 #[(vu aE)] w25 (fun e w26=>∃eW eX:Int,∃eY eZ:Int,∃fA:ByteArray,∃fB:Sl,e=.returned (.agg #[(vi eW),(vi eX),(vi eY),(vu eZ),(vs fA),fB.v])∧
         Kept H3 w25 w26 ∧
         Calls Tryz.prog 197 #[(.agg #[(vi eQ),(vi eR),(vi eS),(vu eT),(vs eU),eV.v]),(.agg #[(vi eW),(vi eX),(vi eY),(vu eZ),(vs fA),fB.v])] w26 (fun e w27=>∃fC fD:Int,∃fE fF:Int,∃fG:ByteArray,∃fH:Sl,e=.returned (.agg #[(vi fC),(vi fD),(vi fE),(vu fF),(vs fG),fH.v])∧
          Kept H3 w26 w27 ∧
          Calls Tryz.prog 196 #[(vi 2),(.agg #[(vi fC),(vi fD),(vi fE),(vu fF),(vs fG),fH.v])] w27 (fun e w28=>∃cB cC:Int,∃cD cE:Int,∃cF:ByteArray,∃cG:Sl,e=.returned (.agg #[(vi cB),(vi cC),(vi cD),(vu cE),(vs cF),cG.v])∧
           Kept H3 w27 w28 ∧
           ∀(w29:World),Hst w0 H3 w28 H3 w29 →
           K cB cC cD cE cF cG w29)))))
       (Br (aA == 6)
        (∀(H3:NP) (w5:World),Hst w0 H2 w3 H3 w5 →
        ∃C4:WP,C4 w5.drew∧∀w30,w30=w5.drew →
        Calls Tryz.prog 198 #[(vs (⟨#[105,110,115,116,101,97,100]⟩:ByteArray))] w30 (fun e w31=>∃fI fJ:Int,∃fK fL:Int,∃fM:ByteArray,∃fN:Sl,e=.returned (.agg #[(vi fI),(vi fJ),(vi fK),(vu fL),(vs fM),fN.v])∧C4 w31∧
         Kept H3 w30 w31 ∧
         Calls Tryz.prog 197 #[(.agg #[(vi fI),(vi fJ),(vi fK),(vu fL),(vs fM),fN.v]),(.agg #[(vi aF),(vi aG),(vi aH),(vu aI),(vs aJ),aK.v])] w31 (fun e w32=>∃fO fP:Int,∃fQ fR:Int,∃fS:ByteArray,∃fT:Sl,e=.returned (.agg #[(vi fO),(vi fP),(vi fQ),(vu fR),(vs fS),fT.v])∧
          Kept H3 w31 w32 ∧
          Calls Tryz.prog 196 #[(vi 2),(.agg #[(vi fO),(vi fP),(vi fQ),(vu fR),(vs fS),fT.v])] w32 (fun e w33=>∃cH cI:Int,∃cJ cK:Int,∃cL:ByteArray,∃cM:Sl,e=.returned (.agg #[(vi cH),(vi cI),(vi cJ),(vu cK),(vs cL),cM.v])∧
           Kept H3 w32 w33 ∧
           ∀(w34:World),Hst w0 H3 w33 H3 w34 →
           K cH cI cJ cK cL cM w34))))
        (∀(H3:NP) (w5:World),Hst w0 H2 w3 H3 w5 →
        ∃C5:WP,C5 w5.drew∧∀w35,w35=w5.drew →
        Calls Tryz.prog 198 #[(vs (⟨#[102,117,108,108]⟩:ByteArray))] w35 (fun e w36=>∃fU fV:Int,∃fW fX:Int,∃fY:ByteArray,∃fZ:Sl,e=.returned (.agg #[(vi fU),(vi fV),(vi fW),(vu fX),(vs fY),fZ.v])∧C5 w36∧
         Kept H3 w35 w36 ∧
         Calls Tryz.prog 199 #[(vu aE)] w36 (fun e w37=>∃gA gB:Int,∃gC gD:Int,∃gE:ByteArray,∃gF:Sl,e=.returned (.agg #[(vi gA),(vi gB),(vi gC),(vu gD),(vs gE),gF.v])∧
          Kept H3 w36 w37 ∧
          Calls Tryz.prog 197 #[(.agg #[(vi fU),(vi fV),(vi fW),(vu fX),(vs fY),fZ.v]),(.agg #[(vi gA),(vi gB),(vi gC),(vu gD),(vs gE),gF.v])] w37 (fun e w38=>∃cN cO:Int,∃cP cQ:Int,∃cR:ByteArray,∃cS:Sl,e=.returned (.agg #[(vi cN),(vi cO),(vi cP),(vu cQ),(vs cR),cS.v])∧
           Kept H3 w37 w38 ∧
           ∀(w39:World),Hst w0 H3 w38 H3 w39 →
           K cN cO cP cQ cR cS w39))))))))))
theorem w_L3 (aA aB aE : Int) (aC : ByteArray) (aD : Bool) (w0 : World) (K : Int → Int → Int → Int → ByteArray → Sl → WP) (h : m_L3 aA aB aE aC aD w0 K) :
  Calls Tryz.prog 143 #[(.agg #[(vi aA),(vi aB),(vu aE),(vs aC),(vb aD)])] w0 (fun e w'=>∃gG gH:Int,∃gI gJ:Int,∃gK:ByteArray,∃gL:Sl,e=.returned (.agg #[(vi gG),(vi gH),(vi gI),(vu gJ),(vs gK),gL.v])∧K gG gH gI gJ gK gL w'):=by
 unfold m_L3 at h
 refine cw (args:=[(.agg #[(vi aA),(vi aB),(vu aE),(vs aC),(vb aD)])]) Tryz.func143 Tryz.ntmps143 ?_
 have hs:=Hst.start w0
 have hb:=HB.nil None w0
 refine eg (sn (O:=(.cells #[(vi aA),(vi aB),(vu aE),(vs aC),(vb aD)] 35)) xb ?_)
 intro p1 w1 hn1
 obtain ⟨H1,hs,hb⟩:=hs.alloc hb hn1
 refine sn (O:=(.cells #[(vi 0),(vi 0),(vi 0),(vu 0),(vs ⟨#[]⟩),Sl.nil.v] 107)) (x_alloc (Tryz.zeroValue107 _) rfl) ?_
 intro p2 w2 hn2
 obtain ⟨H2,hs,hb⟩:=hs.alloc hb hn2
 refine ln (eg (q0 (vp (some (p1.add 2))) (q2 (vu aE) (xl (Tryz.isAgg23 _) (hb.c 1 2 (gS gZ))) (q0 (vp (some (p1.add 3))) (q2 (vs aC) (xl (Tryz.isAgg9 _) (hb.c 1 3 (gS gZ))) ?_)))))
 have h:=h H2 w2 hs
 have hs:=hs.here
 refine sc Tryz.call194 (h.mono ?_)
 rintro e w3 ⟨aF,aG,aH,aI,aJ,aK,rfl,hk,h⟩
 refine ⟨_,rfl,?_⟩
 obtain ⟨hs,hb⟩:=hk.hh hs hb
 refine sn (O:=(.cells #[(vi 0),(vi 0),(vi 0),(vu 0),(vs ⟨#[]⟩),Sl.nil.v] 107)) (x_alloc (Tryz.zeroValue107 _) rfl) ?_
 intro p3 w4 hn3
 obtain ⟨H3,hs,hb⟩:=hs.alloc hb hn3
 refine st_set (want0 rfl) (xo p3 [(vi aF),(vi aG),(vi aH),(vu aI),(vs aJ),aK.v] (Tryz.sizeOf107 _) (hb.k0 0 6 gZ)) ?_
 intro w5 hn4
 obtain ⟨hs,hb⟩:=hb.s0 (l':=[(p3,[(vi aF),(vi aG),(vi aH),(vu aI),(vs aJ),aK.v],107),(p2,[(vi 0),(vi 0),(vi 0),(vu 0),(vs ⟨#[]⟩),Sl.nil.v],107),(p1,[(vi aA),(vi aB),(vu aE),(vs aC),(vb aD)],35)]) 0 [(vi aF),(vi aG),(vi aH),(vu aI),(vs aJ),aK.v] hs hn4 gZ
 refine ln (wpE_seq (eg (q0 (vp (some p1)) (q2 (vi aA) (xl (Tryz.isAgg3 _) (hb.c0 2 (gS (gS gZ)))) (ln (wpE_block (eg ?_)))))))
 refine q0 (vb (aA == 1)) (q0 (vb (aA == 1)) (ln ?_))
 refine wpE_cond (t:=(aA == 1)) (by kernel_rfl) (fun hc1=>?_) (fun hc1=>?_)
 have h:=h.1 hc1
 refine eg (q0 (vp (some (p1.add 1))) (q2 (vi aB) (xl (Tryz.isAgg3 _) (hb.c 2 1 (gS (gS gZ)))) (q0 (vp (some (p1.add 4))) (q2 (vb aD) (xl (Tryz.isAgg4 _) (hb.c 2 4 (gS (gS gZ)))) (q2 (.agg #[(vi aF),(vi aG),(vi aH),(vu aI),(vs aJ),aK.v]) (xa p3 [(vi aF),(vi aG),(vi aH),(vu aI),(vs aJ),aK.v] (Tryz.isAgg107 _) (Tryz.sizeOf107 _) (hb.r0 0 6 gZ)) ?_)))))
 have h:=h H3 w5 hs
 have hs:=hs.here
 refine sc Tryz.call195 (h.mono ?_)
 rintro e w6 ⟨aR,aS,aT,aU,aV,aW,rfl,hk,h⟩
 refine ⟨_,rfl,?_⟩
 obtain ⟨hs,hb⟩:=hk.hh hs hb
 refine st_set (want0 rfl) (xo p2 [(vi aR),(vi aS),(vi aT),(vu aU),(vs aV),aW.v] (Tryz.sizeOf107 _) (hb.k0 1 6 (gS gZ))) ?_
 intro w7 hn5
 obtain ⟨hs,hb⟩:=hb.s0 (l':=[(p3,[(vi aF),(vi aG),(vi aH),(vu aI),(vs aJ),aK.v],107),(p2,[(vi aR),(vi aS),(vi aT),(vu aU),(vs aV),aW.v],107),(p1,[(vi aA),(vi aB),(vu aE),(vs aC),(vb aD)],35)]) 1 [(vi aR),(vi aS),(vi aT),(vu aU),(vs aV),aW.v] hs hn5 (gS gZ)
 refine ln (er (bl_r (th_r ?_)))
 have h:=h w7 hs
 have hs:=hs.here
 refine resG (.inl rfl) (vs:=[(.agg #[(vi aR),(vi aS),(vi aT),(vu aU),(vs aV),aW.v])]) (v:=(.agg #[(vi aR),(vi aS),(vi aT),(vu aU),(vs aV),aW.v])) Tryz.results143 ⟨(rA (Tryz.isAgg107 _) (Tryz.sizeOf107 _) (hb.r0 1 6 (gS gZ))),trivial⟩ (by kernel_rfl) ?_
 exact ⟨aR,aS,aT,aU,aV,aW,rfl,h⟩
 have h:=h.2 hc1
 refine eg (q0 (vb (aA == 2)) (q0 (vb (aA == 2)) (ln ?_)))
 refine wpE_cond (t:=(aA == 2)) (by kernel_rfl) (fun hc2=>?_) (fun hc2=>?_)
 have h:=h.1 hc2
 refine eg (q0 (vp (some (p1.add 1))) (q2 (vi aB) (xl (Tryz.isAgg3 _) (hb.c 2 1 (gS (gS gZ)))) (q2 (.agg #[(vi aF),(vi aG),(vi aH),(vu aI),(vs aJ),aK.v]) (xa p3 [(vi aF),(vi aG),(vi aH),(vu aI),(vs aJ),aK.v] (Tryz.isAgg107 _) (Tryz.sizeOf107 _) (hb.r0 0 6 gZ)) ?_)))
 have h:=h H3 w5 hs
 have hs:=hs.here
 refine sc Tryz.call196 (h.mono ?_)
 rintro e w8 ⟨aX,aY,aZ,bA,bB,bC,rfl,hk,h⟩
 refine ⟨_,rfl,?_⟩
 obtain ⟨hs,hb⟩:=hk.hh hs hb
 refine st_set (want0 rfl) (xo p2 [(vi aX),(vi aY),(vi aZ),(vu bA),(vs bB),bC.v] (Tryz.sizeOf107 _) (hb.k0 1 6 (gS gZ))) ?_
 intro w9 hn6
 obtain ⟨hs,hb⟩:=hb.s0 (l':=[(p3,[(vi aF),(vi aG),(vi aH),(vu aI),(vs aJ),aK.v],107),(p2,[(vi aX),(vi aY),(vi aZ),(vu bA),(vs bB),bC.v],107),(p1,[(vi aA),(vi aB),(vu aE),(vs aC),(vb aD)],35)]) 1 [(vi aX),(vi aY),(vi aZ),(vu bA),(vs bB),bC.v] hs hn6 (gS gZ)
 refine ln (er (bl_r (th_r ?_)))
 have h:=h w9 hs
 have hs:=hs.here
 refine resG (.inl rfl) (vs:=[(.agg #[(vi aX),(vi aY),(vi aZ),(vu bA),(vs bB),bC.v])]) (v:=(.agg #[(vi aX),(vi aY),(vi aZ),(vu bA),(vs bB),bC.v])) Tryz.results143 ⟨(rA (Tryz.isAgg107 _) (Tryz.sizeOf107 _) (hb.r0 1 6 (gS gZ))),trivial⟩ (by kernel_rfl) ?_
 exact ⟨aX,aY,aZ,bA,bB,bC,rfl,h⟩
 have h:=h.2 hc2
 refine eg (q0 (vb (aA == 3)) (q0 (vb (aA == 3)) (ln ?_)))
 refine wpE_cond (t:=(aA == 3)) (by kernel_rfl) (fun hc3=>?_) (fun hc3=>?_)
 have h:=h.1 hc3
 refine wpE_seq ?_
 have h:=h H3 w5 hs
 have hs:=hs.here
 obtain ⟨C1,hC,h⟩:=h
 refine wpE_drawnC (fun x=>C1 x∧HB H3 x [(p3,[(vi aF),(vi aG),(vi aH),(vu aI),(vs aJ),aK.v],107),(p2,[(vi 0),(vi 0),(vi 0),(vu 0),(vs ⟨#[]⟩),Sl.nil.v],107),(p1,[(vi aA),(vi aB),(vu aE),(vs aC),(vb aD)],35)]) [0,3,4,5,6] [3,4,5,6] (by kernel_rfl) (by kernel_rfl) (by kernel_rfl) (by kernel_rfl) ⟨hC,hb.drew⟩ ?_
 intro w10 hw10
 have h:=h w10 hw10
 have hs:Hst w0 H3 w5 H3 w10:=by rw [hw10];exact hs.drew
 have hb:HB H3 w10 [(p3,[(vi aF),(vi aG),(vi aH),(vu aI),(vs aJ),aK.v],107),(p2,[(vi 0),(vi 0),(vi 0),(vu 0),(vs ⟨#[]⟩),Sl.nil.v],107),(p1,[(vi aA),(vi aB),(vu aE),(vs aC),(vb aD)],35)]:=by rw [hw10];exact hb.drew
 have hs:=hs.here
 refine qx 1 (vp (some (p1.add 2))) Kp1 (qz 2 (vu aE) Kp2 (fun w' hw'=>(xl (Tryz.isAgg23 _) (hw'.2.cell 2 2 (gS (gS gZ)) (by kernel_rfl)))) (lg 0 ?_))
 refine sl_call Kp0 (want0 rfl) (by kernel_rfl) (xc Tryz.call198) (h.mono ?_)
 rintro e w11 ⟨cU,cV,cW,cX,cY,cZ,rfl,hC,hk,h⟩
 refine ⟨_,rfl,.inr ⟨hC,hb.kept hk⟩,?_⟩
 obtain ⟨hs,hb⟩:=hk.hh hs hb
 refine lg 3 ?_
 refine sl_call Kp3 (want0 rfl) (by kernel_rfl) (xc Tryz.call199) (h.mono ?_)
 rintro e w12 ⟨dA,dB,dC,dD,dE,dF,rfl,hk,h⟩
 refine ⟨_,rfl,.inl (by kernel_rfl),?_⟩
 obtain ⟨hs,hb⟩:=hk.hh hs hb
 refine lg 4 ?_
 refine sl_call Kp4 (want0 rfl) (by kernel_rfl) (xc Tryz.call197) (h.mono ?_)
 rintro e w13 ⟨dG,dH,dI,dJ,dK,dL,rfl,hk,h⟩
 refine ⟨_,rfl,.inl (by kernel_rfl),?_⟩
 obtain ⟨hs,hb⟩:=hk.hh hs hb
 refine lg 5 ?_
 refine sl_call Kp5 (want0 rfl) (by kernel_rfl) (xc Tryz.call196) (h.mono ?_)
 rintro e w14 ⟨bP,bQ,bR,bS,bT,bU,rfl,hk,h⟩
 refine ⟨_,rfl,.inl (by kernel_rfl),?_⟩
 obtain ⟨hs,hb⟩:=hk.hh hs hb
 refine lg 6 (sl_set Kp6 (want0 rfl) (by kernel_rfl) (xo p2 [(vi bP),(vi bQ),(vi bR),(vu bS),(vs bT),bU.v] (Tryz.sizeOf107 _) (hb.k0 1 6 (gS gZ))) ?_)
 intro w15 hn7
 obtain ⟨hs,hb⟩:=hb.s0 (l':=[(p3,[(vi aF),(vi aG),(vi aH),(vu aI),(vs aJ),aK.v],107),(p2,[(vi bP),(vi bQ),(vi bR),(vu bS),(vs bT),bU.v],107),(p1,[(vi aA),(vi aB),(vu aE),(vs aC),(vb aD)],35)]) 1 [(vi bP),(vi bQ),(vi bR),(vu bS),(vs bT),bU.v] hs hn7 (gS gZ)
 refine ⟨.inl (by kernel_rfl),?_⟩
 refine wn (th_n (er (bl_r (th_r ?_))))
 have h:=h w15 hs
 have hs:=hs.here
 refine resG (.inl rfl) (vs:=[(.agg #[(vi bP),(vi bQ),(vi bR),(vu bS),(vs bT),bU.v])]) (v:=(.agg #[(vi bP),(vi bQ),(vi bR),(vu bS),(vs bT),bU.v])) Tryz.results143 ⟨(rA (Tryz.isAgg107 _) (Tryz.sizeOf107 _) (hb.r0 1 6 (gS gZ))),trivial⟩ (by kernel_rfl) ?_
 exact ⟨bP,bQ,bR,bS,bT,bU,rfl,h⟩
 have h:=h.2 hc3
 refine eg (q0 (vb (aA == 4)) (q0 (vb (aA == 4)) (ln ?_)))
 refine wpE_cond (t:=(aA == 4)) (by kernel_rfl) (fun hc4=>?_) (fun hc4=>?_)
 have h:=h.1 hc4
 refine wpE_seq ?_
 have h:=h H3 w5 hs
 have hs:=hs.here
 obtain ⟨C2,hC,h⟩:=h
 refine wpE_drawnC (fun x=>C2 x∧HB H3 x [(p3,[(vi aF),(vi aG),(vi aH),(vu aI),(vs aJ),aK.v],107),(p2,[(vi 0),(vi 0),(vi 0),(vu 0),(vs ⟨#[]⟩),Sl.nil.v],107),(p1,[(vi aA),(vi aB),(vu aE),(vs aC),(vb aD)],35)]) [2,6,10,11,12,13,14] [13,14] (by kernel_rfl) (by kernel_rfl) (by kernel_rfl) (by kernel_rfl) ⟨hC,hb.drew⟩ ?_
 intro w16 hw16
 have h:=h w16 hw16
 have hs:Hst w0 H3 w5 H3 w16:=by rw [hw16];exact hs.drew
 have hb:HB H3 w16 [(p3,[(vi aF),(vi aG),(vi aH),(vu aI),(vs aJ),aK.v],107),(p2,[(vi 0),(vi 0),(vi 0),(vu 0),(vs ⟨#[]⟩),Sl.nil.v],107),(p1,[(vi aA),(vi aB),(vu aE),(vs aC),(vb aD)],35)]:=by rw [hw16];exact hb.drew
 have hs:=hs.here
 refine qx 0 (vp (some (p1.add 1))) Kp0 (qz 1 (vi aB) Kp1 (fun w' hw'=>(xl (Tryz.isAgg3 _) (hw'.2.cell 2 1 (gS (gS gZ)) (by kernel_rfl)))) (qx 3 (vp (some (p1.add 4))) Kp3 (qz 4 (vb aD) Kp4 (fun w' hw'=>(xl (Tryz.isAgg4 _) (hw'.2.cell 2 4 (gS (gS gZ)) (by kernel_rfl)))) (qz 5 (.agg #[(vi aF),(vi aG),(vi aH),(vu aI),(vs aJ),aK.v]) Kp5 (fun w' hw'=>(xa p3 [(vi aF),(vi aG),(vi aH),(vu aI),(vs aJ),aK.v] (Tryz.isAgg107 _) (Tryz.sizeOf107 _) (hw'.2.r0 0 6 gZ))) (qx 7 (vp (some (p1.add 4))) Kp7 (qz 8 (vb aD) Kp8 (fun w' hw'=>(xl (Tryz.isAgg4 _) (hw'.2.cell 2 4 (gS (gS gZ)) (by kernel_rfl)))) (qz 9 (.agg #[(vi aF),(vi aG),(vi aH),(vu aI),(vs aJ),aK.v]) Kp9 (fun w' hw'=>(xa p3 [(vi aF),(vi aG),(vi aH),(vu aI),(vs aJ),aK.v] (Tryz.isAgg107 _) (Tryz.sizeOf107 _) (hw'.2.r0 0 6 gZ))) (lg 2 ?_))))))))
 refine sl_call Kp2 (want0 rfl) (by kernel_rfl) (xc Tryz.call198) (h.mono ?_)
 rintro e w17 ⟨dM,dN,dO,dP,dQ,dR,rfl,hC,hk,h⟩
 refine ⟨_,rfl,.inr ⟨hC,hb.kept hk⟩,?_⟩
 obtain ⟨hs,hb⟩:=hk.hh hs hb
 refine lg 6 ?_
 refine sl_call Kp6 (want0 rfl) (by kernel_rfl) (xc Tryz.call195) (h.mono ?_)
 rintro e w18 ⟨dS,dT,dU,dV,dW,dX,rfl,hC,hk,h⟩
 refine ⟨_,rfl,.inr ⟨hC,hb.kept hk⟩,?_⟩
 obtain ⟨hs,hb⟩:=hk.hh hs hb
 refine lg 10 ?_
 refine sl_call (pickA (S8 (pickS (pickS pickZ)))) (want0 rfl) (by kernel_rfl) (xc Tryz.call195) (h.mono ?_)
 rintro e w19 ⟨dY,dZ,eA,eB,eC,eD,rfl,hC,hk,h⟩
 refine ⟨_,rfl,.inr ⟨hC,hb.kept hk⟩,?_⟩
 obtain ⟨hs,hb⟩:=hk.hh hs hb
 refine lg 11 ?_
 refine sl_call (pickA (S8 (pickS (pickS (pickS pickZ))))) (want0 rfl) (by kernel_rfl) (xc Tryz.call197) (h.mono ?_)
 rintro e w20 ⟨eE,eF,eG,eH,eI,eJ,rfl,hC,hk,h⟩
 refine ⟨_,rfl,.inr ⟨hC,hb.kept hk⟩,?_⟩
 obtain ⟨hs,hb⟩:=hk.hh hs hb
 refine lg 12 ?_
 refine sl_call (pickA (S8 (S4 pickZ))) (want0 rfl) (by kernel_rfl) (xc Tryz.call197) (h.mono ?_)
 rintro e w21 ⟨eK,eL,eM,eN,eO,eP,rfl,hC,hk,h⟩
 refine ⟨_,rfl,.inr ⟨hC,hb.kept hk⟩,?_⟩
 obtain ⟨hs,hb⟩:=hk.hh hs hb
 refine lg 13 ?_
 refine sl_call (pickA (S8 (S4 (pickS pickZ)))) (want0 rfl) (by kernel_rfl) (xc Tryz.call196) (h.mono ?_)
 rintro e w22 ⟨bV,bW,bX,bY,bZ,cA,rfl,hk,h⟩
 refine ⟨_,rfl,.inl (by kernel_rfl),?_⟩
 obtain ⟨hs,hb⟩:=hk.hh hs hb
 refine lg 14 (sl_set (pickA (S8 (S4 (pickS (pickS pickZ))))) (want0 rfl) (by kernel_rfl) (xo p2 [(vi bV),(vi bW),(vi bX),(vu bY),(vs bZ),cA.v] (Tryz.sizeOf107 _) (hb.k0 1 6 (gS gZ))) ?_)
 intro w23 hn8
 obtain ⟨hs,hb⟩:=hb.s0 (l':=[(p3,[(vi aF),(vi aG),(vi aH),(vu aI),(vs aJ),aK.v],107),(p2,[(vi bV),(vi bW),(vi bX),(vu bY),(vs bZ),cA.v],107),(p1,[(vi aA),(vi aB),(vu aE),(vs aC),(vb aD)],35)]) 1 [(vi bV),(vi bW),(vi bX),(vu bY),(vs bZ),cA.v] hs hn8 (gS gZ)
 refine ⟨.inl (by kernel_rfl),?_⟩
 refine wn (th_n (er (bl_r (th_r ?_))))
 have h:=h w23 hs
 have hs:=hs.here
 refine resG (.inl rfl) (vs:=[(.agg #[(vi bV),(vi bW),(vi bX),(vu bY),(vs bZ),cA.v])]) (v:=(.agg #[(vi bV),(vi bW),(vi bX),(vu bY),(vs bZ),cA.v])) Tryz.results143 ⟨(rA (Tryz.isAgg107 _) (Tryz.sizeOf107 _) (hb.r0 1 6 (gS gZ))),trivial⟩ (by kernel_rfl) ?_
 exact ⟨bV,bW,bX,bY,bZ,cA,rfl,h⟩
 have h:=h.2 hc4
 refine eg (q0 (vb (aA == 5)) (q0 (vb (aA == 5)) (ln ?_)))
 refine wpE_cond (t:=(aA == 5)) (by kernel_rfl) (fun hc5=>?_) (fun hc5=>?_)
 have h:=h.1 hc5
 refine wpE_seq ?_
 have h:=h H3 w5 hs
 have hs:=hs.here
 obtain ⟨C3,hC,h⟩:=h
 refine wpE_drawnC (fun x=>C3 x∧HB H3 x [(p3,[(vi aF),(vi aG),(vi aH),(vu aI),(vs aJ),aK.v],107),(p2,[(vi 0),(vi 0),(vi 0),(vu 0),(vs ⟨#[]⟩),Sl.nil.v],107),(p1,[(vi aA),(vi aB),(vu aE),(vs aC),(vb aD)],35)]) [0,3,4,5,6] [3,4,5,6] (by kernel_rfl) (by kernel_rfl) (by kernel_rfl) (by kernel_rfl) ⟨hC,hb.drew⟩ ?_
 intro w24 hw24
 have h:=h w24 hw24
 have hs:Hst w0 H3 w5 H3 w24:=by rw [hw24];exact hs.drew
 have hb:HB H3 w24 [(p3,[(vi aF),(vi aG),(vi aH),(vu aI),(vs aJ),aK.v],107),(p2,[(vi 0),(vi 0),(vi 0),(vu 0),(vs ⟨#[]⟩),Sl.nil.v],107),(p1,[(vi aA),(vi aB),(vu aE),(vs aC),(vb aD)],35)]:=by rw [hw24];exact hb.drew
 have hs:=hs.here
 refine qx 1 (vp (some (p1.add 2))) Kp1 (qz 2 (vu aE) Kp2 (fun w' hw'=>(xl (Tryz.isAgg23 _) (hw'.2.cell 2 2 (gS (gS gZ)) (by kernel_rfl)))) (lg 0 ?_))
 refine sl_call Kp0 (want0 rfl) (by kernel_rfl) (xc Tryz.call198) (h.mono ?_)
 rintro e w25 ⟨eQ,eR,eS,eT,eU,eV,rfl,hC,hk,h⟩
 refine ⟨_,rfl,.inr ⟨hC,hb.kept hk⟩,?_⟩
 obtain ⟨hs,hb⟩:=hk.hh hs hb
 refine lg 3 ?_
 refine sl_call Kp3 (want0 rfl) (by kernel_rfl) (xc Tryz.call199) (h.mono ?_)
 rintro e w26 ⟨eW,eX,eY,eZ,fA,fB,rfl,hk,h⟩
 refine ⟨_,rfl,.inl (by kernel_rfl),?_⟩
 obtain ⟨hs,hb⟩:=hk.hh hs hb
 refine lg 4 ?_
 refine sl_call Kp4 (want0 rfl) (by kernel_rfl) (xc Tryz.call197) (h.mono ?_)
 rintro e w27 ⟨fC,fD,fE,fF,fG,fH,rfl,hk,h⟩
 refine ⟨_,rfl,.inl (by kernel_rfl),?_⟩
 obtain ⟨hs,hb⟩:=hk.hh hs hb
 refine lg 5 ?_
 refine sl_call Kp5 (want0 rfl) (by kernel_rfl) (xc Tryz.call196) (h.mono ?_)
 rintro e w28 ⟨cB,cC,cD,cE,cF,cG,rfl,hk,h⟩
 refine ⟨_,rfl,.inl (by kernel_rfl),?_⟩
 obtain ⟨hs,hb⟩:=hk.hh hs hb
 refine lg 6 (sl_set Kp6 (want0 rfl) (by kernel_rfl) (xo p2 [(vi cB),(vi cC),(vi cD),(vu cE),(vs cF),cG.v] (Tryz.sizeOf107 _) (hb.k0 1 6 (gS gZ))) ?_)
 intro w29 hn9
 obtain ⟨hs,hb⟩:=hb.s0 (l':=[(p3,[(vi aF),(vi aG),(vi aH),(vu aI),(vs aJ),aK.v],107),(p2,[(vi cB),(vi cC),(vi cD),(vu cE),(vs cF),cG.v],107),(p1,[(vi aA),(vi aB),(vu aE),(vs aC),(vb aD)],35)]) 1 [(vi cB),(vi cC),(vi cD),(vu cE),(vs cF),cG.v] hs hn9 (gS gZ)
 refine ⟨.inl (by kernel_rfl),?_⟩
 refine wn (th_n (er (bl_r (th_r ?_))))
 have h:=h w29 hs
 have hs:=hs.here
 refine resG (.inl rfl) (vs:=[(.agg #[(vi cB),(vi cC),(vi cD),(vu cE),(vs cF),cG.v])]) (v:=(.agg #[(vi cB),(vi cC),(vi cD),(vu cE),(vs cF),cG.v])) Tryz.results143 ⟨(rA (Tryz.isAgg107 _) (Tryz.sizeOf107 _) (hb.r0 1 6 (gS gZ))),trivial⟩ (by kernel_rfl) ?_
 exact ⟨cB,cC,cD,cE,cF,cG,rfl,h⟩
 have h:=h.2 hc5
 refine eg (q0 (vb (aA == 6)) (q0 (vb (aA == 6)) (ln ?_)))
 refine wpE_cond (t:=(aA == 6)) (by kernel_rfl) (fun hc6=>?_) (fun hc6=>?_)
 have h:=h.1 hc6
 refine wpE_seq ?_
 have h:=h H3 w5 hs
 have hs:=hs.here
 obtain ⟨C4,hC,h⟩:=h
 refine wpE_drawnC (fun x=>C4 x∧HB H3 x [(p3,[(vi aF),(vi aG),(vi aH),(vu aI),(vs aJ),aK.v],107),(p2,[(vi 0),(vi 0),(vi 0),(vu 0),(vs ⟨#[]⟩),Sl.nil.v],107),(p1,[(vi aA),(vi aB),(vu aE),(vs aC),(vb aD)],35)]) [0,2,3,4] [2,3,4] (by kernel_rfl) (by kernel_rfl) (by kernel_rfl) (by kernel_rfl) ⟨hC,hb.drew⟩ ?_
 intro w30 hw30
 have h:=h w30 hw30
 have hs:Hst w0 H3 w5 H3 w30:=by rw [hw30];exact hs.drew
 have hb:HB H3 w30 [(p3,[(vi aF),(vi aG),(vi aH),(vu aI),(vs aJ),aK.v],107),(p2,[(vi 0),(vi 0),(vi 0),(vu 0),(vs ⟨#[]⟩),Sl.nil.v],107),(p1,[(vi aA),(vi aB),(vu aE),(vs aC),(vb aD)],35)]:=by rw [hw30];exact hb.drew
 have hs:=hs.here
 refine qz 1 (.agg #[(vi aF),(vi aG),(vi aH),(vu aI),(vs aJ),aK.v]) Kp1 (fun w' hw'=>(xa p3 [(vi aF),(vi aG),(vi aH),(vu aI),(vs aJ),aK.v] (Tryz.isAgg107 _) (Tryz.sizeOf107 _) (hw'.2.r0 0 6 gZ))) (lg 0 ?_)
 refine sl_call Kp0 (want0 rfl) (by kernel_rfl) (xc Tryz.call198) (h.mono ?_)
 rintro e w31 ⟨fI,fJ,fK,fL,fM,fN,rfl,hC,hk,h⟩
 refine ⟨_,rfl,.inr ⟨hC,hb.kept hk⟩,?_⟩
 obtain ⟨hs,hb⟩:=hk.hh hs hb
 refine lg 2 ?_
 refine sl_call Kp2 (want0 rfl) (by kernel_rfl) (xc Tryz.call197) (h.mono ?_)
 rintro e w32 ⟨fO,fP,fQ,fR,fS,fT,rfl,hk,h⟩
 refine ⟨_,rfl,.inl (by kernel_rfl),?_⟩
 obtain ⟨hs,hb⟩:=hk.hh hs hb
 refine lg 3 ?_
 refine sl_call Kp3 (want0 rfl) (by kernel_rfl) (xc Tryz.call196) (h.mono ?_)
 rintro e w33 ⟨cH,cI,cJ,cK,cL,cM,rfl,hk,h⟩
 refine ⟨_,rfl,.inl (by kernel_rfl),?_⟩
 obtain ⟨hs,hb⟩:=hk.hh hs hb
 refine lg 4 (sl_set Kp4 (want0 rfl) (by kernel_rfl) (xo p2 [(vi cH),(vi cI),(vi cJ),(vu cK),(vs cL),cM.v] (Tryz.sizeOf107 _) (hb.k0 1 6 (gS gZ))) ?_)
 intro w34 hn10
 obtain ⟨hs,hb⟩:=hb.s0 (l':=[(p3,[(vi aF),(vi aG),(vi aH),(vu aI),(vs aJ),aK.v],107),(p2,[(vi cH),(vi cI),(vi cJ),(vu cK),(vs cL),cM.v],107),(p1,[(vi aA),(vi aB),(vu aE),(vs aC),(vb aD)],35)]) 1 [(vi cH),(vi cI),(vi cJ),(vu cK),(vs cL),cM.v] hs hn10 (gS gZ)
 refine ⟨.inl (by kernel_rfl),?_⟩
 refine wn (th_n (er (bl_r (th_r ?_))))
 have h:=h w34 hs
 have hs:=hs.here
 refine resG (.inl rfl) (vs:=[(.agg #[(vi cH),(vi cI),(vi cJ),(vu cK),(vs cL),cM.v])]) (v:=(.agg #[(vi cH),(vi cI),(vi cJ),(vu cK),(vs cL),cM.v])) Tryz.results143 ⟨(rA (Tryz.isAgg107 _) (Tryz.sizeOf107 _) (hb.r0 1 6 (gS gZ))),trivial⟩ (by kernel_rfl) ?_
 exact ⟨cH,cI,cJ,cK,cL,cM,rfl,h⟩
 have h:=h.2 hc6
 refine wpE_skip (bl_n (th_n (wpE_seq ?_)))
 have h:=h H3 w5 hs
 have hs:=hs.here
 obtain ⟨C5,hC,h⟩:=h
 refine wpE_drawnC (fun x=>C5 x∧HB H3 x [(p3,[(vi aF),(vi aG),(vi aH),(vu aI),(vs aJ),aK.v],107),(p2,[(vi 0),(vi 0),(vi 0),(vu 0),(vs ⟨#[]⟩),Sl.nil.v],107),(p1,[(vi aA),(vi aB),(vu aE),(vs aC),(vb aD)],35)]) [0,3,4,5] [3,4,5] (by kernel_rfl) (by kernel_rfl) (by kernel_rfl) (by kernel_rfl) ⟨hC,hb.drew⟩ ?_
 intro w35 hw35
 have h:=h w35 hw35
 have hs:Hst w0 H3 w5 H3 w35:=by rw [hw35];exact hs.drew
 have hb:HB H3 w35 [(p3,[(vi aF),(vi aG),(vi aH),(vu aI),(vs aJ),aK.v],107),(p2,[(vi 0),(vi 0),(vi 0),(vu 0),(vs ⟨#[]⟩),Sl.nil.v],107),(p1,[(vi aA),(vi aB),(vu aE),(vs aC),(vb aD)],35)]:=by rw [hw35];exact hb.drew
 have hs:=hs.here
 refine qx 1 (vp (some (p1.add 2))) Kp1 (qz 2 (vu aE) Kp2 (fun w' hw'=>(xl (Tryz.isAgg23 _) (hw'.2.cell 2 2 (gS (gS gZ)) (by kernel_rfl)))) (lg 0 ?_))
 refine sl_call Kp0 (want0 rfl) (by kernel_rfl) (xc Tryz.call198) (h.mono ?_)
 rintro e w36 ⟨fU,fV,fW,fX,fY,fZ,rfl,hC,hk,h⟩
 refine ⟨_,rfl,.inr ⟨hC,hb.kept hk⟩,?_⟩
 obtain ⟨hs,hb⟩:=hk.hh hs hb
 refine lg 3 ?_
 refine sl_call Kp3 (want0 rfl) (by kernel_rfl) (xc Tryz.call199) (h.mono ?_)
 rintro e w37 ⟨gA,gB,gC,gD,gE,gF,rfl,hk,h⟩
 refine ⟨_,rfl,.inl (by kernel_rfl),?_⟩
 obtain ⟨hs,hb⟩:=hk.hh hs hb
 refine lg 4 ?_
 refine sl_call Kp4 (want0 rfl) (by kernel_rfl) (xc Tryz.call197) (h.mono ?_)
 rintro e w38 ⟨cN,cO,cP,cQ,cR,cS,rfl,hk,h⟩
 refine ⟨_,rfl,.inl (by kernel_rfl),?_⟩
 obtain ⟨hs,hb⟩:=hk.hh hs hb
 refine lg 5 (sl_set Kp5 (want0 rfl) (by kernel_rfl) (xo p2 [(vi cN),(vi cO),(vi cP),(vu cQ),(vs cR),cS.v] (Tryz.sizeOf107 _) (hb.k0 1 6 (gS gZ))) ?_)
 intro w39 hn11
 obtain ⟨hs,hb⟩:=hb.s0 (l':=[(p3,[(vi aF),(vi aG),(vi aH),(vu aI),(vs aJ),aK.v],107),(p2,[(vi cN),(vi cO),(vi cP),(vu cQ),(vs cR),cS.v],107),(p1,[(vi aA),(vi aB),(vu aE),(vs aC),(vb aD)],35)]) 1 [(vi cN),(vi cO),(vi cP),(vu cQ),(vs cR),cS.v] hs hn11 (gS gZ)
 refine ⟨.inl (by kernel_rfl),?_⟩
 refine wn (th_n (er ?_))
 have h:=h w39 hs
 have hs:=hs.here
 refine resG (.inl rfl) (vs:=[(.agg #[(vi cN),(vi cO),(vi cP),(vu cQ),(vs cR),cS.v])]) (v:=(.agg #[(vi cN),(vi cO),(vi cP),(vu cQ),(vs cR),cS.v])) Tryz.results143 ⟨(rA (Tryz.isAgg107 _) (Tryz.sizeOf107 _) (hb.r0 1 6 (gS gZ))),trivial⟩ (by kernel_rfl) ?_
 exact ⟨cN,cO,cP,cQ,cR,cS,rfl,h⟩
def m_M3 (p1:Option Addr) (aA aB aE:Int) (aC:ByteArray) (aD:Bool) (w0:World) (K:Int→Int→WP):Prop :=
 ∀(H1:NP) (w1:World),Hst w0 None w0 H1 w1 →
 Calls Tryz.prog 142 #[(.agg #[(vi aA),(vi aB),(vu aE),(vs aC),(vb aD)])] w1 (fun e w2=>∃r1:Int,e=.returned (vi r1)∧
  Kept H1 w1 w2 ∧
  Br (r1 != 0)
   (K 0 r1 w2)
   (Br (Option.isNone p1)
    (K 0 2 w2)
    (Calls Tryz.prog 143 #[(.agg #[(vi aA),(vi aB),(vu aE),(vs aC),(vb aD)])] w2 (fun e w3=>∃aF aG:Int,∃aH aI:Int,∃aJ:ByteArray,∃aK:Sl,e=.returned (.agg #[(vi aF),(vi aG),(vi aH),(vu aI),(vs aJ),aK.v])∧
     Kept H1 w2 w3 ∧
     Calls Tryz.prog 77 #[(vp p1),(.agg #[(vi aF),(vi aG),(vi aH),(vu aI),(vs aJ),aK.v])] w3 (fun e w4=>∃r2 r3:Int,e=.returned (.tuple #[(vi r2),(vi r3)])∧
      Kept H1 w3 w4 ∧
      K r2 r3 w4)))))
theorem w_M3 (p1 : Option Addr) (aA aB aE : Int) (aC : ByteArray) (aD : Bool) (w0 : World) (K : Int → Int → WP) (h : m_M3 p1 aA aB aE aC aD w0 K) :
  Calls Tryz.prog 76 #[(vp p1),(.agg #[(vi aA),(vi aB),(vu aE),(vs aC),(vb aD)])] w0 (fun e w'=>∃r4 r5:Int,e=.returned (.tuple #[(vi r4),(vi r5)])∧K r4 r5 w'):=by
 unfold m_M3 at h
 refine cw (args:=[(vp p1),(.agg #[(vi aA),(vi aB),(vu aE),(vs aC),(vb aD)])]) Tryz.func76 Tryz.ntmps76 ?_
 have hs:=Hst.start w0
 have hb:=HB.nil None w0
 refine eg (sn (O:=(.cells #[(vi aA),(vi aB),(vu aE),(vs aC),(vb aD)] 35)) xb ?_)
 intro p2 w1 hn1
 obtain ⟨H1,hs,hb⟩:=hs.alloc hb hn1
 refine q0 (vi 0) (q0 (vi 0) (ln (wpE_seq (eg (q2 (.agg #[(vi aA),(vi aB),(vu aE),(vs aC),(vb aD)]) (xa p2 [(vi aA),(vi aB),(vu aE),(vs aC),(vb aD)] (Tryz.isAgg35 _) (Tryz.sizeOf35 _) (hb.r0 0 5 gZ)) ?_)))))
 have h:=h H1 w1 hs
 have hs:=hs.here
 refine sc Tryz.call142 (h.mono ?_)
 rintro e w2 ⟨r1,rfl,hk,h⟩
 refine ⟨_,rfl,?_⟩
 obtain ⟨hs,hb⟩:=hk.hh hs hb
 refine q0 (vi r1) (ln (eg (q0 (vi r1) (q0 (vb (r1 != 0)) (ln ?_)))))
 refine wpE_cond (t:=(r1 != 0)) (by kernel_rfl) (fun hc1=>?_) (fun hc1=>?_)
 have h:=h.1 hc1
 refine eg (q0 (vi r1) (q0 (vi 0) (q0 (vi r1) (ln (er (th_r (res2 (.inl rfl) Tryz.results76 (v:=(vi 0)) (by kernel_rfl) (v':=(vi r1)) (by kernel_rfl) ?_)))))))
 exact ⟨0,r1,rfl,h⟩
 have h:=h.2 hc1
 refine wpE_skip (th_n (wpE_seq (eg (q0 (vp p1) (q2 (vb (Option.isNone p1)) (x_ptreq (by kernel_rfl) rfl Tryz.underlying68) (ln ?_))))))
 refine wpE_cond (t:=(Option.isNone p1)) (by kernel_rfl) (fun hc2=>?_) (fun hc2=>?_)
 have h:=h.1 hc2
 refine eg (q0 (vi 0) (q0 (vi 2) (ln (er (th_r (res2 (.inl rfl) Tryz.results76 (v:=(vi 0)) (by kernel_rfl) (v':=(vi 2)) (by kernel_rfl) ?_))))))
 exact ⟨0,2,rfl,h⟩
 have h:=h.2 hc2
 refine wpE_skip (th_n (eg (q0 (vp p1) (q2 (.agg #[(vi aA),(vi aB),(vu aE),(vs aC),(vb aD)]) (xa p2 [(vi aA),(vi aB),(vu aE),(vs aC),(vb aD)] (Tryz.isAgg35 _) (Tryz.sizeOf35 _) (hb.r0 0 5 gZ)) ?_))))
 refine sc Tryz.call143 (h.mono ?_)
 rintro e w3 ⟨aF,aG,aH,aI,aJ,aK,rfl,hk,h⟩
 refine ⟨_,rfl,?_⟩
 obtain ⟨hs,hb⟩:=hk.hh hs hb
 refine sc Tryz.call77 (h.mono ?_)
 rintro e w4 ⟨r2,r3,rfl,hk,h⟩
 refine ⟨_,rfl,?_⟩
 obtain ⟨hs,hb⟩:=hk.hh hs hb
 refine q0 (vi r2) (q0 (vi r3) (q0 (vi r2) (q0 (vi r3) (ln (er (res2 (.inl rfl) Tryz.results76 (v:=(vi r2)) (by kernel_rfl) (v':=(vi r3)) (by kernel_rfl) ?_))))))
 exact ⟨r2,r3,rfl,h⟩
end Go.Proofs
end
section
open Go Go.SE
namespace Go.Proofs
attribute [local irreducible] Calls
def kindsT:Array Value:=#[.bool false,.bool false,.bool false,.string ⟨#[]⟩,.bool true,.bool true,.bool true,.string ⟨#[112,114,111,109,105,115,101]⟩,.bool true,.bool true,.bool false,.string ⟨#[115,105,103,110]⟩,.bool false,.bool false,.bool false,.string ⟨#[97,98,111,114,116]⟩,.bool true,.bool true,.bool true,.string ⟨#[114,101,115,111,108,118,101]⟩,.bool false,.bool false,.bool false,.string ⟨#[116,111,107,101,110]⟩,.bool false,.bool true,.bool false,.string ⟨#[105,110,115,116,101,97,100]⟩,.bool false,.bool false,.bool false,.string ⟨#[102,117,108,108]⟩]
theorem c_ltKinds (w:World):Calls Tryz.prog 193 #[] w (fun e w'=>∃r:Array Value,e=.returned (.agg r)∧(r=kindsT∧Pure w w')):=by
 refine w_G3 w (fun r w'=>r=kindsT∧Pure w w') ?_
 unfold m_G3
 intro p1 w1 h1
 have E1:Pure w w1:=Ext.new h1
 have hp:=New.own (Ext.refl w) h1
 have b1:=Box.of_newA h1
 clear h1
 refine bx 32 b1 (by kernel_rfl) (by kernel_rfl) (fun w' b E=>?_)
 exact ⟨kindsT,⟨by kernel_rfl,b.row_eq (by kernel_rfl)⟩,rfl,E1.own hp E⟩
theorem c_chk (l : Sp.Letter) (hk : 1 ≤ l.kind ∧ l.kind ≤ 7) (p : Addr) {w0 w : World} {H : NP} {wd : ByteArray} {T : TypeId} (hB : Box w p [.bool (Sp.isSigned l.kind), .bool (Sp.isTexted l.kind), .bool (l.kind == 1 || l.kind == 4), .string wd] T) (hv : ¬ H p.block) (hE : Pure w0 w) :
  m_L_j1 l.frm l.text l.fake p w0 H w (fun x w'=>x=Sp.letErr l∧Pure w0 w'):=by
 obtain ⟨k,f,c,x,fk⟩:=l
 simp only at *
 have vis:∀{H H':NP} {w w':World},Box w p [.bool (Sp.isSigned k),.bool (Sp.isTexted k),.bool (k == 1 || k == 4),.string wd] T→¬ H p.block→Hst w0 H w H' w'→¬ H' p.block∧Box w' p [.bool (Sp.isSigned k),.bool (Sp.isTexted k),.bool (k == 1 || k == 4),.string wd] T:=fun hB hv hs=>by
  have h:=hs.disj (G:=(·=p.block)) (fun b e=>by subst e;exact ⟨hB.lt,hv⟩) _ rfl
  exact ⟨h,hB.ext hs.ext h⟩
 unfold m_L_j1
 have bad:(f≠0∧f≠1)∨(Sp.isSigned k=false∧f≠0)∨(Sp.isTexted k=false∧x≠⟨#[]⟩)∨(fk=true∧k≠1∧k≠4)→(110:Int)=Sp.letErr ⟨k,f,c,x,fk⟩:=fun h=>by
  unfold Sp.letErr;rw [if_pos]
  rcases h with h | h | h | h
  ·exact .inr (.inr (.inl h))
  ·exact .inr (.inr (.inr (.inl h)))
  ·exact .inr (.inr (.inr (.inr (.inl h))))
  ·exact .inr (.inr (.inr (.inr (.inr h))))
 refine ⟨fun hc H4 w4 hs4=>⟨bad (.inl ?_),hE.hst hs4⟩,fun hc H4 w4 hs4=>?_⟩
 ·rw [Bool.and_eq_true] at hc;exact ⟨bne_iff_ne.1 hc.1,bne_iff_ne.1 hc.2⟩
 have hf:f=0∨f=1:=by
  rw [Bool.and_eq_false_iff] at hc
  exact hc.imp (fun h=>by simpa using h) (fun h=>by simpa using h)
 obtain ⟨v4,B4⟩:=vis hB hv hs4
 have E4:=hE.hst hs4
 refine ⟨_,B4.cell0,fun H8 w8 hs8=>?_⟩
 obtain ⟨v8,B8⟩:=vis B4 v4 hs8
 have E8:=E4.hst hs8
 unfold m_L_j2
 refine ⟨fun hc2=>⟨bad (.inr (.inl ?_)),E8⟩,fun hc2=>?_⟩
 ·rw [Bool.and_eq_true] at hc2;exact ⟨by simpa using hc2.1,bne_iff_ne.1 hc2.2⟩
 have hs:¬ (Sp.isSigned k=false∧f≠0):=fun h=>by
  rw [Bool.and_eq_false_iff] at hc2
  exact hc2.elim (fun h2=>by rw [h.1] at h2;cases h2) (fun h2=>h.2 (by simpa using h2))
 refine ⟨_,B8.cell (i:=1) rfl,fun H7 w7 hs7=>?_⟩
 obtain ⟨v7,B7⟩:=vis B8 v8 hs7
 have E7:=E8.hst hs7
 unfold m_L_j3
 refine ⟨fun hc3=>⟨bad (.inr (.inr (.inl ?_))),E7⟩,fun hc3=>?_⟩
 ·rw [Bool.and_eq_true] at hc3
  exact ⟨by simpa using hc3.1,by simpa using hc3.2⟩
 have ht:¬ (Sp.isTexted k=false∧x≠⟨#[]⟩):=fun h=>by
  rw [Bool.and_eq_false_iff] at hc3
  exact hc3.elim (fun h2=>by rw [h.1] at h2;cases h2) (fun h2=>h.2 (by simpa using h2))
 refine ⟨_,B7.cell (i:=2) rfl,fun hc4 H6 w6 hs6=>⟨bad (.inr (.inr (.inr ?_))),E7.hst hs6⟩,fun hc4=>?_⟩
 ·rw [Bool.and_eq_true] at hc4
  have h1:(k == 1 || k == 4)=false:=by simpa using hc4.1
  rw [Bool.or_eq_false_iff] at h1
  exact ⟨hc4.2,by simpa using h1.1,by simpa using h1.2⟩
 have hfk:¬ (fk=true∧k≠1∧k≠4):=fun h=>by
  rw [Bool.and_eq_false_iff] at hc4
  refine hc4.elim (fun h2=>?_) (fun h2=>by rw [h.1] at h2;cases h2)
  have h1:(k == 1 || k == 4)=true:=by
   cases hh:(k == 1 || k == 4) with
   | true=>rfl
   | false=>rw [hh] at h2;cases h2
  rw [Bool.or_eq_true] at h1
  exact h1.elim (fun h3=>h.2.1 (by simpa using h3)) (fun h3=>h.2.2 (by simpa using h3))
 have good:¬ (k<1∨k>7∨(f≠0∧f≠1)∨(Sp.isSigned k=false∧f≠0)∨(Sp.isTexted k=false∧x≠⟨#[]⟩)∨(fk=true∧k≠1∧k≠4)):=by
  rintro (h | h | h | h | h | h)
  ·omega
  ·omega
  ·omega
  ·exact hs h
  ·exact ht h
  ·exact hfk h
 refine ⟨fun hc5 H6 w6 hs6=>⟨?_,E7.hst hs6⟩,fun hc5 H6 w6 hs6=>⟨?_,E7.hst hs6⟩⟩
 ·have:=of_decide_eq_true hc5
  unfold Sp.letErr;rw [if_neg good,if_pos (by simp only;omega)]
 ·have:=of_decide_eq_false hc5
  unfold Sp.letErr;rw [if_neg good,if_neg (by simp only;omega)]
theorem c_ltCheck (l:Sp.Letter) (w0:World):Calls Tryz.prog 142 #[.agg #[.int .i64 l.kind,.int .i64 l.frm,.int .u64 l.c,.string l.text,.bool l.fake]] w0 (fun e w'=>∃r:Int,e=.returned (.int .i64 r)∧(r=Sp.letErr l∧Pure w0 w')):=by
 refine w_L _ _ _ _ _ w0 (fun r w'=>r=Sp.letErr l∧Pure w0 w') ?_
 unfold m_L
 refine ⟨fun hc H2 w2 hs2=>⟨?_,hs2.first⟩,fun hc H2 w2 hs2=>?_⟩
 ·unfold Sp.letErr
  rw [if_pos]
  rw [Bool.or_eq_true] at hc
  exact hc.elim (fun h=>.inl (of_decide_eq_true h)) (fun h=>.inr (.inl (of_decide_eq_true h)))
 have hk:1≤l.kind∧l.kind≤7:=by
  rw [Bool.or_eq_false_iff] at hc
  have h1:=of_decide_eq_false hc.1;have h2:=of_decide_eq_false hc.2;omega
 have E2:Pure w0 w2:=hs2.first
 have idx:∃wd:ByteArray,∀w':World,(Instr.index 302 (.agg kindsT) (.int .i64 l.kind)).run Tryz.prog w'=.ok (.agg #[.bool (Sp.isSigned l.kind),.bool (Sp.isTexted l.kind),.bool (l.kind == 1 || l.kind == 4),.string wd]) w':=by
  have:l.kind=1∨l.kind=2∨l.kind=3∨l.kind=4∨l.kind=5∨l.kind=6∨l.kind=7:=by omega
  rcases this with e | e | e | e | e | e | e <;> rw [e]
  ·exact ⟨⟨#[112,114,111,109,105,115,101]⟩,fun w'=>by kernel_rfl⟩
  ·exact ⟨⟨#[115,105,103,110]⟩,fun w'=>by kernel_rfl⟩
  ·exact ⟨⟨#[97,98,111,114,116]⟩,fun w'=>by kernel_rfl⟩
  ·exact ⟨⟨#[114,101,115,111,108,118,101]⟩,fun w'=>by kernel_rfl⟩
  ·exact ⟨⟨#[116,111,107,101,110]⟩,fun w'=>by kernel_rfl⟩
  ·exact ⟨⟨#[105,110,115,116,101,97,100]⟩,fun w'=>by kernel_rfl⟩
  ·exact ⟨⟨#[102,117,108,108]⟩,fun w'=>by kernel_rfl⟩
 obtain ⟨wd,idx⟩:=idx
 refine ⟨fun _=>True,trivial,?_⟩
 rintro w9 e9
 have E9:Pure w2 w9:=by rw [e9];exact Ext.drew w2
 have hH:∀b,H2 b→b<w9.heap.size:=fun b hb=>by have:=hs2.lt b hb;have:=E9.size;omega
 refine ⟨?_,?_⟩
 ·refine (c_ltKinds w9).mono ?_
  rintro _ w10 ⟨_,rfl,rfl,E10⟩
  refine ⟨_,rfl,trivial,E10.keptP,_,_,_,_,fun w' _=>idx w',?_⟩
  intro p2 w11 n11
  have b11:=n11.at_size
  have z10:=E10.size
  have hv:¬ H2 p2.block:=fun hh=>by have:=hH _ hh;omega
  refine ⟨trivial,(Box.of_newA n11).canWs (by simp),hv,?_⟩
  rintro w12 e12
  have X:Ext (·=p2.block) w11 w12:=by rw [e12];exact Ext.storeRow _ _ _
  have B:Box w12 p2 [.bool (Sp.isSigned l.kind),.bool (Sp.isTexted l.kind),.bool (l.kind == 1 || l.kind == 4),.string wd] 301:=by rw [e12];exact (Box.of_newA n11).store rfl
  have z2:=E2.size;have z9:=E9.size
  exact c_chk l hk p2 B hv ((((E2.trans E9).trans E10).trans (Ext.new n11)).own (by omega) X)
 ·intro p3 w13 n13
  refine ⟨trivial,?_⟩
  have b13:=n13.at_size
  have E13:Pure w9 w13:=Ext.new n13
  have hv:¬ H2 p3.block:=fun hh=>by have:=hH _ hh;omega
  refine (c_ltKinds w13).mono ?_
  rintro _ w14 ⟨_,rfl,rfl,E14⟩
  have B14:=(Box.of_newA n13).pure E14
  refine ⟨_,rfl,trivial,E14.keptP,_,_,_,_,fun w' _=>idx w',B14.canWs (by simp),hv,?_⟩
  rintro w15 e15
  have X:Ext (·=p3.block) w14 w15:=by rw [e15];exact Ext.storeRow _ _ _
  have B:Box w15 p3 [.bool (Sp.isSigned l.kind),.bool (Sp.isTexted l.kind),.bool (l.kind == 1 || l.kind == 4),.string wd] 301:=by rw [e15];exact B14.store rfl
  have z2:=E2.size;have z9:=E9.size
  exact c_chk l hk p3 B hv ((((E2.trans E9).trans E13).trans E14).own (by omega) X)
abbrev RetS (S:NP) (w:World) (T:Sp.Tree) (e:Ending) (w':World):Prop:=∃s,e=.returned (.agg (trow T s).toArray)∧TreeAt S w' s T∧Pure w w'
theorem tree_back {S:NP} (w:World) {A:Sp.Tree} {sa:Sl} {H3:NP} {w3 w4 w5:World} {p:Addr} {o:Obj} (hA:TreeAt S w sa A) (hs3:Hst w None w H3 w3) (n4:New w3 o p w4) (hs5:Hst w H3 w4 H3 w5):TreeAt S w5 sa A:=by
 have E3:Pure w w3:=hs3.first
 have E4:Pure w3 w4:=Ext.new n4
 exact (((hA.lt.pure E3).pure E4).ext hs5.ext (fun b hb hh=>by have:=hs3.old b hh;omega)).mono (fun b hb=>hb.1)
section
variable {S:NP} (w:World) (hS:∀b,w.heap.size≤b→S b)
include hS
theorem c_ltPair (A B:Sp.Tree) (sa sb:Sl) (hA:TreeAt S w sa A) (hB:TreeAt S w sb B):Calls Tryz.prog 197 #[.agg (trow A sa).toArray,.agg (trow B sb).toArray] w (RetS S w (Sp.pairT A B)):=by
 obtain ⟨k,f,t,u,x,ks⟩:=A
 obtain ⟨k2,f2,t2,u2,x2,ks2⟩:=B
 refine (w_H3 k f t u x sa k2 f2 t2 u2 x2 sb w (fun k' f' t' u' y s w'=>(⟨k',f',t',u',y,0,0⟩:Sp.Node)=(Sp.pairT (.mk k f t u x ks) (.mk k2 f2 t2 u2 x2 ks2)).node∧TreeAt S w' s (Sp.pairT (.mk k f t u x ks) (.mk k2 f2 t2 u2 x2 ks2))∧Pure w w') ?_).mono ?_
 ·unfold m_H3
  intro H3 w3 hs3 p4 w4 n4 w5 hs5
  have b4:=n4.at_size
  have z3:=hs3.first.size
  have B4:Box w4 p4 (trow (.mk k f t u x ks) sa++trow (.mk k2 f2 t2 u2 x2 ks2) sb) 107:=Box.of_newA n4
  exact ⟨rfl,TreeAt.pair (B4.ext hs5.ext (fun hh=>by have:=hs3.lt _ hh;omega)) (hS _ (by omega)) (tree_back w hA hs3 n4 hs5) (tree_back w hB hs3 n4 hs5),(hs3.first.trans (Ext.new n4)).hst hs5⟩
 ·rintro _ w' ⟨k,f,t,u,y,s,rfl,hn,hT,E⟩
  cases hn;exact ⟨s,rfl,hT,E⟩
theorem c_ltSign (n:Int) (A:Sp.Tree) (sa:Sl) (hA:TreeAt S w sa A):Calls Tryz.prog 196 #[.int .i64 n,.agg (trow A sa).toArray] w (RetS S w (Sp.signT n A)):=by
 obtain ⟨k,f,t,u,x,ks⟩:=A
 refine (w_K3 n k f t u x sa w (fun k' f' t' u' y s w'=>(⟨k',f',t',u',y,0,0⟩:Sp.Node)=(Sp.signT n (.mk k f t u x ks)).node∧TreeAt S w' s (Sp.signT n (.mk k f t u x ks))∧Pure w w') ?_).mono ?_
 ·unfold m_K3
  intro H3 w3 hs3 p4 w4 n4 w5 hs5
  have b4:=n4.at_size
  have z3:=hs3.first.size
  have B4:Box w4 p4 (trow (.mk k f t u x ks) sa) 107:=Box.of_newA n4
  exact ⟨rfl,TreeAt.one (B4.ext hs5.ext (fun hh=>by have:=hs3.lt _ hh;omega)) (hS _ (by omega)) (tree_back w hA hs3 n4 hs5),(hs3.first.trans (Ext.new n4)).hst hs5⟩
 ·rintro _ w' ⟨k,f,t,u,y,s,rfl,hn,hT,E⟩
  cases hn;exact ⟨s,rfl,hT,E⟩
theorem c_ltPromise (n:Int) (hn:n=0∨n=1) (fk:Bool) (A:Sp.Tree) (sa:Sl) (hA:TreeAt S w sa A):Calls Tryz.prog 195 #[.int .i64 n,.bool fk,.agg (trow A sa).toArray] w (RetS S w (Sp.promT n A fk)):=by
 obtain ⟨k,f,t,u,x,ks⟩:=A
 refine (w_J3 n fk k f t u x sa w (fun k' f' t' u' y s w'=>(⟨k',f',t',u',y,0,0⟩:Sp.Node)=(Sp.promT n (.mk k f t u x ks) fk).node∧TreeAt S w' s (Sp.promT n (.mk k f t u x ks) fk)∧Pure w w') ?_).mono ?_
 ·unfold m_J3
  intro H3 w3 hs3 p4 w4 n4 w5 hs5
  have b4:=n4.at_size
  have z3:=hs3.first.size
  have B4:Box w4 p4 (trow (.mk k f t u x ks) sa) 107:=Box.of_newA n4
  refine ⟨?_,TreeAt.one (B4.ext hs5.ext (fun hh=>by have:=hs3.lt _ hh;omega)) (hS _ (by omega)) (tree_back w hA hs3 n4 hs5),(hs3.first.trans (Ext.new n4)).hst hs5⟩
  have:IntKind.i64.wrap (1 - n)=1 - n:=IntWalk.i64_in _ (by omega)
  rw [this]
  cases fk <;> rfl
 ·rintro _ w' ⟨k,f,t,u,y,s,rfl,hn,hT,E⟩
  cases hn;exact ⟨s,rfl,hT,E⟩
theorem c_ltDeal (c:Int) (x:ByteArray):Calls Tryz.prog 194 #[.int .u64 c,.string x] w (RetS S w (Sp.dealT c x)):=by
 refine (w_I3 c x w (fun k f t u y s w'=>(⟨k,f,t,u,y,0,0⟩:Sp.Node)=(Sp.dealT c x).node∧TreeAt S w' s (Sp.dealT c x)∧Pure w w') ?_).mono ?_
 ·unfold m_I3
  intro H1 w4 hs4
  have E4:Pure w w4:=hs4.first
  have z4:=E4.size
  have hH:∀b,H1 b→b<w4.heap.size:=fun b hb=>hs4.lt b hb
  refine (c_ltPair (S:=(w4.heap.size≤·)) w4 (fun _ h=>h) (Sp.numT c) (Sp.dataT x) Sl.nil Sl.nil TreeAt.leaf TreeAt.leaf).mono ?_
  rintro _ w5 ⟨s5,rfl,hT5,E5⟩
  refine ⟨_,_,_,_,_,s5,rfl,E5.keptP,?_⟩
  refine (c_ltPair (S:=(w4.heap.size≤·)) w5 (fun b h=>by have:=E5.size;show w4.heap.size≤b;omega) (Sp.dataT Sp.wDeal) (Sp.pairT (Sp.numT c) (Sp.dataT x)) Sl.nil s5 TreeAt.leaf hT5).mono ?_
  rintro _ w6 ⟨s6,rfl,hT6,E6⟩
  refine ⟨_,_,_,_,_,s6,rfl,E6.keptP,fun w7 hs7=>⟨rfl,?_,((E4.trans E5).trans E6).hst hs7⟩⟩
  exact (hT6.ext hs7.ext (fun b hb hh=>by have:=hH b hh;have:w4.heap.size≤b:=hb;omega)).mono (fun b hb=>hS b (by have:w4.heap.size≤b:=hb;omega))
 ·rintro _ w' ⟨k,f,t,u,y,s,rfl,hn,hT,E⟩
  cases hn;exact ⟨s,rfl,hT,E⟩
end
theorem c_ltTree (l:Sp.Letter) (hf:l.frm=0∨l.frm=1) (w0:World):Calls Tryz.prog 143 #[.agg #[.int .i64 l.kind,.int .i64 l.frm,.int .u64 l.c,.string l.text,.bool l.fake]] w0 (RetS (w0.heap.size≤·) w0 (Sp.letterT l true true)):=by
 obtain ⟨kd,f,c,x,fk⟩:=l
 simp only at hf
 generalize hR:Sp.letterT ⟨kd,f,c,x,fk⟩ true true=R
 refine (w_L3 kd f c x fk w0 (fun k f t u y s w'=>(⟨k,f,t,u,y,0,0⟩:Sp.Node)=R.node∧TreeAt (w0.heap.size≤·) w' s R∧Pure w0 w') ?_).mono ?_
 ·unfold m_L3
  intro H2 w2 hs2
  have E2:Pure w0 w2:=hs2.first
  have z2:=E2.size
  refine (c_ltDeal (S:=(w2.heap.size≤·)) w2 (fun _ h=>h) c x).mono ?_
  rintro _ w3 ⟨sd,rfl,hT3,E3⟩
  refine ⟨_,_,_,_,_,sd,rfl,E3.keptP,?_⟩
  have z3:=E3.size
  have go:∀{H3:NP} {w5:World},Hst w0 H2 w3 H3 w5→TreeAt (fun b=>w0.heap.size≤b∧¬ H3 b) w5 sd (Sp.dealT c x)∧Pure w0 w5∧(∀w:World,w5.heap.size≤w.heap.size→∀b,w.heap.size≤b→w0.heap.size≤b∧¬ H3 b):=fun {H3 w5} hs=>by
   have hd:∀b,(w2.heap.size≤b∧b<w3.heap.size)→¬ H3 b:=hs.disj (fun b hb=>⟨hb.2,fun hh=>by have:=hs2.lt b hh;omega⟩)
   refine ⟨(hT3.lt.ext hs.ext (fun b hb=>hd b hb)).mono (fun b hb=>⟨by have:=hb.1;omega,hd b hb⟩),(E2.trans E3).hst hs,fun w hw b hb=>⟨by have:=hs.ext.size;omega,fun hh=>by have:=hs.lt b hh;omega⟩⟩
  have fin:∀{H3:NP} {wa wb:World} {s:Sl} {T:Sp.Tree},TreeAt (fun b=>w0.heap.size≤b∧¬ H3 b) wa s T→Pure w0 wa→Hst w0 H3 wa H3 wb→T=R→R.node=R.node∧TreeAt (w0.heap.size≤·) wb s R∧Pure w0 wb:=fun {H3 wa wb s T} h E hs e=>by
   subst e
   exact ⟨rfl,(h.ext hs.ext (fun b hb=>hb.2)).mono (fun b hb=>hb.1),E.hst hs⟩
  have fin2:∀{H3:NP} {wa wb:World} {s:Sl} {T:Sp.Tree},TreeAt (fun b=>w0.heap.size≤b∧¬ H3 b) wa s T→Pure w0 wa→Hst w0 H3 wa H3 wb→R=T→(⟨T.node.kind,T.node.frm,T.node.to,T.node.num,T.node.text,0,0⟩:Sp.Node)=R.node∧TreeAt (w0.heap.size≤·) wb s R∧Pure w0 wb:=fun {H3 wa wb s T} h E hs e=>by
   subst e
   refine ⟨?_,(fin h E hs rfl).2⟩
   cases R;rfl
  refine ⟨fun hk H3 w5 hs5=>?_,fun h1=>⟨fun hk H3 w5 hs5=>?_,fun h2=>⟨fun hk H3 w5 hs5=>?_,fun h3=>⟨fun hk H3 w5 hs5=>?_,fun h4=>⟨fun hk H3 w5 hs5=>?_,fun h5=>⟨fun hk H3 w5 hs5=>?_,fun h6 H3 w5 hs5=>?_⟩⟩⟩⟩⟩⟩
  ·have hk:=beq_iff_eq.1 hk
   obtain ⟨hD,E5,hS⟩:=go hs5
   refine (c_ltPromise w5 (hS w5 (Nat.le_refl _)) f hf fk _ sd hD).mono ?_
   rintro _ w6 ⟨s6,rfl,hT6,E6⟩
   refine ⟨_,_,_,_,_,s6,rfl,E6.keptP,fun w7 hs7=>fin2 hT6 (E5.trans E6) hs7 ?_⟩
   rw [← hR];unfold Sp.letterT;rw [if_pos hk]
  ·have hk:=beq_iff_eq.1 hk
   obtain ⟨hD,E5,hS⟩:=go hs5
   refine (c_ltSign w5 (hS w5 (Nat.le_refl _)) f _ sd hD).mono ?_
   rintro _ w6 ⟨s6,rfl,hT6,E6⟩
   refine ⟨_,_,_,_,_,s6,rfl,E6.keptP,fun w7 hs7=>fin2 hT6 (E5.trans E6) hs7 ?_⟩
   rw [← hR];unfold Sp.letterT;rw [if_neg (fun e=>beq_eq_false_iff_ne.1 h1 e),if_pos hk]
  ·have hk:=beq_iff_eq.1 hk
   obtain ⟨hD,E5,hS⟩:=go hs5
   refine ⟨fun _=>True,trivial,?_⟩
   rintro w10 e10
   have E10:Pure w5 w10:=by rw [e10];exact Ext.drew w5
   refine (p_Q _ w10).mono ?_
   rintro _ w11 ⟨rfl,E11⟩
   refine ⟨_,_,_,_,_,_,rfl,trivial,E11.keptP,?_⟩
   refine (p_W _ w11).mono ?_
   rintro _ w12 ⟨rfl,E12⟩
   refine ⟨_,_,_,_,_,_,rfl,E12.keptP,?_⟩
   have z12:=((E10.trans E11).trans E12).size
   refine (c_ltPair w12 (hS w12 z12) (Sp.dataT Sp.wAbort) (Sp.numT c) Sl.nil Sl.nil TreeAt.leaf TreeAt.leaf).mono ?_
   rintro _ w13 ⟨s13,rfl,hT13,E13⟩
   refine ⟨_,_,_,_,_,s13,rfl,E13.keptP,?_⟩
   refine (c_ltSign w13 (hS w13 (by have:=E13.size;omega)) 0 _ s13 hT13).mono ?_
   rintro _ w14 ⟨s14,rfl,hT14,E14⟩
   refine ⟨_,_,_,_,_,s14,rfl,E14.keptP,fun w15 hs15=>fin2 hT14 (((((E5.trans E10).trans E11).trans E12).trans E13).trans E14) hs15 ?_⟩
   rw [← hR];unfold Sp.letterT;rw [if_neg (fun e=>beq_eq_false_iff_ne.1 h1 e),if_neg (fun e=>beq_eq_false_iff_ne.1 h2 e),if_pos hk]
  ·have hk:=beq_iff_eq.1 hk
   obtain ⟨hD,E5,hS⟩:=go hs5
   refine ⟨fun _=>True,trivial,?_⟩
   rintro w16 e16
   have E16:Pure w5 w16:=by rw [e16];exact Ext.drew w5
   refine (p_Q _ w16).mono ?_
   rintro _ w17 ⟨rfl,E17⟩
   refine ⟨_,_,_,_,_,_,rfl,trivial,E17.keptP,?_⟩
   have E57:=E16.trans E17
   refine (c_ltPromise w17 (hS w17 E57.size) 0 (.inl rfl) fk _ sd (hD.pure E57)).mono ?_
   rintro _ w18 ⟨s18,rfl,hT18,E18⟩
   refine ⟨_,_,_,_,_,s18,rfl,trivial,E18.keptP,?_⟩
   have E58:=E57.trans E18
   refine (c_ltPromise w18 (hS w18 E58.size) 1 (.inr rfl) fk _ sd (hD.pure E58)).mono ?_
   rintro _ w19 ⟨s19,rfl,hT19,E19⟩
   refine ⟨_,_,_,_,_,s19,rfl,trivial,E19.keptP,?_⟩
   have E59:=E58.trans E19
   refine (c_ltPair w19 (hS w19 E59.size) _ _ s18 s19 (hT18.pure E19) hT19).mono ?_
   rintro _ w20 ⟨s20,rfl,hT20,E20⟩
   refine ⟨_,_,_,_,_,s20,rfl,trivial,E20.keptP,?_⟩
   have E510:=E59.trans E20
   refine (c_ltPair w20 (hS w20 E510.size) (Sp.dataT Sp.wResolve) _ Sl.nil s20 TreeAt.leaf hT20).mono ?_
   rintro _ w21 ⟨s21,rfl,hT21,E21⟩
   refine ⟨_,_,_,_,_,s21,rfl,trivial,E21.keptP,?_⟩
   have E511:=E510.trans E21
   refine (c_ltSign w21 (hS w21 E511.size) f _ s21 hT21).mono ?_
   rintro _ w22 ⟨s22,rfl,hT22,E22⟩
   refine ⟨_,_,_,_,_,s22,rfl,E22.keptP,fun w23 hs23=>fin2 hT22 ((E5.trans E511).trans E22) hs23 ?_⟩
   rw [← hR];unfold Sp.letterT;rw [if_neg (fun e=>beq_eq_false_iff_ne.1 h1 e),if_neg (fun e=>beq_eq_false_iff_ne.1 h2 e),if_neg (fun e=>beq_eq_false_iff_ne.1 h3 e),if_pos hk]
   simp only [Bool.and_true]
  ·have hk:=beq_iff_eq.1 hk
   obtain ⟨hD,E5,hS⟩:=go hs5
   refine ⟨fun _=>True,trivial,?_⟩
   rintro w10 e10
   have E10:Pure w5 w10:=by rw [e10];exact Ext.drew w5
   refine (p_Q _ w10).mono ?_
   rintro _ w11 ⟨rfl,E11⟩
   refine ⟨_,_,_,_,_,_,rfl,trivial,E11.keptP,?_⟩
   refine (p_W _ w11).mono ?_
   rintro _ w12 ⟨rfl,E12⟩
   refine ⟨_,_,_,_,_,_,rfl,E12.keptP,?_⟩
   have z12:=((E10.trans E11).trans E12).size
   refine (c_ltPair w12 (hS w12 z12) (Sp.dataT Sp.wAborted) (Sp.numT c) Sl.nil Sl.nil TreeAt.leaf TreeAt.leaf).mono ?_
   rintro _ w13 ⟨s13,rfl,hT13,E13⟩
   refine ⟨_,_,_,_,_,s13,rfl,E13.keptP,?_⟩
   refine (c_ltSign w13 (hS w13 (by have:=E13.size;omega)) 2 _ s13 hT13).mono ?_
   rintro _ w14 ⟨s14,rfl,hT14,E14⟩
   refine ⟨_,_,_,_,_,s14,rfl,E14.keptP,fun w15 hs15=>fin2 hT14 (((((E5.trans E10).trans E11).trans E12).trans E13).trans E14) hs15 ?_⟩
   rw [← hR];unfold Sp.letterT;rw [if_neg (fun e=>beq_eq_false_iff_ne.1 h1 e),if_neg (fun e=>beq_eq_false_iff_ne.1 h2 e),if_neg (fun e=>beq_eq_false_iff_ne.1 h3 e),if_neg (fun e=>beq_eq_false_iff_ne.1 h4 e),if_pos hk]
  ·have hk:=beq_iff_eq.1 hk
   obtain ⟨hD,E5,hS⟩:=go hs5
   refine ⟨fun _=>True,trivial,?_⟩
   rintro w10 e10
   have E10:Pure w5 w10:=by rw [e10];exact Ext.drew w5
   refine (p_Q _ w10).mono ?_
   rintro _ w11 ⟨rfl,E11⟩
   refine ⟨_,_,_,_,_,_,rfl,trivial,E11.keptP,?_⟩
   have z11:=(E10.trans E11).size
   refine (c_ltPair w11 (hS w11 z11) (Sp.dataT Sp.wInstead) _ Sl.nil sd TreeAt.leaf (hD.pure (E10.trans E11))).mono ?_
   rintro _ w13 ⟨s13,rfl,hT13,E13⟩
   refine ⟨_,_,_,_,_,s13,rfl,E13.keptP,?_⟩
   refine (c_ltSign w13 (hS w13 (by have:=E13.size;omega)) 2 _ s13 hT13).mono ?_
   rintro _ w14 ⟨s14,rfl,hT14,E14⟩
   refine ⟨_,_,_,_,_,s14,rfl,E14.keptP,fun w15 hs15=>fin2 hT14 ((((E5.trans E10).trans E11).trans E13).trans E14) hs15 ?_⟩
   rw [← hR];unfold Sp.letterT;rw [if_neg (fun e=>beq_eq_false_iff_ne.1 h1 e),if_neg (fun e=>beq_eq_false_iff_ne.1 h2 e),if_neg (fun e=>beq_eq_false_iff_ne.1 h3 e),if_neg (fun e=>beq_eq_false_iff_ne.1 h4 e),if_neg (fun e=>beq_eq_false_iff_ne.1 h5 e),if_pos hk]
  ·obtain ⟨hD,E5,hS⟩:=go hs5
   refine ⟨fun _=>True,trivial,?_⟩
   rintro w10 e10
   have E10:Pure w5 w10:=by rw [e10];exact Ext.drew w5
   refine (p_Q _ w10).mono ?_
   rintro _ w11 ⟨rfl,E11⟩
   refine ⟨_,_,_,_,_,_,rfl,trivial,E11.keptP,?_⟩
   refine (p_W _ w11).mono ?_
   rintro _ w12 ⟨rfl,E12⟩
   refine ⟨_,_,_,_,_,_,rfl,E12.keptP,?_⟩
   have z12:=((E10.trans E11).trans E12).size
   refine (c_ltPair w12 (hS w12 z12) (Sp.dataT Sp.wFull) (Sp.numT c) Sl.nil Sl.nil TreeAt.leaf TreeAt.leaf).mono ?_
   rintro _ w13 ⟨s13,rfl,hT13,E13⟩
   refine ⟨_,_,_,_,_,s13,rfl,E13.keptP,fun w15 hs15=>fin2 hT13 ((((E5.trans E10).trans E11).trans E12).trans E13) hs15 ?_⟩
   rw [← hR];unfold Sp.letterT;rw [if_neg (fun e=>beq_eq_false_iff_ne.1 h1 e),if_neg (fun e=>beq_eq_false_iff_ne.1 h2 e),if_neg (fun e=>beq_eq_false_iff_ne.1 h3 e),if_neg (fun e=>beq_eq_false_iff_ne.1 h4 e),if_neg (fun e=>beq_eq_false_iff_ne.1 h5 e),if_neg (fun e=>beq_eq_false_iff_ne.1 h6 e)]
 ·rintro _ w' ⟨k,f,t,u,y,s,rfl,hn,hT,E⟩
  obtain ⟨k2,f2,t2,u2,x2,ks⟩:=R
  cases hn;exact ⟨s,rfl,hT,E⟩
theorem letErr_frm {l:Sp.Letter} (h:Sp.letErr l=0):l.frm=0∨l.frm=1:=by
 unfold Sp.letErr at h
 split at h
 ·cases h
 ·rename_i h1
  simp only [not_or] at h1
  have:=h1.2.2.1
  by_cases h0:l.frm=0
  ·exact .inl h0
  ·exact .inr (Classical.byContradiction (fun h2=>this ⟨h0,h2⟩))
def buildS (L:Sp.Pool) (l:Sp.Letter):Int×Int×Sp.Pool:=if Sp.letErr l≠0 then (0,Sp.letErr l,L) else Sp.of L (Sp.letterT l true true)
theorem c_Build (p : Addr) (l : Sp.Letter) (w0 : World) {L : Sp.Pool} {F : NP} (hP : PoolAt w0 p L F) (hok : Sp.Ok L) :
  Calls Tryz.prog 76 #[.pointer (some p),.agg #[.int .i64 l.kind,.int .i64 l.frm,.int .u64 l.c,.string l.text,.bool l.fake]] w0 (fun e w'=>∃r1 r2:Int,e=.returned (.tuple #[.int .i64 r1,.int .i64 r2])∧(r1=(buildS L l).1∧r2=(buildS L l).2.1∧∃F',PoolAt w' p (buildS L l).2.2 F'∧Ext F w0 w'∧∀b,F' b→F b∨w0.heap.size≤b)):=by
 refine w_M3 (some p) l.kind l.frm l.c l.text l.fake w0 (fun r1 r2 w'=>r1=(buildS L l).1∧r2=(buildS L l).2.1∧∃F',PoolAt w' p (buildS L l).2.2 F'∧Ext F w0 w'∧∀b,F' b→F b∨w0.heap.size≤b) ?_
 unfold m_M3
 intro H1 w1 hs1
 have E1:Pure w0 w1:=hs1.first
 have hF:∀b,F b→b<w0.heap.size:=fun b hb=>hP.lt hb
 refine (c_ltCheck l w1).mono ?_
 rintro _ w2 ⟨_,rfl,rfl,E2⟩
 have E02:=E1.trans E2
 refine ⟨_,rfl,E2.keptP,fun hc=>?_,fun hc=>⟨fun h=>(by cases h),fun _=>?_⟩⟩
 ·have hc:=bne_iff_ne.1 hc
  have e:buildS L l=(0,Sp.letErr l,L):=by unfold buildS;rw [if_pos hc]
  rw [e];exact ⟨rfl,rfl,F,hP.pure E02,Ext.pure E02,fun b hb=>.inl hb⟩
 ·have hc:Sp.letErr l=0:=by simpa using hc
  have e:buildS L l=Sp.of L (Sp.letterT l true true):=by unfold buildS;rw [if_neg (by simpa using hc)]
  rw [e]
  refine (c_ltTree l (letErr_frm hc) w2).mono ?_
  rintro _ w3 ⟨s3,he,hT3,E3⟩
  generalize Sp.letterT l true true=T at *
  obtain ⟨tk,tf,tt,tu,tx,tks⟩:=T
  have he:_=Ending.returned (.agg #[.int .i64 tk,.int .i64 tf,.int .i64 tt,.int .u64 tu,.string tx,s3.v]):=he
  refine ⟨tk,tf,tt,tu,tx,s3,he,E3.keptP,?_⟩
  have E03:=E02.trans E3
  refine (c_Of (S:=fun b=>w2.heap.size≤b∧b<w3.heap.size) p (.mk tk tf tt tu tx tks) s3 w3 hT3.lt (hP.pure E03) hok (fun b hb hh=>by have:=hF b hb;have:=E02.size;omega) (fun b hb=>hb.2)).mono ?_
  rintro _ w4 ⟨r1,r2,rfl,h12,F',hP4,X4,hF4⟩
  obtain ⟨e1,e2⟩:=Prod.mk.inj h12
  refine ⟨r1,r2,rfl,X4.kept (fun b hb hh=>by have:=hs1.old b hb;have:=hF b hh;omega),e1,e2,F',hP4,(Ext.pure E03).trans X4,fun b hb=>(hF4 b hb).imp id (fun h=>by have:=E03.size;omega)⟩
end Go.Proofs
end
section
open Go Go.SE
namespace Go.Sp
def convS (L:Pool) (a b:Int):Int×Int×Pool :=
 if (bothS L a b).2.1=true then (0,121,L) else if (bothS L a b).2.2≠0 then (0,(bothS L a b).2.2,L) else Go.Proofs.buildS L ⟨6,0,(bothS L a b).1.c,(bothS L a b).1.text,false⟩
def thenS (m:Int×Int×Pool) (f:Int→Pool→Int×Int×Pool):Int×Int×Pool:=if m.2.1≠0 then (0,m.2.1,m.2.2) else f m.1 m.2.2
def resolveT:ByteArray:=⟨#[114,101,115,111,108,118,101]⟩
def reqS (L:Pool) (who a b:Int):Int×Int×Pool :=
 if who≠0∧who≠1 then (0,2,L) else if (bothS L a b).2.2≠0 then (0,(bothS L a b).2.2,L)
 else thenS (make L ⟨4,0,0,0,⟨#[]⟩,a,b⟩) fun t L=>thenS (make L ⟨3,0,0,0,resolveT,0,0⟩) fun d L=>thenS (make L ⟨4,0,0,0,⟨#[]⟩,d,t⟩) fun t L=>make L ⟨7,who,0,0,⟨#[]⟩,t,0⟩
end Go.Sp
namespace Go.Proofs
attribute [local irreducible] Calls
theorem c_Data (p:Addr) (w0:World) {L:Sp.Pool} {F:NP} (hP:PoolAt w0 p L F) (hok:Sp.Ok L) (x:ByteArray):Calls Tryz.prog 92 #[.pointer (some p),.string x] w0 (MakePost p L F w0 ⟨3,0,0,0,x,0,0⟩):=by
 refine w_J2 _ _ w0 (fun r1 r2 w'=>(r1,r2)=((Sp.make L ⟨3,0,0,0,x,0,0⟩).1,(Sp.make L ⟨3,0,0,0,x,0,0⟩).2.1)∧∃F',PoolAt w' p (Sp.make L ⟨3,0,0,0,x,0,0⟩).2.2 F'∧Ext F w0 w'∧∀b,F' b→F b∨w0.heap.size≤b) ?_
 unfold m_J2
 refine (c_Make p _ _ _ _ _ _ _ w0 hP hok).mono ?_
 rintro _ w1 ⟨r1,r2,rfl,h⟩
 exact ⟨r1,r2,rfl,h⟩
theorem c_ev_Binds (p : Addr) (t who c : Int) (x : ByteArray) (w0 : World) {L : Sp.Pool} {F : NP} (hP : PoolAt w0 p L F) (hok : Sp.Ok L) :
  Calls Tryz.prog 45 #[.pointer (some p),.int .i64 t,.int .i64 who,.int .u64 c,.string x] w0 (fun e w'=>∃r:Bool,e=.returned (.bool r)∧(r=(Sp.whyS L t who c x == 0)∧Pure w0 w')):=by
 refine w_U2 _ _ _ _ _ w0 (fun r w'=>r=(Sp.whyS L t who c x == 0)∧Pure w0 w') ?_
 unfold m_U2
 refine (c_ev_Why (some p) t who c x w0 hP hok).mono ?_
 rintro _ w1 ⟨_,rfl,rfl,E⟩
 exact ⟨_,rfl,rfl,E⟩
abbrev MkP (S:Int×Int×Sp.Pool) (p:Addr) (F:NP) (w0 w':World):Prop:=∃F',PoolAt w' p S.2.2 F'∧Ext F w0 w'∧∀b,F' b→F b∨w0.heap.size≤b
theorem c_ev_Convert (p : Addr) (a b : Int) (w0 : World) {L : Sp.Pool} {F : NP} (hP : PoolAt w0 p L F) (hok : Sp.Ok L) :
  Calls Tryz.prog 32 #[.pointer (some p),.int .i64 a,.int .i64 b] w0 (fun e w'=>∃r1 r2:Int,e=.returned (.tuple #[.int .i64 r1,.int .i64 r2])∧(r1=(Sp.convS L a b).1∧r2=(Sp.convS L a b).2.1∧MkP (Sp.convS L a b) p F w0 w')):=by
 refine w_S2 (some p) a b w0 (fun r1 r2 w'=>r1=(Sp.convS L a b).1∧r2=(Sp.convS L a b).2.1∧MkP (Sp.convS L a b) p F w0 w') ?_
 unfold m_S2
 refine (c_ev_both p a b w0 hP hok).mono ?_
 rintro _ w1 ⟨k,f,c,x,g,r,r2,rfl,hb,E1⟩
 have e:Sp.convS L a b=if r=true then (0,121,L) else if r2≠0 then (0,r2,L) else buildS L ⟨6,0,c,x,false⟩:=by
  unfold Sp.convS;rw [← hb]
 have hF:∀b,F b→b<w0.heap.size:=fun b hb=>hP.lt hb
 refine ⟨k,f,c,x,g,r,r2,rfl,E1.keptP,fun h H2 w4 hs4=>?_,fun h H2 w4 hs4=>?_⟩
 ·have hS : Sp.convS L a b = (0, cond r 121 r2, L) := by
   rw [e]
   cases r
   ·have h:r2≠0:=by simpa using h
    rw [if_neg (by simp),if_pos h];rfl
   ·rfl
  rw [hS]
  exact ⟨rfl,rfl,F,hP.pure (E1.hst hs4),Ext.pure (E1.hst hs4),fun b hb=>.inl hb⟩
 ·have hS : Sp.convS L a b = buildS L ⟨6, 0, c, x, false⟩ := by
   rw [e]
   cases r
   ·have h:r2=0:=by simpa using h
    rw [if_neg (by simp),if_neg (by simp [h])]
   ·simp at h
  rw [hS]
  have E4:=E1.hst hs4
  refine (c_Build p ⟨6,0,c,x,false⟩ w4 (hP.pure E4) hok).mono ?_
  rintro _ w5 ⟨r3,r4,rfl,e3,e4,F',hP5,X5,hF5⟩
  refine ⟨r3,r4,rfl,X5.kept (fun b hb hh=>by have:=hs4.old b hb;have:=hF b hh;omega),e3,e4,F',hP5,(Ext.pure E4).trans X5,fun b hb=>(hF5 b hb).imp id (fun h=>by have:=E4.size;omega)⟩
theorem c_ev_Request (p : Addr) (who a b : Int) (w0 : World) {L : Sp.Pool} {F : NP} (hP : PoolAt w0 p L F) (hok : Sp.Ok L) :
  Calls Tryz.prog 33 #[.pointer (some p),.int .i64 who,.int .i64 a,.int .i64 b] w0 (fun e w'=>∃r1 r2:Int,e=.returned (.tuple #[.int .i64 r1,.int .i64 r2])∧(r1=(Sp.reqS L who a b).1∧r2=(Sp.reqS L who a b).2.1∧MkP (Sp.reqS L who a b) p F w0 w')):=by
 refine w_T2 (some p) who a b w0 (fun r1 r2 w'=>r1=(Sp.reqS L who a b).1∧r2=(Sp.reqS L who a b).2.1∧MkP (Sp.reqS L who a b) p F w0 w') ?_
 unfold m_T2
 have hF:∀b,F b→b<w0.heap.size:=fun b hb=>hP.lt hb
 refine ⟨fun h H1 w1 hs1=>?_,fun h H1 w1 hs1=>?_⟩
 ·have hS : Sp.reqS L who a b = (0, 2, L) := by
   unfold Sp.reqS;rw [if_pos (by simpa using h)]
  rw [hS]
  exact ⟨rfl,rfl,F,hP.pure hs1.first,Ext.pure hs1.first,fun b hb=>.inl hb⟩
 refine (c_ev_both p a b w1 (hP.pure hs1.first) hok).mono ?_
 rintro _ w2 ⟨k,f,c,x,g,r,r2,rfl,hb,E2⟩
 have e:Sp.reqS L who a b=if r2≠0 then (0,r2,L) else Sp.thenS (Sp.make L ⟨4,0,0,0,⟨#[]⟩,a,b⟩) fun t L=>Sp.thenS (Sp.make L ⟨3,0,0,0,Sp.resolveT,0,0⟩) fun d L=>Sp.thenS (Sp.make L ⟨4,0,0,0,⟨#[]⟩,d,t⟩) fun t L=>Sp.make L ⟨7,who,0,0,⟨#[]⟩,t,0⟩:=by
  unfold Sp.reqS;rw [if_neg (by simpa using h),← hb]
 rw [e]
 have E02:=hs1.first.trans E2
 refine ⟨k,f,c,x,g,r,r2,rfl,E2.keptP,fun h2 H2 w4 hs4=>?_,fun h2 H2 w4 hs4=>?_⟩
 ·rw [if_pos (by simpa using h2)]
  exact ⟨rfl,rfl,F,hP.pure (E02.hst hs4),Ext.pure (E02.hst hs4),fun b hb=>.inl hb⟩
 rw [if_neg (by simpa using h2)]
 have E4:=E02.hst hs4
 have step:∀{w w':World} {F1 F2:NP},Ext F w0 w→(∀b,F1 b→F b∨w4.heap.size≤b)→w4.heap.size≤w.heap.size→Ext F1 w w'→(∀b,F2 b→F1 b∨w.heap.size≤b)→Ext F w0 w'∧(∀b,F2 b→F b∨w4.heap.size≤b)∧w4.heap.size≤w'.heap.size∧Kept H2 w w':=by
  intro w w' F1 F2 X h1 hsz X1 h2
  have:=E4.size
  refine ⟨X.trans' X1 (fun i hi hf=>(h1 i hf).elim id (fun h=>by omega)),fun b hb=>(h2 b hb).elim (h1 b) (fun h=>.inr (by omega)),by have:=X1.size;omega,X1.kept (fun b hb hf=>?_)⟩
  rcases h1 b hf with h | h
  ·have:=hs4.old b hb;have:=hF b h;omega
  ·have:=hs4.lt b hb;omega
 have fin:∀b,∀{F2:NP},(∀b,F2 b→F b∨w4.heap.size≤b)→F2 b→F b∨w0.heap.size≤b:=fun b _ h hb=>(h b hb).imp id (fun h=>by have:=E4.size;omega)
 refine (c_Pair p w4 (hP.pure E4) hok a b).mono ?_
 rintro _ w5 ⟨r3,r4,rfl,h34,F5,hP5,X5,hF5⟩
 have ok5:=Sp.make_ok hok ⟨4,0,0,0,⟨#[]⟩,a,b⟩
 generalize Sp.make L ⟨4,0,0,0,⟨#[]⟩,a,b⟩=m5 at *
 obtain ⟨m1,m2,L5⟩:=m5
 obtain ⟨rfl,rfl⟩:=Prod.mk.inj h34
 obtain ⟨Y5,G5,s5,k5⟩:=step (Ext.pure E4) (fun b hb=>.inl hb) (Nat.le_refl _) X5 hF5
 refine ⟨r3,r4,rfl,k5,fun h5=>?_,fun h5=>?_⟩
 ·unfold Sp.thenS;rw [if_pos (by simpa using h5)]
  exact ⟨rfl,rfl,F5,hP5,Y5,fun b hb=>fin b G5 hb⟩
 rw [Sp.thenS,if_neg (by simpa using h5)]
 refine (c_Data p w5 hP5 ok5 Sp.resolveT).mono ?_
 rintro _ w6 ⟨r5,r6,rfl,h56,F6,hP6,X6,hF6⟩
 have ok6:=Sp.make_ok ok5 ⟨3,0,0,0,Sp.resolveT,0,0⟩
 simp only at *
 generalize Sp.make L5 ⟨3,0,0,0,Sp.resolveT,0,0⟩=m6 at *
 obtain ⟨m1,m2,L6⟩:=m6
 obtain ⟨rfl,rfl⟩:=Prod.mk.inj h56
 obtain ⟨Y6,G6,s6,k6⟩:=step Y5 G5 s5 X6 hF6
 refine ⟨r5,r6,rfl,k6,fun h6=>?_,fun h6=>?_⟩
 ·unfold Sp.thenS;rw [if_pos (by simpa using h6)]
  exact ⟨rfl,rfl,F6,hP6,Y6,fun b hb=>fin b G6 hb⟩
 rw [Sp.thenS,if_neg (by simpa using h6)]
 refine (c_Pair p w6 hP6 ok6 r5 r3).mono ?_
 rintro _ w7 ⟨r7,r8,rfl,h78,F7,hP7,X7,hF7⟩
 have ok7:=Sp.make_ok ok6 ⟨4,0,0,0,⟨#[]⟩,r5,r3⟩
 simp only at *
 generalize Sp.make L6 ⟨4,0,0,0,⟨#[]⟩,r5,r3⟩=m7 at *
 obtain ⟨m1,m2,L7⟩:=m7
 obtain ⟨rfl,rfl⟩:=Prod.mk.inj h78
 obtain ⟨Y7,G7,s7,k7⟩:=step Y6 G6 s6 X7 hF7
 refine ⟨r7,r8,rfl,k7,fun h7=>?_,fun h7=>?_⟩
 ·unfold Sp.thenS;rw [if_pos (by simpa using h7)]
  exact ⟨rfl,rfl,F7,hP7,Y7,fun b hb=>fin b G7 hb⟩
 rw [Sp.thenS,if_neg (by simpa using h7)]
 refine (c_Sign p w7 hP7 ok7 who r7).mono ?_
 rintro _ w8 ⟨r9,r10,rfl,h90,F8,hP8,X8,hF8⟩
 obtain ⟨e9,e10⟩:=Prod.mk.inj h90
 obtain ⟨Y8,G8,_,k8⟩:=step Y7 G7 s7 X8 hF8
 exact ⟨r9,r10,rfl,k8,e9,e10,F8,hP8,Y8,fun b hb=>fin b G8 hb⟩
end Go.Proofs
end
section
open Go Go.SE
namespace Go.Sp
theorem buildS_wf {L:Pool} (h:Wf L) (l:Letter):Wf (Go.Proofs.buildS L l).2.2:=by
 unfold Go.Proofs.buildS;split
 ·exact h
 ·exact of_wf h _
theorem convS_wf {L:Pool} (h:Wf L) (a b:Int):Wf (convS L a b).2.2:=by
 unfold convS;split
 ·exact h
 ·split
  ·exact h
  ·exact buildS_wf h _
theorem thenS_wf {m:Int×Int×Pool} {f:Int→Pool→Int×Int×Pool} (h:Wf m.2.2) (hf:∀t L,Wf L→Wf (f t L).2.2):Wf (thenS m f).2.2:=by
 unfold thenS;split
 ·exact h
 ·exact hf _ _ h
theorem reqS_wf {L:Pool} (h:Wf L) (who a b:Int):Wf (reqS L who a b).2.2:=by
 unfold reqS;split
 ·exact h
 ·split
  ·exact h
  ·exact thenS_wf (make_wf h _) fun t L h=>thenS_wf (make_wf h _) fun d L h=>thenS_wf (make_wf h _) fun t L h=>make_wf h _
def x12:ByteArray:=⟨#[120]⟩
def v1:Pool:=(Go.Proofs.buildS [] ⟨1,0,7,x12,false⟩).2.2
def v2:Pool:=(Go.Proofs.buildS v1 ⟨1,1,7,x12,false⟩).2.2
def v3:Pool:=(convS v2 6 7).2.2
def v4:Pool:=(reqS v3 1 6 7).2.2
theorem lv1:(Go.Proofs.buildS [] ⟨1,0,7,x12,false⟩).1=6:=by kernel_rfl
theorem lv2:(Go.Proofs.buildS v1 ⟨1,1,7,x12,false⟩).1=7:=by kernel_rfl
theorem lv3:(convS v2 6 7).1=10∧(convS v2 6 7).2.1=0:=by constructor <;> kernel_rfl
theorem lv4:convS v3 6 6=(0,122,v3):=by kernel_rfl
theorem lv5:convS v3 6 10=(0,120,v3):=by kernel_rfl
theorem lv6:(reqS v3 1 6 7).1=14∧(reqS v3 1 6 7).2.1=0:=by constructor <;> kernel_rfl
theorem lv7:read v4 14=(⟨4,1,7,x12,false⟩,true):=by kernel_rfl
theorem lv8:whyS v4 10 0 7 x12=0∧whyS v4 6 0 7 x12=2∧(ofS v4 10).length=3:=by refine ⟨?_,?_,?_⟩ <;> kernel_rfl
theorem lvw2:Wf v2:=buildS_wf (buildS_wf Wf.nil _) _
theorem lvw3:Wf v3:=convS_wf lvw2 _ _
theorem lvw4:Wf v4:=reqS_wf lvw3 _ _ _
theorem lvn:(∀t:Int,(t=14∨t=13∨t=12∨t=11∨t=6∨t=7∨t=5∨t=1∨t=4∨t=2∨t=3)→∀r u,Arises v4 r t u→(u=14∨u=13∨u=12∨u=11∨u=6∨u=7∨u=5∨u=1∨u=4∨u=2∨u=3)):=by
 have n14:nodeOf v4 14=⟨7,1,0,0,⟨#[]⟩,13,0⟩:=by kernel_rfl
 have n13:nodeOf v4 13=⟨4,0,0,0,⟨#[]⟩,12,11⟩:=by kernel_rfl
 have n12:nodeOf v4 12=⟨3,0,0,0,resolveT,0,0⟩:=by kernel_rfl
 have n11:nodeOf v4 11=⟨4,0,0,0,⟨#[]⟩,6,7⟩:=by kernel_rfl
 have n6:nodeOf v4 6=⟨8,0,1,0,⟨#[]⟩,5,0⟩:=by kernel_rfl
 have n7:nodeOf v4 7=⟨8,1,0,0,⟨#[]⟩,5,0⟩:=by kernel_rfl
 have n5:nodeOf v4 5=⟨4,0,0,0,⟨#[]⟩,1,4⟩:=by kernel_rfl
 have n1:nodeOf v4 1=⟨3,0,0,0,⟨#[100,101,97,108]⟩,0,0⟩:=by kernel_rfl
 have n4:nodeOf v4 4=⟨4,0,0,0,⟨#[]⟩,2,3⟩:=by kernel_rfl
 have n2:nodeOf v4 2=⟨2,0,0,7,⟨#[]⟩,0,0⟩:=by kernel_rfl
 have n3:nodeOf v4 3=⟨3,0,0,0,x12,0,0⟩:=by kernel_rfl
 intro t ht r u ha
 unfold Arises at ha
 rcases ht with rfl | rfl | rfl | rfl | rfl | rfl | rfl | rfl | rfl | rfl | rfl
 ·rw [n14] at ha;simp [showsK] at ha;omega
 ·rw [n13] at ha;simp [showsK] at ha;omega
 ·rw [n12] at ha;simp [showsK] at ha
 ·rw [n11] at ha;simp [showsK] at ha;omega
 ·rw [n6] at ha;simp [showsK] at ha;omega
 ·rw [n7] at ha;simp [showsK] at ha;omega
 ·rw [n5] at ha;simp [showsK] at ha;omega
 ·rw [n1] at ha;simp [showsK] at ha
 ·rw [n4] at ha;simp [showsK] at ha;omega
 ·rw [n2] at ha;simp [showsK] at ha
 ·rw [n3] at ha;simp [showsK] at ha
theorem lv9 {fs:List Fact} (h:AllOk v4 (gives v4 [14]) fs):fs.length=3:=by
 have hg:gives v4 [14]=[14]:=by kernel_rfl
 have e14:ofS v4 14=[⟨4,1,7,x12⟩,⟨1,0,7,x12⟩,⟨1,1,7,x12⟩]:=by kernel_rfl
 rw [hg] at h
 have hs:([⟨1,0,7,x12⟩,⟨1,1,7,x12⟩,⟨4,1,7,x12⟩]:List Fact).Pairwise LtF:=by
  simp [LtF]
 have:fs=[⟨1,0,7,x12⟩,⟨1,1,7,x12⟩,⟨4,1,7,x12⟩]:=by
  refine sorted_eq h.1 hs fun x=>(h.2 x).trans ⟨?_,fun hx=>⟨14,.given (by simp),?_⟩⟩
  ·rintro ⟨t,ht,hx⟩
   have hin:t=14∨t=13∨t=12∨t=11∨t=6∨t=7∨t=5∨t=1∨t=4∨t=2∨t=3:=by
    clear hx
    induction ht with
    | given hg=>simp at hg;simp [hg]
    | «from» _ ha ih=>exact lvn _ ih _ _ ha
   rcases hin with rfl | rfl | rfl | rfl | rfl | rfl | rfl | rfl | rfl | rfl | rfl
   ·rw [e14] at hx;simp at hx ⊢;rcases hx with h | h | h <;> simp [h]
   ·rw [show ofS v4 13=[] by kernel_rfl] at hx;simp at hx
   ·rw [show ofS v4 12=[] by kernel_rfl] at hx;simp at hx
   ·rw [show ofS v4 11=[] by kernel_rfl] at hx;simp at hx
   ·rw [show ofS v4 6=[⟨1,0,7,x12⟩] by kernel_rfl] at hx;simp at hx;simp [hx]
   ·rw [show ofS v4 7=[⟨1,1,7,x12⟩] by kernel_rfl] at hx;simp at hx;simp [hx]
   ·rw [show ofS v4 5=[] by kernel_rfl] at hx;simp at hx
   ·rw [show ofS v4 1=[] by kernel_rfl] at hx;simp at hx
   ·rw [show ofS v4 4=[] by kernel_rfl] at hx;simp at hx
   ·rw [show ofS v4 2=[] by kernel_rfl] at hx;simp at hx
   ·rw [show ofS v4 3=[] by kernel_rfl] at hx;simp at hx
  ·rw [e14];simp at hx ⊢;rcases hx with h | h | h <;> simp [h]
 rw [this];rfl
end Go.Sp
end
section
open Go Go.SE
namespace Go.Proofs
attribute [local irreducible] Calls
structure Mine (w0:World) (p:Addr) (L:Sp.Pool) (F:NP) (w:World):Prop where
 pool:PoolAt w p L F
 own:∀b,F b→w0.heap.size≤b
 pure:Pure w0 w
theorem Mine.then {w0 w w':World} {p:Addr} {L:Sp.Pool} {F:NP} (h:Mine w0 p L F w) (E:Pure w w'):Mine w0 p L F w':=⟨h.pool.pure E,h.own,h.pure.trans E⟩
theorem Mine.mk' {w0 w w':World} {p:Addr} {L:Sp.Pool} {F:NP} {S:Int×Int×Sp.Pool} (h:Mine w0 p L F w) (m:MkP S p F w w'):∃F',Mine w0 p S.2.2 F' w'∧Kept None w w':=by
 obtain ⟨F',hP,X,hF⟩:=m
 exact ⟨F',⟨hP,fun b hb=>(hF b hb).elim (h.own b) (fun h'=>by have:=h.pure.size;omega),h.pure.trans' X (fun i hi hf=>by have:=h.own i hf;omega)⟩,X.kept (fun b h=>h.elim)⟩
theorem c_live12 (w0:World):Calls Tryz.prog 24 #[] w0 (fun e w'=>∃r:Bool,e=.returned (.bool r)∧(r=true∧Pure w0 w')):=by
 refine w_I w0 (fun r w'=>r=true∧Pure w0 w') ?_
 unfold m_I
 refine (c_New w0).mono ?_
 rintro _ w1 ⟨_,rfl,p,rfl,E1,F1,hP1,hF1⟩
 have M1:Mine w0 p [] F1 w1:=⟨hP1,hF1,E1⟩
 refine ⟨_,rfl,E1.keptP,Br.f rfl ?_⟩
 refine (c_Build p ⟨1,0,7,Sp.x12,false⟩ w1 M1.pool Sp.Wf.nil.ok).mono ?_
 rintro _ w2 ⟨r2,r3,rfl,e2,_,m2⟩
 obtain ⟨F2,M2,k2⟩:=M1.mk' m2
 obtain rfl:r2=6:=e2.trans Sp.lv1
 refine ⟨_,_,rfl,k2,?_⟩
 refine (c_Build p ⟨1,1,7,Sp.x12,false⟩ w2 M2.pool (Sp.buildS_wf Sp.Wf.nil _).ok).mono ?_
 rintro _ w3 ⟨r4,r5,rfl,e4,_,m3⟩
 obtain ⟨F3,M3,k3⟩:=M2.mk' m3
 obtain rfl:r4=7:=e4.trans Sp.lv2
 refine ⟨_,_,rfl,k3,?_⟩
 have M3:Mine w0 p Sp.v2 F3 w3:=M3
 refine (c_ev_Convert p 6 7 w3 M3.pool Sp.lvw2.ok).mono ?_
 rintro _ w4 ⟨r6,r7,rfl,e6,e7,m4⟩
 obtain ⟨F4,M4,k4⟩:=M3.mk' m4
 obtain rfl:r6=10:=e6.trans Sp.lv3.1
 obtain rfl:r7=0:=e7.trans Sp.lv3.2
 refine ⟨_,_,rfl,k4,?_⟩
 have M4:Mine w0 p Sp.v3 F4 w4:=M4
 refine (c_ev_Convert p 6 6 w4 M4.pool Sp.lvw3.ok).mono ?_
 rintro _ w5 ⟨r8,r9,rfl,e8,e9,m5⟩
 rw [Sp.lv4] at e8 e9 m5
 obtain ⟨F5,M5,k5⟩:=M4.mk' m5
 obtain rfl:r9=122:=e9
 refine ⟨_,_,rfl,k5,?_⟩
 have M5:Mine w0 p Sp.v3 F5 w5:=M5
 refine (c_ev_Convert p 6 10 w5 M5.pool Sp.lvw3.ok).mono ?_
 rintro _ w6 ⟨r10,r11,rfl,e10,e11,m6⟩
 rw [Sp.lv5] at e10 e11 m6
 obtain ⟨F6,M6,k6⟩:=M5.mk' m6
 obtain rfl:r11=120:=e11
 refine ⟨_,_,rfl,k6,?_⟩
 have M6:Mine w0 p Sp.v3 F6 w6:=M6
 refine (c_ev_Request p 1 6 7 w6 M6.pool Sp.lvw3.ok).mono ?_
 rintro _ w7 ⟨r12,r13,rfl,e12,e13,m7⟩
 obtain ⟨F7,M7,k7⟩:=M6.mk' m7
 obtain rfl:r12=14:=e12.trans Sp.lv6.1
 obtain rfl:r13=0:=e13.trans Sp.lv6.2
 refine ⟨_,_,rfl,k7,?_⟩
 have M7:Mine w0 p Sp.v4 F7 w7:=M7
 have hok:=Sp.lvw4.ok
 refine (c_letter_Read p 14 w7 M7.pool hok).mono ?_
 rintro _ w8 ⟨kd,f,c,x,fk,ok,rfl,hrd,E8⟩
 rw [Sp.lv7] at hrd
 injection hrd with h1 h2
 injection h1 with ha hb hc hd he
 subst ha;subst hb;subst h2
 refine ⟨_,_,_,_,_,_,rfl,E8.keptP,?_⟩
 rintro _ rfl
 refine Br.t rfl fun H7 w23 hs23=>?_
 have M8:Mine w0 p Sp.v4 F7 w8:=M7.then E8
 have E23:=M8.pure.hst hs23
 have hP23:=M8.pool.ext hs23.ext (hs23.disj (fun b hb=>⟨M8.pool.lt hb,id⟩))
 have hx:(⟨#[120]⟩:ByteArray)=Sp.x12:=rfl
 refine (c_ev_Binds p 10 0 7 Sp.x12 w23 hP23 hok).mono ?_
 rintro _ w29 ⟨_,rfl,rfl,E29⟩
 refine ⟨_,rfl,E29.keptP,?_⟩
 unfold m_I_j1
 refine Br.t (by rw [Sp.lv8.1];rfl) ?_
 have hP29:=hP23.pure E29
 refine (c_ev_Binds p 6 0 7 Sp.x12 w29 hP29 hok).mono ?_
 rintro _ w28 ⟨_,rfl,rfl,E28⟩
 refine ⟨_,rfl,E28.keptP,?_⟩
 unfold m_I_j2
 refine Br.t (by rw [Sp.lv8.2.1];rfl) ?_
 have hP28:=hP29.pure E28
 refine (c_ev_Why (some p) 6 0 7 Sp.x12 w28 hP28 hok).mono ?_
 rintro _ w27 ⟨_,rfl,rfl,E27⟩
 refine ⟨_,rfl,E27.keptP,?_⟩
 unfold m_I_j3
 refine Br.t (by rw [Sp.lv8.2.1];rfl) ?_
 have hP27:=hP28.pure E27
 refine (c_ev_Of (some p) 10 w27 hP27 hok).mono ?_
 rintro _ w26 ⟨r16,rfl,hr16⟩
 refine ⟨_,rfl,hr16.kept,?_⟩
 unfold m_I_j4
 refine Br.t (by rw [hr16.rows.len,List.length_map,Sp.lv8.2.2];rfl) fun p2 w24 h24=>?_
 have R2:Rws w24 78 1 ⟨some p2,1,1⟩ (tmr [14]):=Rws.lit (rs:=tmr [14]) h24 rfl (by intro q hq;obtain ⟨t,_,rfl⟩:=List.mem_map.1 hq;rfl) (by simp [tmr,maxLen])
 have E24:=hr16.pure.trans (Ext.new (F:=None) h24)
 refine (c_ev_All p ⟨some p2,1,1⟩ [14] w24 (hP27.pure E24) Sp.lvw4 R2.lst (by simp)).mono ?_
 rintro _ w25 ⟨r15,rfl,fs,hr15,hall⟩
 refine ⟨_,rfl,hr15.kept,?_,((((E23.trans E29).trans E28).trans E27).trans E24).trans hr15.pure⟩
 rw [hr15.rows.len,List.length_map,Sp.lv9 hall.1];rfl
end Go.Proofs
end
section
open Go Go.SE
open Go.IntKind renaming i64 → q6
namespace Go.Proofs
set_option maxRecDepth 100000
set_option maxHeartbeats 4000000
attribute [local irreducible] wpL wpX opE wpE Calls
def m_N3 (p1:Option Addr) (t1:Int) (w0:World) (K:Bool→WP):Prop :=
 Br (decide (t1≥1))
  (∃a1:Addr,p1=some a1 ∧
  ∃v1:Sl,w0.cell? a1=some v1.v ∧
  K (decide (t1≤(v1.len:Int))) w0)
  (K false w0)
theorem w_N3 (p1 : Option Addr) (t1 : Int) (w0 : World) (K : Bool → WP) (h : m_N3 p1 t1 w0 K) :
  Calls Tryz.prog 87 #[(vp p1),(vi t1)] w0 (fun e w'=>∃r1:Bool,e=.returned (vb r1)∧K r1 w'):=by
 unfold m_N3 at h
 refine cw (args:=[(vp p1),(vi t1)]) Tryz.func87 Tryz.ntmps87 (eg (q0 (vb false) (ln (eg (q0 (vi t1) (q0 (vb (decide (t1≥1))) (q0 (vb (decide (t1≥1))) ?_)))))))
 rcases Bool.eq_false_or_eq_true (decide (t1≥1)) with hg1 | hg1
 have h:=h.1 hg1
 refine q1 (vi t1) (wy 7 hg1) (q1 (vp p1) (wy 7 hg1) ?_)
 obtain ⟨a1,hp1,h⟩:=h
 refine stp (v:=(vp (some a1))) (wy 7 hg1) (x_nilCheck (p:=p1) (by kernel_rfl) hp1) (q1 (vp (some a1)) (wy 7 hg1) ?_)
 obtain ⟨v1,hv1,h⟩:=h
 refine stp (v:=v1.v) (wy 7 hg1) (xl (Tryz.isAgg41 _) hv1) (q1 (vi (v1.len:Int)) (wy 7 hg1) (q1 (vb (decide (t1≤(v1.len:Int)))) (wy 7 hg1) (q2 (vb (decide (t1≤(v1.len:Int)))) (xT hg1) (q0 (vb (decide (t1≤(v1.len:Int)))) (ln (er (rs1 Tryz.results87 (v:=(vb (decide (t1≤(v1.len:Int))))) ?_)))))))
 exact ⟨(decide (t1≤(v1.len:Int))),rfl,h⟩
 have h:=h.2 hg1
 refine sk (yD 7 hg1) (sk (yD 7 hg1) (sk (yD 7 hg1) (sk (yD 7 hg1) (sk (yD 7 hg1) (sk (yD 7 hg1) (sk (yD 7 hg1) (q2 (vb false) (xF hg1) (q0 (vb false) (ln (er ?_))))))))))
 refine rs1 Tryz.results87 (v:=(vb false)) ?_
 exact ⟨false,rfl,h⟩
def m_O3 (p1:Option Addr) (t1:Int) (w0:World) (K:Int→Int→Int→Int→ByteArray→Int→Int→Bool→WP):Prop :=
 ∀(H1:NP) (w1:World),Hst w0 None w0 H1 w1 →
 Calls Tryz.prog 87 #[(vp p1),(vi t1)] w1 (fun e w2=>∃r1:Bool,e=.returned (vb r1)∧
  Kept H1 w1 w2 ∧
  Br (!r1)
   (∀(w3:World),Hst w0 H1 w2 H1 w3 →
   K 0 0 0 0 ⟨#[]⟩ 0 0 false w3)
   (∃a1:Addr,p1=some a1 ∧
   ∃v1:Sl,w2.cell? a1=some v1.v ∧
   ∃a2:Addr,At v1 (q6.wrap (t1 - 1)) 7 a2 ∧
   ∃aN aO:Int,∃aP aQ:Int,∃aR:ByteArray,∃bF bG:Int,Row w2 a2 [(vi aN),(vi aO),(vi aP),(vu aQ),(vs aR),(vi bF),(vi bG)] ∧
   ∀(w4:World),Hst w0 H1 w2 H1 w4 →
   K aN aO aP aQ aR bF bG true w4))
theorem w_O3 (p1 : Option Addr) (t1 : Int) (w0 : World) (K : Int → Int → Int → Int → ByteArray → Int → Int → Bool → WP) (h : m_O3 p1 t1 w0 K) :
  Calls Tryz.prog 104 #[(vp p1),(vi t1)] w0 (fun e w'=>∃bN bO:Int,∃bP bQ:Int,∃bR:ByteArray,∃bS bT:Int,∃r2:Bool,e=.returned (.tuple #[(.agg #[(vi bN),(vi bO),(vi bP),(vu bQ),(vs bR),(vi bS),(vi bT)]),(vb r2)])∧K bN bO bP bQ bR bS bT r2 w'):=by
 unfold m_O3 at h
 refine cw (args:=[(vp p1),(vi t1)]) Tryz.func104 Tryz.ntmps104 ?_
 have hs:=Hst.start w0
 have hb:=HB.nil None w0
 refine eg (sn (O:=(.cells #[(vi 0),(vi 0),(vi 0),(vu 0),(vs ⟨#[]⟩),(vi 0),(vi 0)] 176)) (x_alloc (Tryz.zeroValue176 _) rfl) ?_)
 intro p2 w1 hn1
 obtain ⟨H1,hs,hb⟩:=hs.alloc hb hn1
 refine q0 (vb false) (ln (wpE_seq (eg (q0 (vp p1) (q0 (vi t1) ?_)))))
 have h:=h H1 w1 hs
 have hs:=hs.here
 refine sc Tryz.call87 (h.mono ?_)
 rintro e w2 ⟨r1,rfl,hk,h⟩
 refine ⟨_,rfl,?_⟩
 obtain ⟨hs,hb⟩:=hk.hh hs hb
 refine q0 (vb (!r1)) (ln ?_)
 refine wpE_cond (t:=(!r1)) (by kernel_rfl) (fun hc1=>?_) (fun hc1=>?_)
 have h:=h.1 hc1
 refine eg (q0 (.agg #[(vi 0),(vi 0),(vi 0),(vu 0),(vs ⟨#[]⟩),(vi 0),(vi 0)]) (st_set (want0 rfl) (xo p2 [(vi 0),(vi 0),(vi 0),(vu 0),(vs ⟨#[]⟩),(vi 0),(vi 0)] (Tryz.sizeOf176 _) (hb.k0 0 7 gZ)) ?_))
 intro w3 hn2
 obtain ⟨hs,hb⟩:=hb.s0 (l':=[(p2,[(vi 0),(vi 0),(vi 0),(vu 0),(vs ⟨#[]⟩),(vi 0),(vi 0)],176)]) 0 [(vi 0),(vi 0),(vi 0),(vu 0),(vs ⟨#[]⟩),(vi 0),(vi 0)] hs hn2 gZ
 refine q0 (vb false) (ln (er (th_r ?_)))
 have h:=h w3 hs
 have hs:=hs.here
 refine resG (.inl rfl) (vs:=[(.agg #[(vi 0),(vi 0),(vi 0),(vu 0),(vs ⟨#[]⟩),(vi 0),(vi 0)]),(vb false)]) (v:=(.tuple #[(.agg #[(vi 0),(vi 0),(vi 0),(vu 0),(vs ⟨#[]⟩),(vi 0),(vi 0)]),(vb false)])) Tryz.results104 ⟨(rA (Tryz.isAgg176 _) (Tryz.sizeOf176 _) (hb.r0 0 7 gZ)),(rvT (by kernel_rfl)),trivial⟩ (by kernel_rfl) ?_
 exact ⟨0,0,0,0,⟨#[]⟩,0,0,false,rfl,h⟩
 have h:=h.2 hc1
 refine wpE_skip (th_n (eg (q0 (vp p1) ?_)))
 obtain ⟨a1,hp1,h⟩:=h
 refine q2 (vp (some a1)) (x_nilCheck (p:=p1) (by kernel_rfl) hp1) (q0 (vp (some a1)) ?_)
 obtain ⟨v1,hv3,h⟩:=h
 refine q2 v1.v (xl (Tryz.isAgg41 _) hv3) (q0 (vi t1) (q0 (vi (q6.wrap (t1 - 1))) ?_))
 obtain ⟨a2,hv2,h⟩:=h
 refine q2 (vp (some a2)) (xi (Tryz.runUnderlying41 _) (Tryz.sizeOf176 _) hv2) ?_
 obtain ⟨aN,aO,aP,aQ,aR,bF,bG,hv1,h⟩:=h
 refine q2 (.agg #[(vi aN),(vi aO),(vi aP),(vu aQ),(vs aR),(vi bF),(vi bG)]) (xa a2 [(vi aN),(vi aO),(vi aP),(vu aQ),(vs aR),(vi bF),(vi bG)] (Tryz.isAgg176 _) (Tryz.sizeOf176 _) hv1) (st_set (want0 rfl) (xo p2 [(vi aN),(vi aO),(vi aP),(vu aQ),(vs aR),(vi bF),(vi bG)] (Tryz.sizeOf176 _) (hb.k0 0 7 gZ)) ?_)
 intro w4 hn3
 obtain ⟨hs,hb⟩:=hb.s0 (l':=[(p2,[(vi aN),(vi aO),(vi aP),(vu aQ),(vs aR),(vi bF),(vi bG)],176)]) 0 [(vi aN),(vi aO),(vi aP),(vu aQ),(vs aR),(vi bF),(vi bG)] hs hn3 gZ
 refine q0 (vb true) (ln (er ?_))
 have h:=h w4 hs
 have hs:=hs.here
 refine resG (.inl rfl) (vs:=[(.agg #[(vi aN),(vi aO),(vi aP),(vu aQ),(vs aR),(vi bF),(vi bG)]),(vb true)]) (v:=(.tuple #[(.agg #[(vi aN),(vi aO),(vi aP),(vu aQ),(vs aR),(vi bF),(vi bG)]),(vb true)])) Tryz.results104 ⟨(rA (Tryz.isAgg176 _) (Tryz.sizeOf176 _) (hb.r0 0 7 gZ)),(rvT (by kernel_rfl)),trivial⟩ (by kernel_rfl) ?_
 exact ⟨aN,aO,aP,aQ,aR,bF,bG,true,rfl,h⟩
def s_B (kind1:Int):Int :=
 (cond (kind1 == 4) 2 (cond (cond (kind1 == 5) (kind1 == 5) (cond (kind1 == 7) (kind1 == 7) (cond (kind1 == 8) (kind1 == 8) (kind1 == 9)))) 1 0))
theorem pw_B (kind1 : Int) (w0 : World) :
  Calls Tryz.prog 105 #[(vi kind1)] w0 (fun e w'=>∃b'0 b'1:Bool,((kind1 == 4)=b'0∧(cond (kind1 == 5) (kind1 == 5) (cond (kind1 == 7) (kind1 == 7) (cond (kind1 == 8) (kind1 == 8) (kind1 == 9))))=b'1)∧(e=.returned (vi (cond b'0 2 (cond b'1 1 0))))∧Pure w0 w'):=by
 refine cw (args:=[(vi kind1)]) Tryz.func105 Tryz.ntmps105 (eg (q0 (vi 0) (ln (wpE_seq (eg (q0 (vi kind1) (ln ?_)))))))
 refine wpE_block (eg (q0 (vb (kind1 == 4)) (q0 (vb (kind1 == 4)) (ln ?_))))
 refine wpE_cond (t:=(kind1 == 4)) (by kernel_rfl) (fun hc1=>?_) (fun hc1=>?_)
 refine eg (q0 (vi 2) (ln (er (bl_r (th_r (rs1 Tryz.results105 (v:=(vi 2)) ?_))))))
 exact ⟨true,_,⟨hc1,rfl⟩,by kernel_rfl,Ext.refl _⟩
 refine wpE_seq (eg (q0 (vb (kind1 == 5)) (q0 (vb (kind1 == 5)) (ln ?_))))
 refine wpE_via (fun ρ wJ=>∃b1'0 b1'1 b1'2:Bool,((kind1 == 5)=b1'0)∧((kind1 == 7)=b1'1)∧((kind1 == 8)=b1'2)∧w0=wJ∧Has ρ [(6,(vb (cond b1'0 (kind1 == 5) (cond b1'1 (kind1 == 7) (cond b1'2 (kind1 == 8) (kind1 == 9))))))]) ?_ ?_
 refine wpE_cond (t:=(kind1 == 5)) (by kernel_rfl) (fun hc5=>?_) (fun hc5=>?_)
 refine wpE_skip (th_n ?_)
 exact ⟨true,_,_,hc5,rfl,rfl,rfl,hm⟩
 refine eg (q0 (vb (kind1 == 7)) (q0 (vb (kind1 == 7)) (ln ?_)))
 refine wpE_cond (t:=(kind1 == 7)) (by kernel_rfl) (fun hc6=>?_) (fun hc6=>?_)
 refine wpE_skip (th_n ?_)
 exact ⟨false,true,_,hc5,hc6,rfl,rfl,hm⟩
 refine eg (q0 (vb (kind1 == 8)) (q0 (vb (kind1 == 8)) (ln ?_)))
 refine wpE_cond (t:=(kind1 == 8)) (by kernel_rfl) (fun hc7=>?_) (fun hc7=>?_)
 refine wpE_skip (th_n ?_)
 exact ⟨false,false,true,hc5,hc6,hc7,rfl,hm⟩
 refine rg (q0 (vb (kind1 == 9)) (q0 (vb (kind1 == 9)) (ln ?_)))
 exact ⟨false,false,false,hc5,hc6,hc7,rfl,hm⟩
 rintro ρ w1 ⟨b1'0,b1'1,b1'2,he0,he1,he2,hw,hH⟩
 subst he0
 subst he1
 subst he2
 subst hw
 refine norm_has hH ?_
 refine th_n ?_
 refine wpE_cond (t:=(cond (kind1 == 5) (kind1 == 5) (cond (kind1 == 7) (kind1 == 7) (cond (kind1 == 8) (kind1 == 8) (kind1 == 9))))) (by kernel_rfl) (fun hc8=>?_) (fun hc8=>?_)
 refine eg (q0 (vi 1) (ln (er (bl_r (th_r (rs1 Tryz.results105 (v:=(vi 1)) ?_))))))
 exact ⟨false,true,⟨hc1,hc8⟩,by kernel_rfl,Ext.refl _⟩
 refine wpE_skip (bl_n (th_n (eg (q0 (vi 0) (ln (er (rs1 Tryz.results105 (v:=(vi 0)) ?_)))))))
 exact ⟨false,false,⟨hc1,hc8⟩,by kernel_rfl,Ext.refl _⟩
theorem p_B (kind1:Int) (w0:World):Calls Tryz.prog 105 #[(.int .i64 kind1)] w0 (fun e w'=>e=.returned (.int .i64 (s_B kind1))∧Pure w0 w'):=by
 refine (pw_B kind1 w0).mono ?_
 rintro e w' ⟨b'0,b'1,⟨e0,e1⟩,h,E⟩
 subst e0
 subst e1
 exact ⟨h,E⟩
def m_P3  (w0:World) (K:(Option Addr)→WP):Prop :=
 ∀(p1:Addr) (w1:World),New w0 (.cells #[Sl.nil.v,Sl.nil.v,Sl.nil.v] 44) p1 w1 →
 K (some p1) w1
theorem w_P3  (w0 : World) (K : (Option Addr) → WP) (h : m_P3  w0 K) :
  Calls Tryz.prog 63 #[] w0 (fun e w'=>∃r1:Option Addr,e=.returned (vp r1)∧K r1 w'):=by
 unfold m_P3 at h
 refine cw (args:=[]) Tryz.func63 Tryz.ntmps63 (eg (q0 (vp none) (ln (eg (q0 (.agg #[Sl.nil.v,Sl.nil.v,Sl.nil.v]) (sn (O:=(.cells #[Sl.nil.v,Sl.nil.v,Sl.nil.v] 44)) xb ?_))))))
 intro p1 w1 hn1
 have h:=h p1 w1 hn1
 refine q0 (vp (some p1)) (ln (er (rs1 Tryz.results63 (v:=(vp (some p1))) ?_)))
 exact ⟨(some p1),rfl,h⟩
def m_I1_l1 (aH:Sl) (most1 n1 i1:Int) (w0:World) (Hl1:NP) (wl1:World) (Kc1:Int→Int→NP→WP) (K:Int→WP):Prop :=
 Br ((decide (i1<(aH.len:Int))) && (decide (n1≤most1)))
  (∃a1:Addr,At aH i1 6 a1 ∧
  ∀(H2:NP) (w2:World),Hst w0 Hl1 wl1 H2 w2 →
  ∃aN aO:Int,∃aP aQ:Int,∃aR:ByteArray,∃bC:Sl,Row w2 a1 [(vi aN),(vi aO),(vi aP),(vu aQ),(vs aR),bC.v] ∧
  Calls Tryz.prog 75 #[(.agg #[(vi aN),(vi aO),(vi aP),(vu aQ),(vs aR),bC.v]),(vi (q6.wrap (most1 - n1)))] w2 (fun e w3=>∃r1:Int,e=.returned (vi r1)∧
   Kept H2 w2 w3 ∧
   Kc1 (q6.wrap (n1+r1)) (q6.wrap (i1+1)) H2 w3))
  (∀(H2:NP) (w2:World),Hst w0 Hl1 wl1 H2 w2 →
  K n1 w2)
def m_I1 (aI aJ:Int) (aK aL:Int) (aM:ByteArray) (aH:Sl) (most1:Int) (w0:World) (K:Int→WP):Prop :=
 ∀(H1:NP) (w1:World),Hst w0 None w0 H1 w1 →
 ∃(I1:Int→Int→NP→WP) (mu1:Int→Int→World→Nat),I1 1 0 H1 w1 ∧
  ∀(n1 i1:Int) (Hl1:NP) (wl1:World),Hst w0 Hl1 wl1 Hl1 wl1→I1 n1 i1 Hl1 wl1→m_I1_l1 aH most1 n1 i1 w0 Hl1 wl1 (fun y'0 y'1 H' w'=>I1 y'0 y'1 H' w'∧mu1 y'0 y'1 w'<mu1 n1 i1 wl1) K
theorem w_I1 (aI aJ : Int) (aK aL : Int) (aM : ByteArray) (aH : Sl) (most1 : Int) (w0 : World) (K : Int → WP) (h : m_I1 aI aJ aK aL aM aH most1 w0 K) :
  Calls Tryz.prog 75 #[(.agg #[(vi aI),(vi aJ),(vi aK),(vu aL),(vs aM),aH.v]),(vi most1)] w0 (fun e w'=>∃r2:Int,e=.returned (vi r2)∧K r2 w'):=by
 unfold m_I1 at h
 refine cw (args:=[(.agg #[(vi aI),(vi aJ),(vi aK),(vu aL),(vs aM),aH.v]),(vi most1)]) Tryz.func75 Tryz.ntmps75 ?_
 have hs:=Hst.start w0
 have hb:=HB.nil None w0
 refine eg (sn (O:=(.cells #[(vi aI),(vi aJ),(vi aK),(vu aL),(vs aM),aH.v] 107)) xb ?_)
 intro p1 w1 hn1
 obtain ⟨H1,hs,hb⟩:=hs.alloc hb hn1
 refine q0 (vi 0) (ln (eg (q0 (vi 1) (ln (wpE_seq (eg (q0 (vi 0) ?_)))))))
 refine ln (wpE_block ?_)
 have h:=h H1 w1 hs
 have hs:=hs.here
 obtain ⟨I1,mu1,h0,hr⟩:=h
 refine wpE_loop (σ:=Int×Int×NP×World) (fun s ρ w=>w=s.2.2.2∧Has ρ [(1,(vi most1)),(2,(vp (some p1))),(5,(vi s.1)),(6,(vi s.2.1))]∧Hst w0 s.2.2.1 w s.2.2.1 w∧HB s.2.2.1 w [(p1,[(vi aI),(vi aJ),(vi aK),(vu aL),(vs aM),aH.v],107)]∧I1 s.1 s.2.1 s.2.2.1 s.2.2.2) (fun s=>mu1 s.1 s.2.1 s.2.2.2) (1,0,H1,w1) ⟨rfl,hm,hs,hb,h0⟩ ?_
 rintro ⟨n1,i1,Hl1,wl1⟩ ρ w ⟨hw,hH,hs,hb,hI⟩
 obtain rfl:wl1=w:=(show w=wl1 from hw).symm
 have hH:Has ρ [(1,(vi most1)),(2,(vp (some p1))),(5,(vi n1)),(6,(vi i1))]:=hH
 have hs:Hst w0 Hl1 wl1 Hl1 wl1:=hs
 have hb:HB Hl1 wl1 [(p1,[(vi aI),(vi aJ),(vi aK),(vu aL),(vs aM),aH.v],107)]:=hb
 have h:=hr n1 i1 Hl1 wl1 hs hI
 unfold m_I1_l1 at h
 refine wpE_has hH ?_
 refine wpE_seq (wpE_seq ?_)
 refine wpE_via (fun ρ wJ=>∃b1'0:Bool,∃HJ:NP,((decide (i1<(aH.len:Int)))=b1'0)∧Hst w0 Hl1 wl1 HJ wJ∧HB HJ wJ [(p1,[(vi aI),(vi aJ),(vi aK),(vu aL),(vs aM),aH.v],107)]∧Has ρ [(1,(vi most1)),(2,(vp (some p1))),(5,(vi n1)),(6,(vi i1)),(16,(vb (b1'0 && (decide (n1≤most1)))))]) ?_ ?_
 refine rg (q0 (vi i1) (q0 (vp (some (p1.add 5))) (q2 aH.v (xl (Tryz.isAgg66 _) (hb.c 0 5 gZ)) (q0 (vi (aH.len:Int)) (q0 (vb (decide (i1<(aH.len:Int)))) (q0 (vb (decide (i1<(aH.len:Int)))) ?_))))))
 rcases Bool.eq_false_or_eq_true (decide (i1<(aH.len:Int))) with hg2 | hg2
 refine q1 (vi n1) (wy 12 hg2) (q1 (vi most1) (wy 12 hg2) (q1 (vb (decide (n1≤most1))) (wy 12 hg2) (q2 (vb (decide (n1≤most1))) (xT hg2) (ln ?_))))
 exact ⟨true,_,hg2,hs,hb,hm⟩
 refine sk (yD 12 hg2) (sk (yD 12 hg2) (sk (yD 12 hg2) (q2 (vb false) (xF hg2) (ln ?_))))
 exact ⟨false,_,hg2,hs,hb,hm⟩
 rintro ρ w2 ⟨b1'0,H2,he0,hs,hb,hH⟩
 subst he0
 refine norm_has hH ?_
 refine th_n ?_
 refine wpE_cond (t:=((decide (i1<(aH.len:Int))) && (decide (n1≤most1)))) (by kernel_rfl) (fun hc1=>?_) (fun hc1=>?_)
 have h:=h.1 hc1
 refine wpE_skip (th_n (wpE_seq (wpE_block (rg (q0 (vi n1) (q0 (vp (some (p1.add 5))) (q2 aH.v (xl (Tryz.isAgg66 _) (hb.c 0 5 gZ)) (q0 (vi i1) ?_))))))))
 obtain ⟨a1,hv2,h⟩:=h
 refine q2 (vp (some a1)) (xi (Tryz.runUnderlying66 _) (Tryz.sizeOf107 _) hv2) ?_
 have h:=h H2 w2 hs
 have hs:=hs.here
 obtain ⟨aN,aO,aP,aQ,aR,bC,hv1,h⟩:=h
 refine q2 (.agg #[(vi aN),(vi aO),(vi aP),(vu aQ),(vs aR),bC.v]) (xa a1 [(vi aN),(vi aO),(vi aP),(vu aQ),(vs aR),bC.v] (Tryz.isAgg107 _) (Tryz.sizeOf107 _) hv1) (q0 (vi most1) (q0 (vi n1) (q0 (vi (q6.wrap (most1 - n1))) ?_)))
 refine sc Tryz.call75 (h.mono ?_)
 rintro e w3 ⟨r1,rfl,hk,h⟩
 refine ⟨_,rfl,?_⟩
 obtain ⟨hs,hb⟩:=hk.hh hs hb
 refine q0 (vi (q6.wrap (n1+r1))) (q0 (vi (q6.wrap (n1+r1))) (wpL_nil (bl_n (th_n (rg (q0 (vi i1) (q0 (vi (q6.wrap (i1+1))) (q0 (vi (q6.wrap (i1+1))) (ln ?_)))))))))
 exact ⟨((q6.wrap (n1+r1)),(q6.wrap (i1+1)),H2,w3),⟨rfl,hm,hs,hb,h.1⟩,h.2⟩
 have h:=h.2 hc1
 refine wpE_exit (th_x (th_x (bl_eq (th_n (eg (q0 (vi n1) (q0 (vi n1) (ln (er ?_)))))))))
 have h:=h H2 w2 hs
 have hs:=hs.here
 refine rs1 Tryz.results75 (v:=(vi n1)) ?_
 exact ⟨n1,rfl,h⟩
def s_Z (aI aJ:Int) (aK aL:Int) (aM:ByteArray) (aH:Sl):Int×Int×Int×Int×ByteArray×Int×Int :=
 (aI,aJ,aK,aL,aM,0,0)
theorem pw_Z (aI aJ : Int) (aK aL : Int) (aM : ByteArray) (aH : Sl) (w0 : World) :
  Calls Tryz.prog 204 #[(.agg #[(vi aI),(vi aJ),(vi aK),(vu aL),(vs aM),aH.v])] w0 (fun e w'=>(e=.returned (.agg #[(vi aI),(vi aJ),(vi aK),(vu aL),(vs aM),(vi 0),(vi 0)]))∧Pure w0 w'):=by
 refine cw (args:=[(.agg #[(vi aI),(vi aJ),(vi aK),(vu aL),(vs aM),aH.v])]) Tryz.func204 Tryz.ntmps204 ?_
 have hs:=Hst.start w0
 have hb:=HB.nil None w0
 refine eg (sn (O:=(.cells #[(vi aI),(vi aJ),(vi aK),(vu aL),(vs aM),aH.v] 107)) xb ?_)
 intro p1 w1 hn1
 obtain ⟨H1,hs,hb⟩:=hs.alloc hb hn1
 refine sn (O:=(.cells #[(vi 0),(vi 0),(vi 0),(vu 0),(vs ⟨#[]⟩),(vi 0),(vi 0)] 176)) (x_alloc (Tryz.zeroValue176 _) rfl) ?_
 intro p2 w2 hn2
 obtain ⟨H2,hs,hb⟩:=hs.alloc hb hn2
 refine ln (eg (q0 (vp (some p1)) (q2 (vi aI) (xl (Tryz.isAgg3 _) (hb.c0 1 (gS gZ))) (q0 (vp (some (p1.add 1))) (q2 (vi aJ) (xl (Tryz.isAgg3 _) (hb.c 1 1 (gS gZ))) (q0 (vp (some (p1.add 2))) (q2 (vi aK) (xl (Tryz.isAgg3 _) (hb.c 1 2 (gS gZ))) (q0 (vp (some (p1.add 3))) (q2 (vu aL) (xl (Tryz.isAgg23 _) (hb.c 1 3 (gS gZ))) ?_)))))))))
 refine q0 (vp (some (p1.add 4))) (q2 (vs aM) (xl (Tryz.isAgg9 _) (hb.c 1 4 (gS gZ))) (q0 (.agg #[(vi aI),(vi aJ),(vi aK),(vu aL),(vs aM),(vi 0),(vi 0)]) (st_set (want0 rfl) (xo p2 [(vi aI),(vi aJ),(vi aK),(vu aL),(vs aM),(vi 0),(vi 0)] (Tryz.sizeOf176 _) (hb.k0 0 7 gZ)) ?_)))
 intro w3 hn3
 obtain ⟨hs,hb⟩:=hb.s0 (l':=[(p2,[(vi aI),(vi aJ),(vi aK),(vu aL),(vs aM),(vi 0),(vi 0)],176),(p1,[(vi aI),(vi aJ),(vi aK),(vu aL),(vs aM),aH.v],107)]) 0 [(vi aI),(vi aJ),(vi aK),(vu aL),(vs aM),(vi 0),(vi 0)] hs hn3 gZ
 refine ln (er (resG (.inl rfl) (vs:=[(.agg #[(vi aI),(vi aJ),(vi aK),(vu aL),(vs aM),(vi 0),(vi 0)])]) (v:=(.agg #[(vi aI),(vi aJ),(vi aK),(vu aL),(vs aM),(vi 0),(vi 0)])) Tryz.results204 ⟨(rA (Tryz.isAgg176 _) (Tryz.sizeOf176 _) (hb.r0 0 7 gZ)),trivial⟩ (by kernel_rfl) ?_))
 exact ⟨by kernel_rfl,(Ext.refl (F:=None) _).hst hs⟩
theorem p_Z (aI aJ:Int) (aK aL:Int) (aM:ByteArray) (aH:Sl) (w0:World):Calls Tryz.prog 204 #[(.agg #[(.int .i64 aI),(.int .i64 aJ),(.int .i64 aK),(.int .u64 aL),(.string aM),aH.v])] w0 (fun e w'=>e=.returned (.agg #[(.int .i64 (s_Z aI aJ aK aL aM aH).1),(.int .i64 (s_Z aI aJ aK aL aM aH).2.1),(.int .i64 (s_Z aI aJ aK aL aM aH).2.2.1),(.int .u64 (s_Z aI aJ aK aL aM aH).2.2.2.1),(.string (s_Z aI aJ aK aL aM aH).2.2.2.2.1),(.int .i64 (s_Z aI aJ aK aL aM aH).2.2.2.2.2.1),(.int .i64 (s_Z aI aJ aK aL aM aH).2.2.2.2.2.2)])∧Pure w0 w'):=pw_Z aI aJ aK aL aM aH w0
def s_U1 (kind1:Int):Bool :=
 ((kind1 == 8) || (kind1 == 9))
theorem pw_U1 (kind1 : Int) (w0 : World) :
  Calls Tryz.prog 225 #[(vi kind1)] w0 (fun e w'=>(e=.returned (vb ((kind1 == 8) || (kind1 == 9))))∧Pure w0 w'):=by
 refine cw (args:=[(vi kind1)]) Tryz.func225 Tryz.ntmps225 (eg (q0 (vb false) (ln (wpE_seq ?_))))
 refine wpE_via (fun ρ wJ=>w0=wJ∧Has ρ [(2,(vb ((kind1 == 8) || (kind1 == 9))))]) ?_ ?_
 refine rg (q0 (vi kind1) (q0 (vb (kind1 == 8)) (q0 (vb (kind1 == 8)) ?_)))
 refine wpL_join 3 (fun ρ wJ=>∃b3'0:Bool,((kind1 == 8)=b3'0)∧w0=wJ∧Has ρ [(8,(vb (b3'0 || (kind1 == 9))))]) ?_ ?_
 rintro ρ w3 ⟨b3'0,he0,hw,hH⟩
 subst he0
 subst hw
 refine wpL_has hH ?_
 refine q0 (vb ((kind1 == 8) || (kind1 == 9))) (ln ?_)
 exact ⟨rfl,hm⟩
 rcases Bool.eq_false_or_eq_true (kind1 == 8) with hg4 | hg4
 refine sk (yD 5 hg4) (sk (yD 5 hg4) (q2 (vb true) (xT hg4) (wpL_nil ?_)))
 exact ⟨true,hg4,rfl,hm⟩
 refine q1 (vi kind1) (wy 5 hg4) (q1 (vb (kind1 == 9)) (wy 5 hg4) (q2 (vb (kind1 == 9)) (xF hg4) (wpL_nil ?_)))
 exact ⟨false,hg4,rfl,hm⟩
 rintro ρ w2 ⟨hw,hH⟩
 subst hw
 refine norm_has hH ?_
 refine th_n (er (rs1 Tryz.results225 (v:=(vb ((kind1 == 8) || (kind1 == 9)))) ?_))
 exact ⟨by kernel_rfl,Ext.refl _⟩
theorem p_U1 (kind1:Int) (w0:World):Calls Tryz.prog 225 #[(.int .i64 kind1)] w0 (fun e w'=>e=.returned (.bool (s_U1 kind1))∧Pure w0 w'):=pw_U1 kind1 w0
def s_C (kind1:Int):Bool :=
 ((((kind1 == 1) || (kind1 == 6)) || (kind1 == 7)) || ((kind1 == 8) || (kind1 == 9)))
theorem pw_C (kind1 : Int) (w0 : World) :
  Calls Tryz.prog 223 #[(vi kind1)] w0 (fun e w'=>(e=.returned (vb ((((kind1 == 1) || (kind1 == 6)) || (kind1 == 7)) || ((kind1 == 8) || (kind1 == 9)))))∧Pure w0 w'):=by
 refine cw (args:=[(vi kind1)]) Tryz.func223 Tryz.ntmps223 ?_
 have hs:=Hst.start w0
 have hb:=HB.nil None w0
 refine eg (q0 (vb false) (ln (wpE_seq ?_)))
 refine wpE_via (fun ρ wJ=>∃HJ:NP,Hst w0 None w0 HJ wJ∧HB HJ wJ []∧Has ρ [(2,(vb ((((kind1 == 1) || (kind1 == 6)) || (kind1 == 7)) || ((kind1 == 8) || (kind1 == 9)))))]) ?_ ?_
 refine rg (q0 (vi kind1) (q0 (vb (kind1 == 1)) (q0 (vb (kind1 == 1)) ?_)))
 refine wpL_join 3 (fun ρ wJ=>∃b5'0:Bool,∃HJ:NP,((kind1 == 1)=b5'0)∧Hst w0 None w0 HJ wJ∧HB HJ wJ []∧Has ρ [(0,(vi kind1)),(8,(vb (b5'0 || (kind1 == 6))))]) ?_ ?_
 rintro ρ w7 ⟨b5'0,H5,he0,hs,hb,hH⟩
 subst he0
 refine wpL_has hH ?_
 refine q0 (vb ((kind1 == 1) || (kind1 == 6))) ?_
 refine wpL_join 3 (fun ρ wJ=>∃b6'0:Bool,∃HJ:NP,(((kind1 == 1) || (kind1 == 6))=b6'0)∧Hst w0 None w0 HJ wJ∧HB HJ wJ []∧Has ρ [(0,(vi kind1)),(12,(vb (b6'0 || (kind1 == 7))))]) ?_ ?_
 rintro ρ w8 ⟨b6'0,H6,he0,hs,hb,hH⟩
 subst he0
 refine wpL_has hH ?_
 refine q0 (vb (((kind1 == 1) || (kind1 == 6)) || (kind1 == 7))) ?_
 refine wpL_join 3 (fun ρ wJ=>∃b7'0:Bool,∃HJ:NP,((((kind1 == 1) || (kind1 == 6)) || (kind1 == 7))=b7'0)∧Hst w0 None w0 HJ wJ∧HB HJ wJ []∧Has ρ [(16,(vb (b7'0 || ((kind1 == 8) || (kind1 == 9)))))]) ?_ ?_
 rintro ρ w10 ⟨b7'0,H7,he0,hs,hb,hH⟩
 subst he0
 refine wpL_has hH ?_
 refine q0 (vb ((((kind1 == 1) || (kind1 == 6)) || (kind1 == 7)) || ((kind1 == 8) || (kind1 == 9)))) (ln ?_)
 exact ⟨_,hs,hb,hm⟩
 rcases Bool.eq_false_or_eq_true (((kind1 == 1) || (kind1 == 6)) || (kind1 == 7)) with hg12 | hg12
 refine sk (yD 13 hg12) (sk (yD 13 hg12) (q2 (vb true) (xT hg12) (wpL_nil ?_)))
 exact ⟨true,_,hg12,hs,hb,hm⟩
 refine q1 (vi kind1) (wy 13 hg12) ?_
 refine st_call (wy 13 hg12) (xc Tryz.call225) ((p_U1 kind1 w8).mono ?_)
 rintro e w11 ⟨he,hE⟩
 refine ⟨(vb ((kind1 == 8) || (kind1 == 9))),he.trans (by kernel_rfl),?_⟩
 have hs:=hs.pure hE
 have hb:=hb.pure hE
 refine q2 (vb ((kind1 == 8) || (kind1 == 9))) (xF hg12) (wpL_nil ?_)
 exact ⟨false,_,hg12,hs,hb,hm⟩
 rcases Bool.eq_false_or_eq_true ((kind1 == 1) || (kind1 == 6)) with hg10 | hg10
 refine sk (yD 9 hg10) (sk (yD 9 hg10) (q2 (vb true) (xT hg10) (wpL_nil ?_)))
 exact ⟨true,_,hg10,hs,hb,hm⟩
 refine q1 (vi kind1) (wy 9 hg10) (q1 (vb (kind1 == 7)) (wy 9 hg10) (q2 (vb (kind1 == 7)) (xF hg10) (wpL_nil ?_)))
 exact ⟨false,_,hg10,hs,hb,hm⟩
 rcases Bool.eq_false_or_eq_true (kind1 == 1) with hg8 | hg8
 refine sk (yD 5 hg8) (sk (yD 5 hg8) (q2 (vb true) (xT hg8) (wpL_nil ?_)))
 exact ⟨true,_,hg8,hs,hb,hm⟩
 refine q1 (vi kind1) (wy 5 hg8) (q1 (vb (kind1 == 6)) (wy 5 hg8) (q2 (vb (kind1 == 6)) (xF hg8) (wpL_nil ?_)))
 exact ⟨false,_,hg8,hs,hb,hm⟩
 rintro ρ w6 ⟨H4,hs,hb,hH⟩
 refine norm_has hH ?_
 refine th_n (er (rs1 Tryz.results223 (v:=(vb ((((kind1 == 1) || (kind1 == 6)) || (kind1 == 7)) || ((kind1 == 8) || (kind1 == 9))))) ?_))
 exact ⟨by kernel_rfl,(Ext.refl (F:=None) _).hst hs⟩
theorem p_C (kind1:Int) (w0:World):Calls Tryz.prog 223 #[(.int .i64 kind1)] w0 (fun e w'=>e=.returned (.bool (s_C kind1))∧Pure w0 w'):=pw_C kind1 w0
def s_A1 (aA aB:Int) (aC aE:Int) (aD:ByteArray) (aF aG:Int):Bool :=
 (!((decide (aA<1)) || (decide (aA>9))) && (((((((s_C aA) || (aB == 0)) && (((aA == 8) || (aA == 9)) || (aC == 0))) && ((aA == 2) || (aE == 0))) && ((aA == 3) || (decide (aD=⟨#[]⟩)))) && ((decide ((s_B aA)≥1)) || (aF == 0))) && ((((s_B aA):Int) == 2) || (aG == 0))))
theorem pw_A1 (aA aB : Int) (aC aE : Int) (aD : ByteArray) (aF aG : Int) (w0 : World) :
  Calls Tryz.prog 222 #[(.agg #[(vi aA),(vi aB),(vi aC),(vu aE),(vs aD),(vi aF),(vi aG)])] w0 (fun e w'=>∃b'0:Bool,(((decide (aA<1)) || (decide (aA>9)))=b'0)∧(e=.returned (vb (!b'0 && (((((((s_C aA) || (aB == 0)) && (((aA == 8) || (aA == 9)) || (aC == 0))) && ((aA == 2) || (aE == 0))) && ((aA == 3) || (decide (aD=⟨#[]⟩)))) && ((decide ((s_B aA)≥1)) || (aF == 0))) && ((((s_B aA):Int) == 2) || (aG == 0))))))∧Pure w0 w'):=by
 refine cw (args:=[(.agg #[(vi aA),(vi aB),(vi aC),(vu aE),(vs aD),(vi aF),(vi aG)])]) Tryz.func222 Tryz.ntmps222 ?_
 have hs:=Hst.start w0
 have hb:=HB.nil None w0
 refine eg (sn (O:=(.cells #[(vi aA),(vi aB),(vi aC),(vu aE),(vs aD),(vi aF),(vi aG)] 176)) xb ?_)
 intro p1 w1 hn1
 obtain ⟨H1,hs,hb⟩:=hs.alloc hb hn1
 refine q0 (vb false) (ln (wpE_seq (wpE_seq ?_)))
 refine wpE_via (fun ρ wJ=>∃b1'0:Bool,∃HJ:NP,((decide (aA<1))=b1'0)∧Hst w0 None w0 HJ wJ∧HB HJ wJ [(p1,[(vi aA),(vi aB),(vi aC),(vu aE),(vs aD),(vi aF),(vi aG)],176)]∧Has ρ [(1,(vp (some p1))),(10,(vb (b1'0 || (decide (aA>9)))))]) ?_ ?_
 refine rg (q0 (vp (some p1)) (q2 (vi aA) (xl (Tryz.isAgg3 _) (hb.c0 0 gZ)) (q0 (vb (decide (aA<1))) (q0 (vb (decide (aA<1))) ?_))))
 rcases Bool.eq_false_or_eq_true (decide (aA<1)) with hg2 | hg2
 refine sk (yD 6 hg2) (sk (yD 6 hg2) (sk (yD 6 hg2) (q2 (vb true) (xT hg2) (ln ?_))))
 exact ⟨true,_,hg2,hs,hb,hm⟩
 refine q1 (vp (some p1)) (wy 6 hg2) (stp (v:=(vi aA)) (wy 6 hg2) (xl (Tryz.isAgg3 _) (hb.c0 0 gZ)) (q1 (vb (decide (aA>9))) (wy 6 hg2) (q2 (vb (decide (aA>9))) (xF hg2) (ln ?_))))
 exact ⟨false,_,hg2,hs,hb,hm⟩
 rintro ρ w2 ⟨b1'0,H2,he0,hs,hb,hH⟩
 subst he0
 refine norm_has hH ?_
 refine th_n ?_
 refine wpE_cond (t:=((decide (aA<1)) || (decide (aA>9)))) (by kernel_rfl) (fun hc1=>?_) (fun hc1=>?_)
 refine eg (q0 (vb false) (ln (er (th_r (rs1 Tryz.results222 (v:=(vb false)) ?_)))))
 exact ⟨true,hc1,by kernel_rfl,(Ext.refl (F:=None) _).hst hs⟩
 refine wpE_skip (th_n (wpE_seq ?_))
 refine wpE_via (fun ρ wJ=>∃HJ:NP,Hst w0 None w0 HJ wJ∧HB HJ wJ [(p1,[(vi aA),(vi aB),(vi aC),(vu aE),(vs aD),(vi aF),(vi aG)],176)]∧Has ρ [(2,(vb (((((((s_C aA) || (aB == 0)) && (((aA == 8) || (aA == 9)) || (aC == 0))) && ((aA == 2) || (aE == 0))) && ((aA == 3) || (decide (aD=⟨#[]⟩)))) && ((decide ((s_B aA)≥1)) || (aF == 0))) && ((((s_B aA):Int) == 2) || (aG == 0)))))]) ?_ ?_
 refine rg (q0 (vp (some p1)) (q2 (vi aA) (xl (Tryz.isAgg3 _) (hb.c0 0 gZ)) ?_))
 refine sc Tryz.call223 ((p_C aA w2).mono ?_)
 rintro e w27 ⟨he,hE⟩
 refine ⟨(vb (s_C aA)),he.trans (by kernel_rfl),?_⟩
 have hs:=hs.pure hE
 have hb:=hb.pure hE
 refine q0 (vb (s_C aA)) ?_
 refine wpL_join 4 (fun ρ wJ=>∃b19'0:Bool,∃HJ:NP,((s_C aA)=b19'0)∧Hst w0 None w0 HJ wJ∧HB HJ wJ [(p1,[(vi aA),(vi aB),(vi aC),(vu aE),(vs aD),(vi aF),(vi aG)],176)]∧Has ρ [(1,(vp (some p1))),(18,(vb (b19'0 || (aB == 0))))]) ?_ ?_
 rintro ρ w28 ⟨b19'0,H20,he0,hs,hb,hH⟩
 subst he0
 refine wpL_has hH ?_
 refine q0 (vb ((s_C aA) || (aB == 0))) ?_
 refine wpL_join 9 (fun ρ wJ=>∃b21'0:Bool,∃HJ:NP,(((s_C aA) || (aB == 0))=b21'0)∧Hst w0 None w0 HJ wJ∧HB HJ wJ [(p1,[(vi aA),(vi aB),(vi aC),(vu aE),(vs aD),(vi aF),(vi aG)],176)]∧Has ρ [(1,(vp (some p1))),(28,(vb (b21'0 && (((aA == 8) || (aA == 9)) || (aC == 0)))))]) ?_ ?_
 rintro ρ w31 ⟨b21'0,H22,he0,hs,hb,hH⟩
 subst he0
 refine wpL_has hH ?_
 refine q0 (vb (((s_C aA) || (aB == 0)) && (((aA == 8) || (aA == 9)) || (aC == 0)))) ?_
 refine wpL_join 9 (fun ρ wJ=>∃b24'0:Bool,∃HJ:NP,((((s_C aA) || (aB == 0)) && (((aA == 8) || (aA == 9)) || (aC == 0)))=b24'0)∧Hst w0 None w0 HJ wJ∧HB HJ wJ [(p1,[(vi aA),(vi aB),(vi aC),(vu aE),(vs aD),(vi aF),(vi aG)],176)]∧Has ρ [(1,(vp (some p1))),(38,(vb (b24'0 && ((aA == 2) || (aE == 0)))))]) ?_ ?_
 rintro ρ w35 ⟨b24'0,H25,he0,hs,hb,hH⟩
 subst he0
 refine wpL_has hH ?_
 refine q0 (vb ((((s_C aA) || (aB == 0)) && (((aA == 8) || (aA == 9)) || (aC == 0))) && ((aA == 2) || (aE == 0)))) ?_
 refine wpL_join 9 (fun ρ wJ=>∃b27'0:Bool,∃HJ:NP,(((((s_C aA) || (aB == 0)) && (((aA == 8) || (aA == 9)) || (aC == 0))) && ((aA == 2) || (aE == 0)))=b27'0)∧Hst w0 None w0 HJ wJ∧HB HJ wJ [(p1,[(vi aA),(vi aB),(vi aC),(vu aE),(vs aD),(vi aF),(vi aG)],176)]∧Has ρ [(1,(vp (some p1))),(48,(vb (b27'0 && ((aA == 3) || (decide (aD=⟨#[]⟩))))))]) ?_ ?_
 rintro ρ w38 ⟨b27'0,H28,he0,hs,hb,hH⟩
 subst he0
 refine wpL_has hH ?_
 refine q0 (vb (((((s_C aA) || (aB == 0)) && (((aA == 8) || (aA == 9)) || (aC == 0))) && ((aA == 2) || (aE == 0))) && ((aA == 3) || (decide (aD=⟨#[]⟩))))) ?_
 refine wpL_join 10 (fun ρ wJ=>∃b30'0:Bool,∃HJ:NP,((((((s_C aA) || (aB == 0)) && (((aA == 8) || (aA == 9)) || (aC == 0))) && ((aA == 2) || (aE == 0))) && ((aA == 3) || (decide (aD=⟨#[]⟩))))=b30'0)∧Hst w0 None w0 HJ wJ∧HB HJ wJ [(p1,[(vi aA),(vi aB),(vi aC),(vu aE),(vs aD),(vi aF),(vi aG)],176)]∧Has ρ [(1,(vp (some p1))),(59,(vb (b30'0 && ((decide ((s_B aA)≥1)) || (aF == 0)))))]) ?_ ?_
 rintro ρ w42 ⟨b30'0,H31,he0,hs,hb,hH⟩
 subst he0
 refine wpL_has hH ?_
 refine q0 (vb ((((((s_C aA) || (aB == 0)) && (((aA == 8) || (aA == 9)) || (aC == 0))) && ((aA == 2) || (aE == 0))) && ((aA == 3) || (decide (aD=⟨#[]⟩)))) && ((decide ((s_B aA)≥1)) || (aF == 0)))) ?_
 refine wpL_join 10 (fun ρ wJ=>∃b33'0:Bool,∃HJ:NP,(((((((s_C aA) || (aB == 0)) && (((aA == 8) || (aA == 9)) || (aC == 0))) && ((aA == 2) || (aE == 0))) && ((aA == 3) || (decide (aD=⟨#[]⟩)))) && ((decide ((s_B aA)≥1)) || (aF == 0)))=b33'0)∧Hst w0 None w0 HJ wJ∧HB HJ wJ [(p1,[(vi aA),(vi aB),(vi aC),(vu aE),(vs aD),(vi aF),(vi aG)],176)]∧Has ρ [(70,(vb (b33'0 && ((((s_B aA):Int) == 2) || (aG == 0)))))]) ?_ ?_
 rintro ρ w47 ⟨b33'0,H34,he0,hs,hb,hH⟩
 subst he0
 refine wpL_has hH ?_
 refine q0 (vb (((((((s_C aA) || (aB == 0)) && (((aA == 8) || (aA == 9)) || (aC == 0))) && ((aA == 2) || (aE == 0))) && ((aA == 3) || (decide (aD=⟨#[]⟩)))) && ((decide ((s_B aA)≥1)) || (aF == 0))) && ((((s_B aA):Int) == 2) || (aG == 0)))) (ln ?_)
 exact ⟨_,hs,hb,hm⟩
 rcases Bool.eq_false_or_eq_true ((((((s_C aA) || (aB == 0)) && (((aA == 8) || (aA == 9)) || (aC == 0))) && ((aA == 2) || (aE == 0))) && ((aA == 3) || (decide (aD=⟨#[]⟩)))) && ((decide ((s_B aA)≥1)) || (aF == 0))) with hg64 | hg64
 refine q1 (vp (some p1)) (wy 60 hg64) (stp (v:=(vi aA)) (wy 60 hg64) (xl (Tryz.isAgg3 _) (hb.c0 0 gZ)) ?_)
 refine st_call (wy 60 hg64) (xc Tryz.call105) ((p_B aA w42).mono ?_)
 rintro e w48 ⟨he,hE⟩
 refine ⟨(vi (s_B aA)),he.trans (by kernel_rfl),?_⟩
 have hs:=hs.pure hE
 have hb:=hb.pure hE
 refine q1 (vb (((s_B aA):Int) == 2)) (wy 60 hg64) (q1 (vb (((s_B aA):Int) == 2)) (wy 60 hg64) ?_)
 refine wpL_join 4 (fun ρ wJ=>∃b34'0:Bool,∃HJ:NP,((((s_B aA):Int) == 2)=b34'0)∧Hst w0 None w0 HJ wJ∧HB HJ wJ [(p1,[(vi aA),(vi aB),(vi aC),(vu aE),(vs aD),(vi aF),(vi aG)],176)]∧Has ρ [(60,(vb ((((((s_C aA) || (aB == 0)) && (((aA == 8) || (aA == 9)) || (aC == 0))) && ((aA == 2) || (aE == 0))) && ((aA == 3) || (decide (aD=⟨#[]⟩)))) && ((decide ((s_B aA)≥1)) || (aF == 0))))),(69,(vb (b34'0 || (aG == 0))))]) ?_ ?_
 rintro ρ w49 ⟨b34'0,H35,he0,hs,hb,hH⟩
 subst he0
 refine wpL_has hH ?_
 refine q2 (vb ((((s_B aA):Int) == 2) || (aG == 0))) (xT hg64) (wpL_nil ?_)
 exact ⟨true,_,hg64,hs,hb,hm⟩
 rcases Bool.eq_false_or_eq_true (((s_B aA):Int) == 2) with hg66 | hg66
 refine sk (yD 65 hg66) (sk (yD 65 hg66) (sk (yD 65 hg66) (stp (v:=(vb true)) (wy 60 hg64) (xT hg66) (wpL_nil ?_))))
 exact ⟨true,_,hg66,hs,hb,hm⟩
 refine q1 (vp (some (p1.add 6))) (wy 65 hg66) (stp (v:=(vi aG)) (wy 65 hg66) (xl (Tryz.isAgg78 _) (hb.c 0 6 gZ)) (q1 (vb (aG == 0)) (wy 65 hg66) (stp (v:=(vb (aG == 0))) (wy 60 hg64) (xF hg66) (wpL_nil ?_))))
 exact ⟨false,_,hg66,hs,hb,hm⟩
 refine sk (yD 60 hg64) (sk (yD 60 hg64) (sk (yD 60 hg64) (sk (yD 60 hg64) (sk (yD 60 hg64) (sm (sm (sm (sk (yD 60 hg64) (q2 (vb false) (xF hg64) (wpL_nil ?_))))))))))
 exact ⟨false,_,hg64,hs,hb,hm⟩
 rcases Bool.eq_false_or_eq_true (((((s_C aA) || (aB == 0)) && (((aA == 8) || (aA == 9)) || (aC == 0))) && ((aA == 2) || (aE == 0))) && ((aA == 3) || (decide (aD=⟨#[]⟩)))) with hg58 | hg58
 refine q1 (vp (some p1)) (wy 49 hg58) (stp (v:=(vi aA)) (wy 49 hg58) (xl (Tryz.isAgg3 _) (hb.c0 0 gZ)) ?_)
 refine st_call (wy 49 hg58) (xc Tryz.call105) ((p_B aA w38).mono ?_)
 rintro e w43 ⟨he,hE⟩
 refine ⟨(vi (s_B aA)),he.trans (by kernel_rfl),?_⟩
 have hs:=hs.pure hE
 have hb:=hb.pure hE
 refine q1 (vb (decide ((s_B aA)≥1))) (wy 49 hg58) (q1 (vb (decide ((s_B aA)≥1))) (wy 49 hg58) ?_)
 refine wpL_join 4 (fun ρ wJ=>∃b31'0:Bool,∃HJ:NP,((decide ((s_B aA)≥1))=b31'0)∧Hst w0 None w0 HJ wJ∧HB HJ wJ [(p1,[(vi aA),(vi aB),(vi aC),(vu aE),(vs aD),(vi aF),(vi aG)],176)]∧Has ρ [(1,(vp (some p1))),(49,(vb (((((s_C aA) || (aB == 0)) && (((aA == 8) || (aA == 9)) || (aC == 0))) && ((aA == 2) || (aE == 0))) && ((aA == 3) || (decide (aD=⟨#[]⟩)))))),(58,(vb (b31'0 || (aF == 0))))]) ?_ ?_
 rintro ρ w44 ⟨b31'0,H32,he0,hs,hb,hH⟩
 subst he0
 refine wpL_has hH ?_
 refine q2 (vb ((decide ((s_B aA)≥1)) || (aF == 0))) (xT hg58) (wpL_nil ?_)
 exact ⟨true,_,hg58,hs,hb,hm⟩
 rcases Bool.eq_false_or_eq_true (decide ((s_B aA)≥1)) with hg60 | hg60
 refine sk (yD 54 hg60) (sk (yD 54 hg60) (sk (yD 54 hg60) (stp (v:=(vb true)) (wy 49 hg58) (xT hg60) (wpL_nil ?_))))
 exact ⟨true,_,hg60,hs,hb,hm⟩
 refine q1 (vp (some (p1.add 5))) (wy 54 hg60) (stp (v:=(vi aF)) (wy 54 hg60) (xl (Tryz.isAgg78 _) (hb.c 0 5 gZ)) (q1 (vb (aF == 0)) (wy 54 hg60) (stp (v:=(vb (aF == 0))) (wy 49 hg58) (xF hg60) (wpL_nil ?_))))
 exact ⟨false,_,hg60,hs,hb,hm⟩
 refine sk (yD 49 hg58) (sk (yD 49 hg58) (sk (yD 49 hg58) (sk (yD 49 hg58) (sk (yD 49 hg58) (sm (sm (sm (sk (yD 49 hg58) (q2 (vb false) (xF hg58) (wpL_nil ?_))))))))))
 exact ⟨false,_,hg58,hs,hb,hm⟩
 rcases Bool.eq_false_or_eq_true ((((s_C aA) || (aB == 0)) && (((aA == 8) || (aA == 9)) || (aC == 0))) && ((aA == 2) || (aE == 0))) with hg52 | hg52
 refine q1 (vp (some p1)) (wy 39 hg52) (stp (v:=(vi aA)) (wy 39 hg52) (xl (Tryz.isAgg3 _) (hb.c0 0 gZ)) (q1 (vb (aA == 3)) (wy 39 hg52) (q1 (vb (aA == 3)) (wy 39 hg52) ?_)))
 refine wpL_join 4 (fun ρ wJ=>∃b28'0:Bool,∃HJ:NP,((aA == 3)=b28'0)∧Hst w0 None w0 HJ wJ∧HB HJ wJ [(p1,[(vi aA),(vi aB),(vi aC),(vu aE),(vs aD),(vi aF),(vi aG)],176)]∧Has ρ [(1,(vp (some p1))),(39,(vb ((((s_C aA) || (aB == 0)) && (((aA == 8) || (aA == 9)) || (aC == 0))) && ((aA == 2) || (aE == 0))))),(47,(vb (b28'0 || (decide (aD=⟨#[]⟩)))))]) ?_ ?_
 rintro ρ w39 ⟨b28'0,H29,he0,hs,hb,hH⟩
 subst he0
 refine wpL_has hH ?_
 refine q2 (vb ((aA == 3) || (decide (aD=⟨#[]⟩)))) (xT hg52) (wpL_nil ?_)
 exact ⟨true,_,hg52,hs,hb,hm⟩
 rcases Bool.eq_false_or_eq_true (aA == 3) with hg54 | hg54
 refine sk (yD 43 hg54) (sk (yD 43 hg54) (sk (yD 43 hg54) (stp (v:=(vb true)) (wy 39 hg52) (xT hg54) (wpL_nil ?_))))
 exact ⟨true,_,hg54,hs,hb,hm⟩
 refine q1 (vp (some (p1.add 4))) (wy 43 hg54) (stp (v:=(vs aD)) (wy 43 hg54) (xl (Tryz.isAgg9 _) (hb.c 0 4 gZ)) (stp (v:=(vb (decide (aD=⟨#[]⟩)))) (wy 43 hg54) (x_streq (by kernel_rfl) (by kernel_rfl)) (stp (v:=(vb (decide (aD=⟨#[]⟩)))) (wy 39 hg52) (xF hg54) (wpL_nil ?_))))
 exact ⟨false,_,hg54,hs,hb,hm⟩
 refine sk (yD 39 hg52) (sk (yD 39 hg52) (sk (yD 39 hg52) (sk (yD 39 hg52) (sm (sm (sm (sk (yD 39 hg52) (q2 (vb false) (xF hg52) (wpL_nil ?_)))))))))
 exact ⟨false,_,hg52,hs,hb,hm⟩
 rcases Bool.eq_false_or_eq_true (((s_C aA) || (aB == 0)) && (((aA == 8) || (aA == 9)) || (aC == 0))) with hg46 | hg46
 refine q1 (vp (some p1)) (wy 29 hg46) (stp (v:=(vi aA)) (wy 29 hg46) (xl (Tryz.isAgg3 _) (hb.c0 0 gZ)) (q1 (vb (aA == 2)) (wy 29 hg46) (q1 (vb (aA == 2)) (wy 29 hg46) ?_)))
 refine wpL_join 4 (fun ρ wJ=>∃b25'0:Bool,∃HJ:NP,((aA == 2)=b25'0)∧Hst w0 None w0 HJ wJ∧HB HJ wJ [(p1,[(vi aA),(vi aB),(vi aC),(vu aE),(vs aD),(vi aF),(vi aG)],176)]∧Has ρ [(1,(vp (some p1))),(29,(vb (((s_C aA) || (aB == 0)) && (((aA == 8) || (aA == 9)) || (aC == 0))))),(37,(vb (b25'0 || (aE == 0))))]) ?_ ?_
 rintro ρ w36 ⟨b25'0,H26,he0,hs,hb,hH⟩
 subst he0
 refine wpL_has hH ?_
 refine q2 (vb ((aA == 2) || (aE == 0))) (xT hg46) (wpL_nil ?_)
 exact ⟨true,_,hg46,hs,hb,hm⟩
 rcases Bool.eq_false_or_eq_true (aA == 2) with hg48 | hg48
 refine sk (yD 33 hg48) (sk (yD 33 hg48) (sk (yD 33 hg48) (stp (v:=(vb true)) (wy 29 hg46) (xT hg48) (wpL_nil ?_))))
 exact ⟨true,_,hg48,hs,hb,hm⟩
 refine q1 (vp (some (p1.add 3))) (wy 33 hg48) (stp (v:=(vu aE)) (wy 33 hg48) (xl (Tryz.isAgg23 _) (hb.c 0 3 gZ)) (q1 (vb (aE == 0)) (wy 33 hg48) (stp (v:=(vb (aE == 0))) (wy 29 hg46) (xF hg48) (wpL_nil ?_))))
 exact ⟨false,_,hg48,hs,hb,hm⟩
 refine sk (yD 29 hg46) (sk (yD 29 hg46) (sk (yD 29 hg46) (sk (yD 29 hg46) (sm (sm (sm (sk (yD 29 hg46) (q2 (vb false) (xF hg46) (wpL_nil ?_)))))))))
 exact ⟨false,_,hg46,hs,hb,hm⟩
 rcases Bool.eq_false_or_eq_true ((s_C aA) || (aB == 0)) with hg40 | hg40
 refine q1 (vp (some p1)) (wy 19 hg40) (stp (v:=(vi aA)) (wy 19 hg40) (xl (Tryz.isAgg3 _) (hb.c0 0 gZ)) ?_)
 refine st_call (wy 19 hg40) (xc Tryz.call225) ((p_U1 aA w28).mono ?_)
 rintro e w32 ⟨he,hE⟩
 refine ⟨(vb ((aA == 8) || (aA == 9))),he.trans (by kernel_rfl),?_⟩
 have hs:=hs.pure hE
 have hb:=hb.pure hE
 refine q1 (vb ((aA == 8) || (aA == 9))) (wy 19 hg40) ?_
 refine wpL_join 4 (fun ρ wJ=>∃b22'0:Bool,∃HJ:NP,(((aA == 8) || (aA == 9))=b22'0)∧Hst w0 None w0 HJ wJ∧HB HJ wJ [(p1,[(vi aA),(vi aB),(vi aC),(vu aE),(vs aD),(vi aF),(vi aG)],176)]∧Has ρ [(1,(vp (some p1))),(19,(vb ((s_C aA) || (aB == 0)))),(27,(vb (b22'0 || (aC == 0))))]) ?_ ?_
 rintro ρ w33 ⟨b22'0,H23,he0,hs,hb,hH⟩
 subst he0
 refine wpL_has hH ?_
 refine q2 (vb (((aA == 8) || (aA == 9)) || (aC == 0))) (xT hg40) (wpL_nil ?_)
 exact ⟨true,_,hg40,hs,hb,hm⟩
 rcases Bool.eq_false_or_eq_true ((aA == 8) || (aA == 9)) with hg42 | hg42
 refine sk (yD 23 hg42) (sk (yD 23 hg42) (sk (yD 23 hg42) (stp (v:=(vb true)) (wy 19 hg40) (xT hg42) (wpL_nil ?_))))
 exact ⟨true,_,hg42,hs,hb,hm⟩
 refine q1 (vp (some (p1.add 2))) (wy 23 hg42) (stp (v:=(vi aC)) (wy 23 hg42) (xl (Tryz.isAgg3 _) (hb.c 0 2 gZ)) (q1 (vb (aC == 0)) (wy 23 hg42) (stp (v:=(vb (aC == 0))) (wy 19 hg40) (xF hg42) (wpL_nil ?_))))
 exact ⟨false,_,hg42,hs,hb,hm⟩
 refine sk (yD 19 hg40) (sk (yD 19 hg40) (sk (yD 19 hg40) (sk (yD 19 hg40) (sm (sm (sm (sk (yD 19 hg40) (q2 (vb false) (xF hg40) (wpL_nil ?_)))))))))
 exact ⟨false,_,hg40,hs,hb,hm⟩
 rcases Bool.eq_false_or_eq_true (s_C aA) with hg36 | hg36
 refine sk (yD 14 hg36) (sk (yD 14 hg36) (sk (yD 14 hg36) (q2 (vb true) (xT hg36) (wpL_nil ?_))))
 exact ⟨true,_,hg36,hs,hb,hm⟩
 refine q1 (vp (some (p1.add 1))) (wy 14 hg36) (stp (v:=(vi aB)) (wy 14 hg36) (xl (Tryz.isAgg3 _) (hb.c 0 1 gZ)) (q1 (vb (aB == 0)) (wy 14 hg36) (q2 (vb (aB == 0)) (xF hg36) (wpL_nil ?_))))
 exact ⟨false,_,hg36,hs,hb,hm⟩
 rintro ρ w26 ⟨H19,hs,hb,hH⟩
 refine norm_has hH ?_
 refine th_n (er (rs1 Tryz.results222 (v:=(vb (((((((s_C aA) || (aB == 0)) && (((aA == 8) || (aA == 9)) || (aC == 0))) && ((aA == 2) || (aE == 0))) && ((aA == 3) || (decide (aD=⟨#[]⟩)))) && ((decide ((s_B aA)≥1)) || (aF == 0))) && ((((s_B aA):Int) == 2) || (aG == 0))))) ?_))
 exact ⟨false,hc1,by kernel_rfl,(Ext.refl (F:=None) _).hst hs⟩
theorem p_A1 (aA aB:Int) (aC aE:Int) (aD:ByteArray) (aF aG:Int) (w0:World):Calls Tryz.prog 222 #[(.agg #[(.int .i64 aA),(.int .i64 aB),(.int .i64 aC),(.int .u64 aE),(.string aD),(.int .i64 aF),(.int .i64 aG)])] w0 (fun e w'=>e=.returned (.bool (s_A1 aA aB aC aE aD aF aG))∧Pure w0 w'):=by
 refine (pw_A1 aA aB aC aE aD aF aG w0).mono ?_
 rintro e w' ⟨b'0,e0,h,E⟩
 subst e0
 exact ⟨h,E⟩
def s_E2 (n1:Int):Bool :=
 ((decide (n1≥0)) && (decide (n1<16)))
theorem pw_E2 (n1 : Int) (w0 : World) :
  Calls Tryz.prog 224 #[(vi n1)] w0 (fun e w'=>(e=.returned (vb ((decide (n1≥0)) && (decide (n1<16)))))∧Pure w0 w'):=by
 refine cw (args:=[(vi n1)]) Tryz.func224 Tryz.ntmps224 (eg (q0 (vb false) (ln (wpE_seq ?_))))
 refine wpE_via (fun ρ wJ=>w0=wJ∧Has ρ [(2,(vb ((decide (n1≥0)) && (decide (n1<16)))))]) ?_ ?_
 refine rg (q0 (vi n1) (q0 (vb (decide (n1≥0))) (q0 (vb (decide (n1≥0))) ?_)))
 refine wpL_join 3 (fun ρ wJ=>∃b3'0:Bool,((decide (n1≥0))=b3'0)∧w0=wJ∧Has ρ [(8,(vb (b3'0 && (decide (n1<16)))))]) ?_ ?_
 rintro ρ w3 ⟨b3'0,he0,hw,hH⟩
 subst he0
 subst hw
 refine wpL_has hH ?_
 refine q0 (vb ((decide (n1≥0)) && (decide (n1<16)))) (ln ?_)
 exact ⟨rfl,hm⟩
 rcases Bool.eq_false_or_eq_true (decide (n1≥0)) with hg4 | hg4
 refine q1 (vi n1) (wy 5 hg4) (q1 (vb (decide (n1<16))) (wy 5 hg4) (q2 (vb (decide (n1<16))) (xT hg4) (wpL_nil ?_)))
 exact ⟨true,hg4,rfl,hm⟩
 refine sk (yD 5 hg4) (sk (yD 5 hg4) (q2 (vb false) (xF hg4) (wpL_nil ?_)))
 exact ⟨false,hg4,rfl,hm⟩
 rintro ρ w2 ⟨hw,hH⟩
 subst hw
 refine norm_has hH ?_
 refine th_n (er (rs1 Tryz.results224 (v:=(vb ((decide (n1≥0)) && (decide (n1<16))))) ?_))
 exact ⟨by kernel_rfl,Ext.refl _⟩
theorem p_E2 (n1:Int) (w0:World):Calls Tryz.prog 224 #[(.int .i64 n1)] w0 (fun e w'=>e=.returned (.bool (s_E2 n1))∧Pure w0 w'):=pw_E2 n1 w0
def s_G (aA aB:Int) (aC aE:Int) (aD:ByteArray) (aF aG:Int):Int :=
 (cond (!(s_A1 aA aB aC aE aD aF aG)) 53 (cond (((s_C aA) && (!((decide (aB≥0)) && (decide (aB<16))))) || (((aA == 8) || (aA == 9)) && ((!((decide (aC≥0)) && (decide (aC<16)))) || (aB == aC)))) 50 (cond (decide ((aD.size:Int)>64)) 1 0)))
theorem pw_G (aA aB : Int) (aC aE : Int) (aD : ByteArray) (aF aG : Int) (w0 : World) :
  Calls Tryz.prog 176 #[(.agg #[(vi aA),(vi aB),(vi aC),(vu aE),(vs aD),(vi aF),(vi aG)])] w0 (fun e w'=>∃b'0 b'1 b'2:Bool,((!(s_A1 aA aB aC aE aD aF aG))=b'0∧(((s_C aA) && (!((decide (aB≥0)) && (decide (aB<16))))) || (((aA == 8) || (aA == 9)) && ((!((decide (aC≥0)) && (decide (aC<16)))) || (aB == aC))))=b'1∧(decide ((aD.size:Int)>64))=b'2)∧(e=.returned (vi (cond b'0 53 (cond b'1 50 (cond b'2 1 0)))))∧Pure w0 w'):=by
 refine cw (args:=[(.agg #[(vi aA),(vi aB),(vi aC),(vu aE),(vs aD),(vi aF),(vi aG)])]) Tryz.func176 Tryz.ntmps176 ?_
 have hs:=Hst.start w0
 have hb:=HB.nil None w0
 refine eg (sn (O:=(.cells #[(vi aA),(vi aB),(vi aC),(vu aE),(vs aD),(vi aF),(vi aG)] 176)) xb ?_)
 intro p1 w1 hn1
 obtain ⟨H1,hs,hb⟩:=hs.alloc hb hn1
 refine q0 (vi 0) (ln (wpE_seq (eg (q2 (.agg #[(vi aA),(vi aB),(vi aC),(vu aE),(vs aD),(vi aF),(vi aG)]) (xa p1 [(vi aA),(vi aB),(vi aC),(vu aE),(vs aD),(vi aF),(vi aG)] (Tryz.isAgg176 _) (Tryz.sizeOf176 _) (hb.r0 0 7 gZ)) ?_))))
 refine sc Tryz.call222 ((p_A1 aA aB aC aE aD aF aG w1).mono ?_)
 rintro e w2 ⟨he,hE⟩
 refine ⟨(vb (s_A1 aA aB aC aE aD aF aG)),he.trans (by kernel_rfl),?_⟩
 have hs:=hs.pure hE
 have hb:=hb.pure hE
 refine q0 (vb (!(s_A1 aA aB aC aE aD aF aG))) (ln ?_)
 refine wpE_cond (t:=(!(s_A1 aA aB aC aE aD aF aG))) (by kernel_rfl) (fun hc1=>?_) (fun hc1=>?_)
 refine eg (q0 (vi 53) (ln (er (th_r (rs1 Tryz.results176 (v:=(vi 53)) ?_)))))
 exact ⟨true,_,_,⟨hc1,rfl,rfl⟩,by kernel_rfl,(Ext.refl (F:=None) _).hst hs⟩
 refine wpE_skip (th_n (wpE_seq (wpE_seq ?_)))
 refine wpE_via (fun ρ wJ=>∃b5'0:Bool,∃HJ:NP,(((s_C aA) && (!((decide (aB≥0)) && (decide (aB<16)))))=b5'0)∧Hst w0 None w0 HJ wJ∧HB HJ wJ [(p1,[(vi aA),(vi aB),(vi aC),(vu aE),(vs aD),(vi aF),(vi aG)],176)]∧Has ρ [(1,(vp (some p1))),(32,(vb (b5'0 || (((aA == 8) || (aA == 9)) && ((!((decide (aC≥0)) && (decide (aC<16)))) || (aB == aC))))))]) ?_ ?_
 refine rg (q0 (vp (some p1)) (q2 (vi aA) (xl (Tryz.isAgg3 _) (hb.c0 0 gZ)) ?_))
 refine sc Tryz.call223 ((p_C aA w2).mono ?_)
 rintro e w14 ⟨he,hE⟩
 refine ⟨(vb (s_C aA)),he.trans (by kernel_rfl),?_⟩
 have hs:=hs.pure hE
 have hb:=hb.pure hE
 refine q0 (vb (s_C aA)) ?_
 refine wpL_join 5 (fun ρ wJ=>∃b6'0:Bool,∃HJ:NP,((s_C aA)=b6'0)∧Hst w0 None w0 HJ wJ∧HB HJ wJ [(p1,[(vi aA),(vi aB),(vi aC),(vu aE),(vs aD),(vi aF),(vi aG)],176)]∧Has ρ [(1,(vp (some p1))),(14,(vb (b6'0 && (!((decide (aB≥0)) && (decide (aB<16)))))))]) ?_ ?_
 rintro ρ w16 ⟨b6'0,H7,he0,hs,hb,hH⟩
 subst he0
 refine wpL_has hH ?_
 refine q0 (vb ((s_C aA) && (!((decide (aB≥0)) && (decide (aB<16)))))) ?_
 rcases Bool.eq_false_or_eq_true ((s_C aA) && (!((decide (aB≥0)) && (decide (aB<16))))) with hg12 | hg12
 refine sk (yD 15 hg12) (sk (yD 15 hg12) (sk (yD 15 hg12) (sk (yD 15 hg12) (sm (sm (sm (sm (sm (sm (sm (sm ?_)))))))))))
 refine sm (sm (sm (sk (yD 15 hg12) (q2 (vb true) (xT hg12) (ln ?_)))))
 exact ⟨true,_,hg12,hs,hb,hm⟩
 refine q1 (vp (some p1)) (wy 15 hg12) (stp (v:=(vi aA)) (wy 15 hg12) (xl (Tryz.isAgg3 _) (hb.c0 0 gZ)) ?_)
 refine st_call (wy 15 hg12) (xc Tryz.call225) ((p_U1 aA w16).mono ?_)
 rintro e w18 ⟨he,hE⟩
 refine ⟨(vb ((aA == 8) || (aA == 9))),he.trans (by kernel_rfl),?_⟩
 have hs:=hs.pure hE
 have hb:=hb.pure hE
 refine q1 (vb ((aA == 8) || (aA == 9))) (wy 15 hg12) ?_
 refine wpL_join 12 (fun ρ wJ=>∃b8'0:Bool,∃HJ:NP,(((aA == 8) || (aA == 9))=b8'0)∧Hst w0 None w0 HJ wJ∧HB HJ wJ [(p1,[(vi aA),(vi aB),(vi aC),(vu aE),(vs aD),(vi aF),(vi aG)],176)]∧Has ρ [(1,(vp (some p1))),(15,(vb ((s_C aA) && (!((decide (aB≥0)) && (decide (aB<16))))))),(31,(vb (b8'0 && ((!((decide (aC≥0)) && (decide (aC<16)))) || (aB == aC)))))]) ?_ ?_
 rintro ρ w21 ⟨b8'0,H9,he0,hs,hb,hH⟩
 subst he0
 refine wpL_has hH ?_
 refine q2 (vb (((aA == 8) || (aA == 9)) && ((!((decide (aC≥0)) && (decide (aC<16)))) || (aB == aC)))) (xF hg12) (ln ?_)
 exact ⟨false,_,hg12,hs,hb,hm⟩
 rcases Bool.eq_false_or_eq_true ((aA == 8) || (aA == 9)) with hg16 | hg16
 refine q1 (vp (some (p1.add 2))) (wy 19 hg16) (stp (v:=(vi aC)) (wy 19 hg16) (xl (Tryz.isAgg3 _) (hb.c 0 2 gZ)) ?_)
 refine st_call (wy 19 hg16) (xc Tryz.call224) ((p_E2 aC w18).mono ?_)
 rintro e w22 ⟨he,hE⟩
 refine ⟨(vb ((decide (aC≥0)) && (decide (aC<16)))),he.trans (by kernel_rfl),?_⟩
 have hs:=hs.pure hE
 have hb:=hb.pure hE
 refine q1 (vb (!((decide (aC≥0)) && (decide (aC<16))))) (wy 19 hg16) (q1 (vb (!((decide (aC≥0)) && (decide (aC<16))))) (wy 19 hg16) ?_)
 refine wpL_join 6 (fun ρ wJ=>∃b9'0:Bool,∃HJ:NP,((!((decide (aC≥0)) && (decide (aC<16))))=b9'0)∧Hst w0 None w0 HJ wJ∧HB HJ wJ [(p1,[(vi aA),(vi aB),(vi aC),(vu aE),(vs aD),(vi aF),(vi aG)],176)]∧Has ρ [(1,(vp (some p1))),(15,(vb ((s_C aA) && (!((decide (aB≥0)) && (decide (aB<16))))))),(19,(vb ((aA == 8) || (aA == 9)))),(30,(vb (b9'0 || (aB == aC))))]) ?_ ?_
 rintro ρ w23 ⟨b9'0,H10,he0,hs,hb,hH⟩
 subst he0
 refine wpL_has hH ?_
 refine stp (v:=(vb ((!((decide (aC≥0)) && (decide (aC<16)))) || (aB == aC)))) (wy 15 hg12) (xT hg16) (wpL_nil ?_)
 exact ⟨true,_,hg16,hs,hb,hm⟩
 rcases Bool.eq_false_or_eq_true (!((decide (aC≥0)) && (decide (aC<16)))) with hg18 | hg18
 refine sk (yD 24 hg18) (sk (yD 24 hg18) (sk (yD 24 hg18) (sk (yD 24 hg18) (sk (yD 24 hg18) (stp (v:=(vb true)) (wy 19 hg16) (xT hg18) (wpL_nil ?_))))))
 exact ⟨true,_,hg18,hs,hb,hm⟩
 refine q1 (vp (some (p1.add 1))) (wy 24 hg18) (stp (v:=(vi aB)) (wy 24 hg18) (xl (Tryz.isAgg3 _) (hb.c 0 1 gZ)) (q1 (vp (some (p1.add 2))) (wy 24 hg18) (stp (v:=(vi aC)) (wy 24 hg18) (xl (Tryz.isAgg3 _) (hb.c 0 2 gZ)) (q1 (vb (aB == aC)) (wy 24 hg18) (stp (v:=(vb (aB == aC))) (wy 19 hg16) (xF hg18) (wpL_nil ?_))))))
 exact ⟨false,_,hg18,hs,hb,hm⟩
 refine sk (yD 19 hg16) (sk (yD 19 hg16) (sk (yD 19 hg16) (sk (yD 19 hg16) (sk (yD 19 hg16) (sm (sm (sm (sm (sm (sk (yD 19 hg16) (stp (v:=(vb false)) (wy 15 hg12) (xF hg16) ?_)))))))))))
 refine wpL_nil ?_
 exact ⟨false,_,hg16,hs,hb,hm⟩
 rcases Bool.eq_false_or_eq_true (s_C aA) with hg11 | hg11
 refine q1 (vp (some (p1.add 1))) (wy 9 hg11) (stp (v:=(vi aB)) (wy 9 hg11) (xl (Tryz.isAgg3 _) (hb.c 0 1 gZ)) ?_)
 refine st_call (wy 9 hg11) (xc Tryz.call224) ((p_E2 aB w14).mono ?_)
 rintro e w17 ⟨he,hE⟩
 refine ⟨(vb ((decide (aB≥0)) && (decide (aB<16)))),he.trans (by kernel_rfl),?_⟩
 have hs:=hs.pure hE
 have hb:=hb.pure hE
 refine q1 (vb (!((decide (aB≥0)) && (decide (aB<16))))) (wy 9 hg11) (q2 (vb (!((decide (aB≥0)) && (decide (aB<16))))) (xT hg11) (wpL_nil ?_))
 exact ⟨true,_,hg11,hs,hb,hm⟩
 refine sk (yD 9 hg11) (sk (yD 9 hg11) (sk (yD 9 hg11) (sk (yD 9 hg11) (q2 (vb false) (xF hg11) (wpL_nil ?_)))))
 exact ⟨false,_,hg11,hs,hb,hm⟩
 rintro ρ w13 ⟨b5'0,H6,he0,hs,hb,hH⟩
 subst he0
 refine norm_has hH ?_
 refine th_n ?_
 refine wpE_cond (t:=(((s_C aA) && (!((decide (aB≥0)) && (decide (aB<16))))) || (((aA == 8) || (aA == 9)) && ((!((decide (aC≥0)) && (decide (aC<16)))) || (aB == aC))))) (by kernel_rfl) (fun hc2=>?_) (fun hc2=>?_)
 refine eg (q0 (vi 50) (ln (er (th_r (rs1 Tryz.results176 (v:=(vi 50)) ?_)))))
 exact ⟨false,true,_,⟨hc1,hc2,rfl⟩,by kernel_rfl,(Ext.refl (F:=None) _).hst hs⟩
 refine wpE_skip (th_n (wpE_seq (eg (q0 (vp (some (p1.add 4))) (q2 (vs aD) (xl (Tryz.isAgg9 _) (hb.c 0 4 gZ)) (q0 (vi (aD.size:Int)) (q0 (vb (decide ((aD.size:Int)>64))) (ln ?_))))))))
 refine wpE_cond (t:=(decide ((aD.size:Int)>64))) (by kernel_rfl) (fun hc3=>?_) (fun hc3=>?_)
 refine eg (q0 (vi 1) (ln (er (th_r (rs1 Tryz.results176 (v:=(vi 1)) ?_)))))
 exact ⟨false,false,true,⟨hc1,hc2,hc3⟩,by kernel_rfl,(Ext.refl (F:=None) _).hst hs⟩
 refine wpE_skip (th_n (eg (q0 (vi 0) (ln (er (rs1 Tryz.results176 (v:=(vi 0)) ?_))))))
 exact ⟨false,false,false,⟨hc1,hc2,hc3⟩,by kernel_rfl,(Ext.refl (F:=None) _).hst hs⟩
theorem p_G (aA aB:Int) (aC aE:Int) (aD:ByteArray) (aF aG:Int) (w0:World):Calls Tryz.prog 176 #[(.agg #[(.int .i64 aA),(.int .i64 aB),(.int .i64 aC),(.int .u64 aE),(.string aD),(.int .i64 aF),(.int .i64 aG)])] w0 (fun e w'=>e=.returned (.int .i64 (s_G aA aB aC aE aD aF aG))∧Pure w0 w'):=by
 refine (pw_G aA aB aC aE aD aF aG w0).mono ?_
 rintro e w' ⟨b'0,b'1,b'2,⟨e0,e1,e2⟩,h,E⟩
 subst e0
 subst e1
 subst e2
 exact ⟨h,E⟩
def m_R_l2 (aH:Sl) (deep1:Int) (seen1:Option Addr) (e1 i1:Int) (w0:World) (Hl1:NP) (wl1:World) (Kc2:Int→Int→NP→WP) (K:Int→WP):Prop :=
 Br ((e1 == 0) && (decide (i1<(aH.len:Int))))
  (∃a3:Addr,At aH i1 6 a3 ∧
  ∀(H4:NP) (w11:World),Hst w0 Hl1 wl1 H4 w11 →
  ∃aN aO:Int,∃aP aQ:Int,∃aR:ByteArray,∃bC:Sl,Row w11 a3 [(vi aN),(vi aO),(vi aP),(vu aQ),(vs aR),bC.v] ∧
  Calls Tryz.prog 203 #[(.agg #[(vi aN),(vi aO),(vi aP),(vu aQ),(vs aR),bC.v]),(vi (q6.wrap (deep1+1))),(vp seen1)] w11 (fun e w12=>∃r1:Int,e=.returned (vi r1)∧
   Kept H4 w11 w12 ∧
   Kc2 r1 (q6.wrap (i1+1)) H4 w12))
  (∀(H4:NP) (w11:World),Hst w0 Hl1 wl1 H4 w11 →
  K e1 w11)
def m_R_j1 (aI aJ:Int) (aK aL:Int) (aM:ByteArray) (aH:Sl) (deep1:Int) (seen1:Option Addr) (x1:Bool) (w0:World) (H:NP) (w:World) (K:Int→WP):Prop :=
 Br x1
  (K 52 w)
  (∃a1:Addr,seen1=some a1 ∧
  ∃v1:Int,w.cell? a1=some (vi v1) ∧
  ∃a2:Addr,seen1=some a2 ∧
  CanW w a2∧¬ H a2.block∧∀w2:World,w2=w.setCell a2 (vi (q6.wrap (v1+1))) →
  ∀y1:Bool,y1=((((s_G aI aJ aK aL aM 0 0):Int) != 53) && (((aH.len:Int):Int) != (s_B aI))) →
  ∀(H3:NP) (w10:World),Hst w0 H w2 H3 w10 →
  ∃(I1:Int→Int→NP→WP) (mu1:Int→Int→World→Nat),I1 (cond y1 53 (s_G aI aJ aK aL aM 0 0)) 0 H3 w10 ∧
   ∀(e1 i1:Int) (Hl1:NP) (wl1:World),Hst w0 Hl1 wl1 Hl1 wl1→I1 e1 i1 Hl1 wl1→m_R_l2 aH deep1 seen1 e1 i1 w0 Hl1 wl1 (fun y'0 y'1 H' w'=>I1 y'0 y'1 H' w'∧mu1 y'0 y'1 w'<mu1 e1 i1 wl1) K)
def m_R (aI aJ:Int) (aK aL:Int) (aM:ByteArray) (aH:Sl) (deep1:Int) (seen1:Option Addr) (w0:World) (K:Int→WP):Prop :=
 ∃a4:Addr,seen1=some a4 ∧
 ∀(H1:NP) (w1:World),Hst w0 None w0 H1 w1 →
 ∃v2:Int,w1.cell? a4=some (vi v2) ∧
 ∀(H5:NP) (w13:World),Hst w0 H1 w1 H5 w13 →
 m_R_j1 aI aJ aK aL aM aH deep1 seen1 ((decide (v2≥4096)) || (decide (deep1≥64))) w0 H5 w13 K
theorem w_R (aI aJ : Int) (aK aL : Int) (aM : ByteArray) (aH : Sl) (deep1 : Int) (seen1 : Option Addr) (w0 : World) (K : Int → WP) (h : m_R aI aJ aK aL aM aH deep1 seen1 w0 K) :
  Calls Tryz.prog 203 #[(.agg #[(vi aI),(vi aJ),(vi aK),(vu aL),(vs aM),aH.v]),(vi deep1),(vp seen1)] w0 (fun e w'=>∃r2:Int,e=.returned (vi r2)∧K r2 w'):=by
 unfold m_R at h
 refine cw (args:=[(.agg #[(vi aI),(vi aJ),(vi aK),(vu aL),(vs aM),aH.v]),(vi deep1),(vp seen1)]) Tryz.func203 Tryz.ntmps203 ?_
 have hs:=Hst.start w0
 have hb:=HB.nil None w0
 refine eg (sn (O:=(.cells #[(vi aI),(vi aJ),(vi aK),(vu aL),(vs aM),aH.v] 107)) xb ?_)
 intro p1 w1 hn1
 obtain ⟨H1,hs,hb⟩:=hs.alloc hb hn1
 refine q0 (vi 0) (ln (wpE_seq (wpE_seq ?_)))
 refine wpE_joinT (fun ρ w=>∃x1:Bool,∃H:NP,Has ρ [(1,(vi deep1)),(2,(vp seen1)),(3,(vp (some p1))),(16,(vb x1))]∧Hst w0 H w H w∧HB H w [(p1,[(vi aI),(vi aJ),(vi aK),(vu aL),(vs aM),aH.v],107)]∧m_R_j1 aI aJ aK aL aM aH deep1 seen1 x1 w0 H w K) ?_ ?_
 rintro ρ w ⟨x1,H,hH,hs,hb,h⟩
 unfold m_R_j1 at h
 refine wpE_has hH ?_
 refine wpE_cond (t:=x1) (by kernel_rfl) (fun hc1=>?_) (fun hc1=>?_)
 have h:=h.1 hc1
 refine eg (q0 (vi 52) (ln (er (th_r (rs1 Tryz.results203 (v:=(vi 52)) ?_)))))
 exact ⟨52,rfl,h⟩
 have h:=h.2 hc1
 refine wpE_skip (th_n (eg (q0 (vp seen1) (q0 (vp seen1) ?_))))
 obtain ⟨a1,hp1,h⟩:=h
 refine q2 (vp (some a1)) (x_nilCheck (p:=seen1) (by kernel_rfl) hp1) ?_
 obtain ⟨v1,hv3,h⟩:=h
 refine q2 (vi v1) (xl (Tryz.isAgg3 _) hv3) (q0 (vi (q6.wrap (v1+1))) ?_)
 obtain ⟨a2,hp2,h⟩:=h
 refine q2 (vp (some a2)) (x_nilCheck (p:=seen1) (by kernel_rfl) hp2) ?_
 obtain ⟨hp3,hnh,h⟩:=h
 refine st_set (want0 rfl) (x_store (a:=a2) (v:=(vi (q6.wrap (v1+1)))) (by kernel_rfl) (by kernel_rfl) rfl (Tryz.sizeOf3 _) hp3) ?_
 intro w2 hn2
 have h:=h w2 hn2
 have hk:=Kept.sc hnh hn2
 obtain ⟨hs,hb⟩:=hk.hh hs hb
 refine ln (eg (q2 (.agg #[(vi aI),(vi aJ),(vi aK),(vu aL),(vs aM),aH.v]) (xa p1 [(vi aI),(vi aJ),(vi aK),(vu aL),(vs aM),aH.v] (Tryz.isAgg107 _) (Tryz.sizeOf107 _) (hb.r0 0 6 gZ)) ?_))
 refine sc Tryz.call204 ((p_Z aI aJ aK aL aM aH w2).mono ?_)
 rintro e w3 ⟨he,hE⟩
 refine ⟨(.agg #[(vi aI),(vi aJ),(vi aK),(vu aL),(vs aM),(vi 0),(vi 0)]),he.trans (by kernel_rfl),?_⟩
 have hs:=hs.pure hE
 have hb:=hb.pure hE
 refine sc Tryz.call176 ((p_G aI aJ aK aL aM 0 0 w3).mono ?_)
 rintro e w4 ⟨he,hE⟩
 refine ⟨(vi (s_G aI aJ aK aL aM 0 0)),he.trans (by kernel_rfl),?_⟩
 have hs:=hs.pure hE
 have hb:=hb.pure hE
 refine q0 (vi (s_G aI aJ aK aL aM 0 0)) (ln (wpE_seq (wpE_seq ?_)))
 refine wpE_via (fun ρ wJ=>∃b1'0 y1:Bool,∃HJ:NP,((((s_G aI aJ aK aL aM 0 0):Int) != 53)=b1'0)∧(y1=(b1'0 && (((aH.len:Int):Int) != (s_B aI))))∧Hst w0 H w2 HJ wJ∧HB HJ wJ [(p1,[(vi aI),(vi aJ),(vi aK),(vu aL),(vs aM),aH.v],107)]∧Has ρ [(1,(vi deep1)),(2,(vp seen1)),(3,(vp (some p1))),(7,(vi (s_G aI aJ aK aL aM 0 0))),(36,(vb y1))]) ?_ ?_
 refine wpE_drawnC (fun x=>∃H',Hst w0 H w2 H' x∧HB H' x [(p1,[(vi aI),(vi aJ),(vi aK),(vu aL),(vs aM),aH.v],107)]) [8] [] (by kernel_rfl) (by kernel_rfl) (by kernel_rfl) (by kernel_rfl) ⟨_,hs.drew,hb.drew⟩ ?_
 intro w8 hw8
 have hs:Hst w0 H w2 H w8:=by rw [hw8];exact hs.drew
 have hb:HB H w8 [(p1,[(vi aI),(vi aJ),(vi aK),(vu aL),(vs aM),aH.v],107)]:=by rw [hw8];exact hb.drew
 refine qx 0 (vi (s_G aI aJ aK aL aM 0 0)) Kp0 (qx 1 (vb (((s_G aI aJ aK aL aM 0 0):Int) != 53)) Kp1 (qx 2 (vb (((s_G aI aJ aK aL aM 0 0):Int) != 53)) Kp2 (qg 3 ?_)))
 rcases Bool.eq_false_or_eq_true (((s_G aI aJ aK aL aM 0 0):Int) != 53) with hg2 | hg2
 refine sz (v:=(vp (some (p1.add 5)))) Kp3 (wy 28 hg2) (fun _ _=>(by kernel_rfl)) (qg 4 (sz (v:=aH.v) Kp4 (wy 28 hg2) (fun w' hw'=>(by obtain ⟨H',hs',hb'⟩:=hw';exact (xl (Tryz.isAgg66 _) (hb'.cell 0 5 gZ (by kernel_rfl))))) (qw 5 (vi (aH.len:Int)) Kp5 (wy 28 hg2) (qw 6 (vp (some p1)) Kp6 (wy 28 hg2) (qg 7 (sz (v:=(vi aI)) Kp7 (wy 28 hg2) (fun w' hw'=>(by obtain ⟨H',hs',hb'⟩:=hw';exact (xl (Tryz.isAgg3 _) (hb'.cell0 0 gZ (by kernel_rfl))))) (lg 8 ?_)))))))
 refine sl_call Kp8 (wy 28 hg2) (by kernel_rfl) (xc Tryz.call105) ((p_B aI w8).mono ?_)
 rintro e w9 ⟨he,hE⟩
 have hs:=hs.pure hE
 have hb:=hb.pure hE
 refine ⟨(vi (s_B aI)),he.trans (by kernel_rfl),.inr ⟨_,hs,hb⟩,?_⟩
 refine qw 9 (vb (((aH.len:Int):Int) != (s_B aI))) Kp9 (wy 28 hg2) (qz 10 (vb (((aH.len:Int):Int) != (s_B aI))) (pickA (S8 (pickS (pickS pickZ)))) (fun _ _=>(xT hg2)) (wn (th_n ?_)))
 exact ⟨true,_,_,hg2,rfl,hs,hb,hm⟩
 refine sx_not Kp3 (unwant rfl (yD 28 hg2) rfl) (qn 4 Kp4 (unwant rfl (yD 28 hg2) rfl) (qn 5 Kp5 (unwant rfl (yD 28 hg2) rfl) (qn 6 Kp6 (unwant rfl (yD 28 hg2) rfl) (qn 7 Kp7 (unwant rfl (yD 28 hg2) rfl) (lg 8 (sx_not Kp8 (unwant rfl (yD 28 hg2) rfl) (qn 9 Kp9 (unwant rfl (yD 28 hg2) rfl) (qz 10 (vb false) (pickA (S8 (pickS (pickS pickZ)))) (fun _ _=>(xF hg2)) (wn (th_n ?_))))))))))
 exact ⟨false,_,_,hg2,rfl,hs,hb,hm⟩
 rintro ρ w7 ⟨b1'0,y1,H2,he0,hy1,hs,hb,hH⟩
 subst he0
 have h:=h y1 hy1
 refine norm_has hH ?_
 refine th_n ?_
 refine wpE_via (fun ρ wJ=>∃b2'0:Bool,∃HJ:NP,(y1=b2'0)∧Hst w0 H w2 HJ wJ∧HB HJ wJ [(p1,[(vi aI),(vi aJ),(vi aK),(vu aL),(vs aM),aH.v],107)]∧Has ρ [(1,(vi deep1)),(2,(vp seen1)),(3,(vp (some p1))),(7,(vi (cond b2'0 53 (s_G aI aJ aK aL aM 0 0))))]) ?_ ?_
 refine wpE_cond (t:=y1) (by kernel_rfl) (fun hc3=>?_) (fun hc3=>?_)
 refine rg (q0 (vi 53) (ln ?_))
 exact ⟨true,_,hc3,hs,hb,hm⟩
 refine wpE_skip (th_n ?_)
 exact ⟨false,_,hc3,hs,hb,hm⟩
 rintro ρ w10 ⟨b2'0,H3,he0,hs,hb,hH⟩
 subst he0
 refine norm_has hH ?_
 refine th_n (wpE_seq (eg (q0 (vi 0) (ln (wpE_block ?_)))))
 have h:=h H3 w10 hs
 have hs:=hs.here
 obtain ⟨I1,mu1,h0,hr⟩:=h
 refine wpE_loop (σ:=Int×Int×NP×World) (fun s ρ w=>w=s.2.2.2∧Has ρ [(1,(vi deep1)),(2,(vp seen1)),(3,(vp (some p1))),(7,(vi s.1)),(8,(vi s.2.1))]∧Hst w0 s.2.2.1 w s.2.2.1 w∧HB s.2.2.1 w [(p1,[(vi aI),(vi aJ),(vi aK),(vu aL),(vs aM),aH.v],107)]∧I1 s.1 s.2.1 s.2.2.1 s.2.2.2) (fun s=>mu1 s.1 s.2.1 s.2.2.2) ((cond y1 53 (s_G aI aJ aK aL aM 0 0)),0,H3,w10) ⟨rfl,hm,hs,hb,h0⟩ ?_
 rintro ⟨e1,i1,Hl1,wl1⟩ ρ w ⟨hw,hH,hs,hb,hI⟩
 obtain rfl:wl1=w:=(show w=wl1 from hw).symm
 have hH:Has ρ [(1,(vi deep1)),(2,(vp seen1)),(3,(vp (some p1))),(7,(vi e1)),(8,(vi i1))]:=hH
 have hs:Hst w0 Hl1 wl1 Hl1 wl1:=hs
 have hb:HB Hl1 wl1 [(p1,[(vi aI),(vi aJ),(vi aK),(vu aL),(vs aM),aH.v],107)]:=hb
 have h:=hr e1 i1 Hl1 wl1 hs hI
 unfold m_R_l2 at h
 refine wpE_has hH ?_
 refine wpE_seq (wpE_seq ?_)
 refine wpE_via (fun ρ wJ=>∃b3'0:Bool,∃HJ:NP,((e1 == 0)=b3'0)∧Hst w0 Hl1 wl1 HJ wJ∧HB HJ wJ [(p1,[(vi aI),(vi aJ),(vi aK),(vu aL),(vs aM),aH.v],107)]∧Has ρ [(1,(vi deep1)),(2,(vp seen1)),(3,(vp (some p1))),(7,(vi e1)),(8,(vi i1)),(45,(vb (b3'0 && (decide (i1<(aH.len:Int))))))]) ?_ ?_
 refine rg (q0 (vi e1) (q0 (vb (e1 == 0)) (q0 (vb (e1 == 0)) ?_)))
 rcases Bool.eq_false_or_eq_true (e1 == 0) with hg4 | hg4
 refine q1 (vi i1) (wy 39 hg4) (q1 (vp (some (p1.add 5))) (wy 39 hg4) (stp (v:=aH.v) (wy 39 hg4) (xl (Tryz.isAgg66 _) (hb.c 0 5 gZ)) (q1 (vi (aH.len:Int)) (wy 39 hg4) (q1 (vb (decide (i1<(aH.len:Int)))) (wy 39 hg4) (q2 (vb (decide (i1<(aH.len:Int)))) (xT hg4) (ln ?_))))))
 exact ⟨true,_,hg4,hs,hb,hm⟩
 refine sk (yD 39 hg4) (sk (yD 39 hg4) (sk (yD 39 hg4) (sk (yD 39 hg4) (sk (yD 39 hg4) (q2 (vb false) (xF hg4) (ln ?_))))))
 exact ⟨false,_,hg4,hs,hb,hm⟩
 rintro ρ w11 ⟨b3'0,H4,he0,hs,hb,hH⟩
 subst he0
 refine norm_has hH ?_
 refine th_n ?_
 refine wpE_cond (t:=((e1 == 0) && (decide (i1<(aH.len:Int))))) (by kernel_rfl) (fun hc4=>?_) (fun hc4=>?_)
 have h:=h.1 hc4
 refine wpE_skip (th_n (wpE_seq (wpE_block (rg (q0 (vp (some (p1.add 5))) (q2 aH.v (xl (Tryz.isAgg66 _) (hb.c 0 5 gZ)) (q0 (vi i1) ?_)))))))
 obtain ⟨a3,hv2,h⟩:=h
 refine q2 (vp (some a3)) (xi (Tryz.runUnderlying66 _) (Tryz.sizeOf107 _) hv2) ?_
 have h:=h H4 w11 hs
 have hs:=hs.here
 obtain ⟨aN,aO,aP,aQ,aR,bC,hv1,h⟩:=h
 refine q2 (.agg #[(vi aN),(vi aO),(vi aP),(vu aQ),(vs aR),bC.v]) (xa a3 [(vi aN),(vi aO),(vi aP),(vu aQ),(vs aR),bC.v] (Tryz.isAgg107 _) (Tryz.sizeOf107 _) hv1) (q0 (vi deep1) (q0 (vi (q6.wrap (deep1+1))) (q0 (vp seen1) ?_)))
 refine sc Tryz.call203 (h.mono ?_)
 rintro e w12 ⟨r1,rfl,hk,h⟩
 refine ⟨_,rfl,?_⟩
 obtain ⟨hs,hb⟩:=hk.hh hs hb
 refine q0 (vi r1) (wpL_nil (bl_n (th_n (rg (q0 (vi i1) (q0 (vi (q6.wrap (i1+1))) (q0 (vi (q6.wrap (i1+1))) (ln ?_))))))))
 exact ⟨(r1,(q6.wrap (i1+1)),H4,w12),⟨rfl,hm,hs,hb,h.1⟩,h.2⟩
 have h:=h.2 hc4
 refine wpE_exit (th_x (th_x (bl_eq (th_n (eg (q0 (vi e1) (q0 (vi e1) (ln (er ?_)))))))))
 have h:=h H4 w11 hs
 have hs:=hs.here
 refine rs1 Tryz.results203 (v:=(vi e1)) ?_
 exact ⟨e1,rfl,h⟩
 refine rg (q0 (vp seen1) ?_)
 obtain ⟨a4,hp4,h⟩:=h
 refine q2 (vp (some a4)) (x_nilCheck (p:=seen1) (by kernel_rfl) hp4) ?_
 have h:=h H1 w1 hs
 have hs:=hs.here
 obtain ⟨v2,hv4,h⟩:=h
 refine q2 (vi v2) (xl (Tryz.isAgg3 _) hv4) (q0 (vb (decide (v2≥4096))) (q0 (vb (decide (v2≥4096))) ?_))
 refine wpL_join 3 (fun ρ wJ=>∃b4'0:Bool,∃HJ:NP,((decide (v2≥4096))=b4'0)∧Hst w0 H1 w1 HJ wJ∧HB HJ wJ [(p1,[(vi aI),(vi aJ),(vi aK),(vu aL),(vs aM),aH.v],107)]∧Has ρ [(1,(vi deep1)),(2,(vp seen1)),(3,(vp (some p1))),(16,(vb (b4'0 || (decide (deep1≥64)))))]) ?_ ?_
 rintro ρ w13 ⟨b4'0,H5,he0,hs,hb,hH⟩
 subst he0
 refine wpL_has hH ?_
 refine wpL_nil ?_
 have h:=h H5 w13 hs
 have hs:=hs.here
 refine th_n ?_
 exact ⟨((decide (v2≥4096)) || (decide (deep1≥64))),H5,hm,hs,hb,h⟩
 rcases Bool.eq_false_or_eq_true (decide (v2≥4096)) with hg6 | hg6
 refine sk (yD 13 hg6) (sk (yD 13 hg6) (q2 (vb true) (xT hg6) (wpL_nil ?_)))
 exact ⟨true,_,hg6,hs,hb,hm⟩
 refine q1 (vi deep1) (wy 13 hg6) (q1 (vb (decide (deep1≥64))) (wy 13 hg6) (q2 (vb (decide (deep1≥64))) (xF hg6) (wpL_nil ?_)))
 exact ⟨false,_,hg6,hs,hb,hm⟩
def m_Q3 (aI aJ:Int) (aK aL:Int) (aM:ByteArray) (aH:Sl) (w0:World) (K:Int→WP):Prop :=
 ∀(H1:NP) (w1:World),Hst w0 None w0 H1 w1 →
 ∀(p2:Addr) (w2:World),New w1 (.cells #[(vi 0)] 3) p2 w2 →
 CanW w2 p2∧¬ H1 p2.block∧∀w3:World,w3=w2.setCell p2 (vi 0) →
 Calls Tryz.prog 203 #[(.agg #[(vi aI),(vi aJ),(vi aK),(vu aL),(vs aM),aH.v]),(vi 0),(vp (some p2))] w3 (fun e w4=>∃r1:Int,e=.returned (vi r1)∧
  Kept H1 w3 w4 ∧
  K r1 w4)
theorem w_Q3 (aI aJ : Int) (aK aL : Int) (aM : ByteArray) (aH : Sl) (w0 : World) (K : Int → WP) (h : m_Q3 aI aJ aK aL aM aH w0 K) :
  Calls Tryz.prog 147 #[(.agg #[(vi aI),(vi aJ),(vi aK),(vu aL),(vs aM),aH.v])] w0 (fun e w'=>∃r2:Int,e=.returned (vi r2)∧K r2 w'):=by
 unfold m_Q3 at h
 refine cw (args:=[(.agg #[(vi aI),(vi aJ),(vi aK),(vu aL),(vs aM),aH.v])]) Tryz.func147 Tryz.ntmps147 ?_
 have hs:=Hst.start w0
 have hb:=HB.nil None w0
 refine eg (sn (O:=(.cells #[(vi aI),(vi aJ),(vi aK),(vu aL),(vs aM),aH.v] 107)) xb ?_)
 intro p1 w1 hn1
 obtain ⟨H1,hs,hb⟩:=hs.alloc hb hn1
 refine q0 (vi 0) (ln (eg ?_))
 have h:=h H1 w1 hs
 have hs:=hs.here
 refine sn (O:=(.cells #[(vi 0)] 3)) (x_alloc (Tryz.zeroValue3 _) rfl) ?_
 intro p2 w2 hn3
 have h:=h p2 w2 hn3
 have hs:=hs.again (Ext.new (F:=None) hn3).keptP
 have hb:=hb.kept (Ext.new (F:=None) hn3).keptP
 obtain ⟨hp1,hnh,h⟩:=h
 refine st_set (want0 rfl) (x_store (a:=p2) (v:=(vi 0)) (by kernel_rfl) (by kernel_rfl) rfl (Tryz.sizeOf3 _) hp1) ?_
 intro w3 hn2
 have h:=h w3 hn2
 have hk:=Kept.sc hnh hn2
 obtain ⟨hs,hb⟩:=hk.hh hs hb
 refine ln (eg (q2 (.agg #[(vi aI),(vi aJ),(vi aK),(vu aL),(vs aM),aH.v]) (xa p1 [(vi aI),(vi aJ),(vi aK),(vu aL),(vs aM),aH.v] (Tryz.isAgg107 _) (Tryz.sizeOf107 _) (hb.r0 0 6 gZ)) ?_))
 refine sc Tryz.call203 (h.mono ?_)
 rintro e w4 ⟨r1,rfl,hk,h⟩
 refine ⟨_,rfl,?_⟩
 obtain ⟨hs,hb⟩:=hk.hh hs hb
 refine q0 (vi r1) (ln (er (rs1 Tryz.results147 (v:=(vi r1)) ?_)))
 exact ⟨r1,rfl,h⟩
def m_R3 (p1:Option Addr) (t1:Int) (w0:World) (K:Int→WP):Prop :=
 Calls Tryz.prog 87 #[(vp p1),(vi t1)] w0 (fun e w1=>∃r1:Bool,e=.returned (vb r1)∧
  Br (!r1)
   (K 0 w1)
   (∃a1:Addr,p1=some a1 ∧
   ∃v1:Sl,w1.cell? (a1.add 1)=some v1.v ∧
   ∃a2:Addr,At v1 (q6.wrap (t1 - 1)) 1 a2 ∧
   ∃v2:Int,w1.cell? a2=some (vi v2) ∧
   K v2 w1))
theorem w_R3 (p1 : Option Addr) (t1 : Int) (w0 : World) (K : Int → WP) (h : m_R3 p1 t1 w0 K) :
  Calls Tryz.prog 97 #[(vp p1),(vi t1)] w0 (fun e w'=>∃r2:Int,e=.returned (vi r2)∧K r2 w'):=by
 unfold m_R3 at h
 refine cw (args:=[(vp p1),(vi t1)]) Tryz.func97 Tryz.ntmps97 (eg (q0 (vi 0) (ln (wpE_seq (eg (q0 (vp p1) (q0 (vi t1) ?_)))))))
 refine sc Tryz.call87 (h.mono ?_)
 rintro e w1 ⟨r1,rfl,h⟩
 refine ⟨_,rfl,?_⟩
 refine q0 (vb (!r1)) (ln ?_)
 refine wpE_cond (t:=(!r1)) (by kernel_rfl) (fun hc1=>?_) (fun hc1=>?_)
 have h:=h.1 hc1
 refine eg (q0 (vi 0) (ln (er (th_r (rs1 Tryz.results97 (v:=(vi 0)) ?_)))))
 exact ⟨0,rfl,h⟩
 have h:=h.2 hc1
 refine wpE_skip (th_n (eg (q0 (vp p1) ?_)))
 obtain ⟨a1,hp1,h⟩:=h
 refine q2 (vp (some a1)) (x_nilCheck (p:=p1) (by kernel_rfl) hp1) (q0 (vp (some (a1.add 1))) ?_)
 obtain ⟨v1,hv3,h⟩:=h
 refine q2 v1.v (xl (Tryz.isAgg42 _) hv3) (q0 (vi t1) (q0 (vi (q6.wrap (t1 - 1))) ?_))
 obtain ⟨a2,hv2,h⟩:=h
 refine q2 (vp (some a2)) (xi (Tryz.runUnderlying42 _) (Tryz.sizeOf3 _) hv2) ?_
 obtain ⟨v2,hv1,h⟩:=h
 refine q2 (vi v2) (xl (Tryz.isAgg3 _) hv1) (q0 (vi v2) (ln (er (rs1 Tryz.results97 (v:=(vi v2)) ?_))))
 exact ⟨v2,rfl,h⟩
def m_S3 (p1:Option Addr) (t1:Int) (w0:World) (K:Int→WP):Prop :=
 Calls Tryz.prog 87 #[(vp p1),(vi t1)] w0 (fun e w1=>∃r1:Bool,e=.returned (vb r1)∧
  Br (!r1)
   (K 0 w1)
   (∃a1:Addr,p1=some a1 ∧
   ∃v1:Sl,w1.cell? (a1.add 2)=some v1.v ∧
   ∃a2:Addr,At v1 (q6.wrap (t1 - 1)) 1 a2 ∧
   ∃v2:Int,w1.cell? a2=some (vi v2) ∧
   K v2 w1))
theorem w_S3 (p1 : Option Addr) (t1 : Int) (w0 : World) (K : Int → WP) (h : m_S3 p1 t1 w0 K) :
  Calls Tryz.prog 177 #[(vp p1),(vi t1)] w0 (fun e w'=>∃r2:Int,e=.returned (vi r2)∧K r2 w'):=by
 unfold m_S3 at h
 refine cw (args:=[(vp p1),(vi t1)]) Tryz.func177 Tryz.ntmps177 (eg (q0 (vi 0) (ln (wpE_seq (eg (q0 (vp p1) (q0 (vi t1) ?_)))))))
 refine sc Tryz.call87 (h.mono ?_)
 rintro e w1 ⟨r1,rfl,h⟩
 refine ⟨_,rfl,?_⟩
 refine q0 (vb (!r1)) (ln ?_)
 refine wpE_cond (t:=(!r1)) (by kernel_rfl) (fun hc1=>?_) (fun hc1=>?_)
 have h:=h.1 hc1
 refine eg (q0 (vi 0) (ln (er (th_r (rs1 Tryz.results177 (v:=(vi 0)) ?_)))))
 exact ⟨0,rfl,h⟩
 have h:=h.2 hc1
 refine wpE_skip (th_n (eg (q0 (vp p1) ?_)))
 obtain ⟨a1,hp1,h⟩:=h
 refine q2 (vp (some a1)) (x_nilCheck (p:=p1) (by kernel_rfl) hp1) (q0 (vp (some (a1.add 2))) ?_)
 obtain ⟨v1,hv3,h⟩:=h
 refine q2 v1.v (xl (Tryz.isAgg42 _) hv3) (q0 (vi t1) (q0 (vi (q6.wrap (t1 - 1))) ?_))
 obtain ⟨a2,hv2,h⟩:=h
 refine q2 (vp (some a2)) (xi (Tryz.runUnderlying42 _) (Tryz.sizeOf3 _) hv2) ?_
 obtain ⟨v2,hv1,h⟩:=h
 refine q2 (vi v2) (xl (Tryz.isAgg3 _) hv1) (q0 (vi v2) (ln (er (rs1 Tryz.results177 (v:=(vi v2)) ?_))))
 exact ⟨v2,rfl,h⟩
theorem eqt_ref05_Pool_Has_eql_176 (a0 a1:Int) (a2 a3:Int) (a4:ByteArray) (a5 a6:Int) (b0 b1:Int) (b2 b3:Int) (b4:ByteArray) (b5 b6:Int) (w:World):(Go.binOp .eql 176 (.agg #[(.int .i64 a0),(.int .i64 a1),(.int .i64 a2),(.int .u64 a3),(.string a4),(.int .i64 a5),(.int .i64 a6)]) (.agg #[(.int .i64 b0),(.int .i64 b1),(.int .i64 b2),(.int .u64 b3),(.string b4),(.int .i64 b5),(.int .i64 b6)])).run Tryz.prog w=.ok (.bool ((a0 == b0) && ((a1 == b1) && ((a2 == b2) && ((a3 == b3) && ((decide (a4=b4)) && ((a5 == b5) && (a6 == b6)))))))) w:=by
 simp [Go.binOp,Op.equal,Op.maxDepth,go_sem,streq,bne]
 repeat' split
 all_goals simp_all
def m_J1_l1 (p1:Option Addr) (aA aB:Int) (aC aE:Int) (aD:ByteArray) (aF aG i1:Int) (w0:World) (Hl1:NP) (wl1:World) (Kc1:Int→NP→WP) (K:Int→Bool→WP):Prop :=
 ∃a1:Addr,p1=some a1 ∧
 ∃v1:Sl,wl1.cell? a1=some v1.v ∧
 Br (decide (i1<(v1.len:Int)))
  (∃a2:Addr,p1=some a2 ∧
  ∀(w2:World),Hst w0 Hl1 wl1 Hl1 w2 →
  ∃v2:Sl,w2.cell? a2=some v2.v ∧
  ∃a3:Addr,At v2 i1 7 a3 ∧
  ∃aN aO:Int,∃aP aQ:Int,∃aR:ByteArray,∃bF bG:Int,Row w2 a3 [(vi aN),(vi aO),(vi aP),(vu aQ),(vs aR),(vi bF),(vi bG)] ∧
  Br ((aN == aA) && ((aO == aB) && ((aP == aC) && ((aQ == aE) && ((decide (aR=aD)) && ((bF == aF) && (bG == aG)))))))
   (K (q6.wrap (i1+1)) true w2)
   (Kc1 (q6.wrap (i1+1)) Hl1 w2))
  (K 0 false wl1)
def m_J1 (p1:Option Addr) (aA aB:Int) (aC aE:Int) (aD:ByteArray) (aF aG:Int) (w0:World) (K:Int→Bool→WP):Prop :=
 ∀(H1:NP) (w1:World),Hst w0 None w0 H1 w1 →
 ∃(I1:Int→NP→WP) (mu1:Int→World→Nat),I1 0 H1 w1 ∧
  ∀(i1:Int) (Hl1:NP) (wl1:World),Hst w0 Hl1 wl1 Hl1 wl1→I1 i1 Hl1 wl1→m_J1_l1 p1 aA aB aC aE aD aF aG i1 w0 Hl1 wl1 (fun y'0 H' w'=>I1 y'0 H' w'∧mu1 y'0 w'<mu1 i1 wl1) K
theorem w_J1 (p1 : Option Addr) (aA aB : Int) (aC aE : Int) (aD : ByteArray) (aF aG : Int) (w0 : World) (K : Int → Bool → WP) (h : m_J1 p1 aA aB aC aE aD aF aG w0 K) :
  Calls Tryz.prog 178 #[(vp p1),(.agg #[(vi aA),(vi aB),(vi aC),(vu aE),(vs aD),(vi aF),(vi aG)])] w0 (fun e w'=>∃r1:Int,∃r2:Bool,e=.returned (.tuple #[(vi r1),(vb r2)])∧K r1 r2 w'):=by
 unfold m_J1 at h
 refine cw (args:=[(vp p1),(.agg #[(vi aA),(vi aB),(vi aC),(vu aE),(vs aD),(vi aF),(vi aG)])]) Tryz.func178 Tryz.ntmps178 ?_
 have hs:=Hst.start w0
 have hb:=HB.nil None w0
 refine eg (sn (O:=(.cells #[(vi aA),(vi aB),(vi aC),(vu aE),(vs aD),(vi aF),(vi aG)] 176)) xb ?_)
 intro p2 w1 hn1
 obtain ⟨H1,hs,hb⟩:=hs.alloc hb hn1
 refine q0 (vi 0) (q0 (vb false) (ln (wpE_seq (eg (q0 (vi 0) (ln (wpE_block ?_)))))))
 have h:=h H1 w1 hs
 have hs:=hs.here
 obtain ⟨I1,mu1,h0,hr⟩:=h
 refine wpE_loop (σ:=Int×NP×World) (fun s ρ w=>w=s.2.2∧Has ρ [(0,(vp p1)),(3,(vp (some p2))),(6,(vi s.1))]∧Hst w0 s.2.1 w s.2.1 w∧HB s.2.1 w [(p2,[(vi aA),(vi aB),(vi aC),(vu aE),(vs aD),(vi aF),(vi aG)],176)]∧I1 s.1 s.2.1 s.2.2) (fun s=>mu1 s.1 s.2.2) (0,H1,w1) ⟨rfl,hm,hs,hb,h0⟩ ?_
 rintro ⟨i1,Hl1,wl1⟩ ρ w ⟨hw,hH,hs,hb,hI⟩
 obtain rfl:wl1=w:=(show w=wl1 from hw).symm
 have hH:Has ρ [(0,(vp p1)),(3,(vp (some p2))),(6,(vi i1))]:=hH
 have hs:Hst w0 Hl1 wl1 Hl1 wl1:=hs
 have hb:HB Hl1 wl1 [(p2,[(vi aA),(vi aB),(vi aC),(vu aE),(vs aD),(vi aF),(vi aG)],176)]:=hb
 have h:=hr i1 Hl1 wl1 hs hI
 unfold m_J1_l1 at h
 refine wpE_has hH ?_
 refine wpE_seq (eg (q0 (vi i1) (q0 (vp p1) ?_)))
 obtain ⟨a1,hp1,h⟩:=h
 refine q2 (vp (some a1)) (x_nilCheck (p:=p1) (by kernel_rfl) hp1) (q0 (vp (some a1)) ?_)
 obtain ⟨v1,hv4,h⟩:=h
 refine q2 v1.v (xl (Tryz.isAgg41 _) hv4) (q0 (vi (v1.len:Int)) (q0 (vb (decide (i1<(v1.len:Int)))) (ln ?_)))
 refine wpE_cond (t:=(decide (i1<(v1.len:Int)))) (by kernel_rfl) (fun hc1=>?_) (fun hc1=>?_)
 have h:=h.1 hc1
 refine wpE_skip (th_n (wpE_seq (wpE_block (wpE_seq (wpE_drawnQ (by kernel_rfl) (by kernel_rfl) (by kernel_rfl) (by kernel_rfl) ?_)))))
 intro w2 hw2
 have hs:Hst w0 Hl1 wl1 Hl1 w2:=by rw [hw2];exact hs.drew
 have hb:HB Hl1 w2 [(p2,[(vi aA),(vi aB),(vi aC),(vu aE),(vs aD),(vi aF),(vi aG)],176)]:=by rw [hw2];exact hb.drew
 refine qq 0 (vp p1) Kp0 (qg 1 ?_)
 obtain ⟨a2,hp2,h⟩:=h
 refine sxQ (v:=(vp (some a2))) Kp1 (want0 rfl) rfl (x_nilCheck (p:=p1) (by kernel_rfl) hp2) (qq 2 (vp (some a2)) Kp2 (qg 3 ?_))
 have h:=h w2 hs
 have hs:=hs.here
 obtain ⟨v2,hv3,h⟩:=h
 refine sxQ (v:=v2.v) Kp3 (want0 rfl) rfl (xl (Tryz.isAgg41 _) hv3) (qq 4 (vi i1) Kp4 (qg 5 ?_))
 obtain ⟨a3,hv2,h⟩:=h
 refine sxQ (v:=(vp (some a3))) Kp5 (want0 rfl) rfl (xi (Tryz.runUnderlying41 _) (Tryz.sizeOf176 _) hv2) (qg 6 ?_)
 obtain ⟨aN,aO,aP,aQ,aR,bF,bG,hv1,h⟩:=h
 refine sxQ (v:=(.agg #[(vi aN),(vi aO),(vi aP),(vu aQ),(vs aR),(vi bF),(vi bG)])) Kp6 (want0 rfl) rfl (xa a3 [(vi aN),(vi aO),(vi aP),(vu aQ),(vs aR),(vi bF),(vi bG)] (Tryz.isAgg176 _) (Tryz.sizeOf176 _) hv1) (qr 7 (.agg #[(vi aA),(vi aB),(vi aC),(vu aE),(vs aD),(vi aF),(vi aG)]) Kp7 (xa p2 [(vi aA),(vi aB),(vi aC),(vu aE),(vs aD),(vi aF),(vi aG)] (Tryz.isAgg176 _) (Tryz.sizeOf176 _) (hb.r0 0 7 gZ)) (qr 8 (vb ((aN == aA) && ((aO == aB) && ((aP == aC) && ((aQ == aE) && ((decide (aR=aD)) && ((bF == aF) && (bG == aG)))))))) Kp8 (x_aggeq (by kernel_rfl) (by kernel_rfl) (by kernel_rfl) (eqt_ref05_Pool_Has_eql_176 aN aO aP aQ aR bF bG aA aB aC aE aD aF aG _)) (wn (th_n ?_))))
 refine wpE_cond (t:=((aN == aA) && ((aO == aB) && ((aP == aC) && ((aQ == aE) && ((decide (aR=aD)) && ((bF == aF) && (bG == aG)))))))) (by kernel_rfl) (fun hc2=>?_) (fun hc2=>?_)
 have h:=h.1 hc2
 refine eg (q0 (vi i1) (q0 (vi (q6.wrap (i1+1))) (q0 (vi (q6.wrap (i1+1))) (q0 (vb true) (ln (er (bl_r (th_r (th_r ?_)))))))))
 refine bl_r (th_r (res2 (.inl rfl) Tryz.results178 (v:=(vi (q6.wrap (i1+1)))) (by kernel_rfl) (v':=(vb true)) (by kernel_rfl) ?_))
 exact ⟨(q6.wrap (i1+1)),true,rfl,h⟩
 have h:=h.2 hc2
 refine wpE_skip (bl_n (th_n (rg (q0 (vi i1) (q0 (vi (q6.wrap (i1+1))) (q0 (vi (q6.wrap (i1+1))) (ln ?_)))))))
 exact ⟨((q6.wrap (i1+1)),Hl1,w2),⟨rfl,hm,hs,hb,h.1⟩,h.2⟩
 have h:=h.2 hc1
 refine wpE_exit (th_x (th_x (bl_eq (th_n (eg (q0 (vi 0) (q0 (vb false) (ln (er ?_)))))))))
 refine res2 (.inl rfl) Tryz.results178 (v:=(vi 0)) (by kernel_rfl) (v':=(vb false)) (by kernel_rfl) ?_
 exact ⟨0,false,rfl,h⟩
def m_M_j1 (p1:Option Addr) (aA aB:Int) (aC aE:Int) (aD:ByteArray) (aF aG:Int) (x1:Bool) (w0:World) (H:NP) (w:World) (K:Int→Int→WP):Prop :=
 Br x1
  (K 0 51 w)
  (∃C1:WP,C1 w.drew∧∀w4,w4=w.drew →
  Calls Tryz.prog 97 #[(vp p1),(vi aF)] w4 (fun e w5=>∃r1:Int,e=.returned (vi r1)∧C1 w5∧
   Kept H w4 w5 ∧
   Calls Tryz.prog 97 #[(vp p1),(vi aG)] w5 (fun e w6=>∃r2:Int,e=.returned (vi r2)∧C1 w6∧
    Kept H w5 w6 ∧
    ∃C2:WP,C2 w6.drew∧∀w7,w7=w6.drew →
    Calls Tryz.prog 177 #[(vp p1),(vi aF)] w7 (fun e w8=>∃r3:Int,e=.returned (vi r3)∧C2 w8∧
     Kept H w7 w8 ∧
     Calls Tryz.prog 177 #[(vp p1),(vi aG)] w8 (fun e w9=>∃r4:Int,e=.returned (vi r4)∧C2 w9∧
      Kept H w8 w9 ∧
      ∃z1:Int,(∀w',C2 w'→(Builtin.max_ #[3,3] 3 #[(vi r3),(vi r4)]).run Tryz.prog w'=.ok (vi z1) w') ∧
      ∀y1:Bool,y1=((decide ((q6.wrap ((q6.wrap (1+r1))+r2))>4096)) || (decide ((q6.wrap (1+z1))>64))) →
      Br y1
       (∀(H2:NP) (w10:World),Hst w0 H w9 H2 w10 →
       K 0 52 w10)
       (∀(H2:NP) (w10:World),Hst w0 H w9 H2 w10 →
       Calls Tryz.prog 178 #[(vp p1),(.agg #[(vi aA),(vi aB),(vi aC),(vu aE),(vs aD),(vi aF),(vi aG)])] w10 (fun e w11=>∃r5:Int,∃r6:Bool,e=.returned (.tuple #[(vi r5),(vb r6)])∧
        Kept H2 w10 w11 ∧
        Br r6
         (K r5 0 w11)
         (∃a1:Addr,p1=some a1 ∧
         ∃v1:Sl,w11.cell? a1=some v1.v ∧
         Br (decide ((v1.len:Int)≥65536))
          (K 0 6 w11)
          (∃C3:WP,C3 w11.drew∧∀w12,w12=w11.drew →
          ∃a2:Addr,p1=some a2 ∧
          ∃v2:Sl,(∀w',C3 w'→w'.cell? a2=some v2.v) ∧
          ∀(p3:Addr) (w13:World),New w12 (.cells #[(vi aA),(vi aB),(vi aC),(vu aE),(vs aD),(vi aF),(vi aG)] 176) p3 w13→C3 w13 ∧
          ∃s1:Sl,∃w14:World,(Builtin.append_ #[41,41] 41 #[v2.v,(Sl.mk (some p3) 1 1).v]).run Tryz.prog w13=.ok s1.v w14∧C3 w14 ∧
          Kept H2 w13 w14 ∧
          ∃a3:Addr,p1=some a3 ∧
          CanW w14 a3∧¬ H2 a3.block∧∀w15:World,w15=w14.setCell a3 s1.v →
          ∃a4:Addr,p1=some a4 ∧
          ∃v3:Sl,w15.cell? (a4.add 1)=some v3.v ∧
          ∀(p4:Addr) (w16:World),New w15 (.cells #[(vi (q6.wrap ((q6.wrap (1+r1))+r2)))] 3) p4 w16 →
          ∃s2:Sl,∃w17:World,(Builtin.append_ #[42,42] 42 #[v3.v,(Sl.mk (some p4) 1 1).v]).run Tryz.prog w16=.ok s2.v w17 ∧
          Kept H2 w16 w17 ∧
          ∃a5:Addr,p1=some a5 ∧
          CanW w17 (a5.add 1)∧¬ H2 (a5.add 1).block∧∀w18:World,w18=w17.setCell (a5.add 1) s2.v →
          ∃a6:Addr,p1=some a6 ∧
          ∃v4:Sl,w18.cell? (a6.add 2)=some v4.v ∧
          ∀(p5:Addr) (w19:World),New w18 (.cells #[(vi (q6.wrap (1+z1)))] 3) p5 w19 →
          ∃s3:Sl,∃w20:World,(Builtin.append_ #[42,42] 42 #[v4.v,(Sl.mk (some p5) 1 1).v]).run Tryz.prog w19=.ok s3.v w20 ∧
          Kept H2 w19 w20 ∧
          ∃a7:Addr,p1=some a7 ∧
          CanW w20 (a7.add 2)∧¬ H2 (a7.add 2).block∧∀w21:World,w21=w20.setCell (a7.add 2) s3.v →
          ∃a8:Addr,p1=some a8 ∧
          ∃v5:Sl,w21.cell? a8=some v5.v ∧
          K (v5.len:Int) 0 w21)))))))))
def m_M_j2 (p1:Option Addr) (aA aB:Int) (aC aE:Int) (aD:ByteArray) (aF aG:Int) (x2:Bool) (w0:World) (H:NP) (w:World) (K:Int→Int→WP):Prop :=
 Br x2
  (m_M_j1 p1 aA aB aC aE aD aF aG true w0 H w K)
  (Br (((s_B aA):Int) == 2)
   (Calls Tryz.prog 87 #[(vp p1),(vi aG)] w (fun e w22=>∃r7:Bool,e=.returned (vb r7)∧
    Kept H w w22 ∧
    m_M_j1 p1 aA aB aC aE aD aF aG (!r7) w0 H w22 K))
   (m_M_j1 p1 aA aB aC aE aD aF aG false w0 H w K))
def m_M (p1:Option Addr) (aA aB:Int) (aC aE:Int) (aD:ByteArray) (aF aG:Int) (w0:World) (K:Int→Int→WP):Prop :=
 Br (((s_G aA aB aC aE aD aF aG):Int) != 0)
  (∀(H1:NP) (w2:World),Hst w0 None w0 H1 w2 →
  K 0 (s_G aA aB aC aE aD aF aG) w2)
  (Br (decide ((s_B aA)≥1))
   (∀(H1:NP) (w3:World),Hst w0 None w0 H1 w3 →
   Calls Tryz.prog 87 #[(vp p1),(vi aF)] w3 (fun e w23=>∃r8:Bool,e=.returned (vb r8)∧
    Kept H1 w3 w23 ∧
    m_M_j2 p1 aA aB aC aE aD aF aG (!r8) w0 H1 w23 K))
   (∀(H1:NP) (w3:World),Hst w0 None w0 H1 w3 →
   m_M_j2 p1 aA aB aC aE aD aF aG false w0 H1 w3 K))
theorem w_M (p1 : Option Addr) (aA aB : Int) (aC aE : Int) (aD : ByteArray) (aF aG : Int) (w0 : World) (K : Int → Int → WP) (h : m_M p1 aA aB aC aE aD aF aG w0 K) :
  Calls Tryz.prog 113 #[(vp p1),(.agg #[(vi aA),(vi aB),(vi aC),(vu aE),(vs aD),(vi aF),(vi aG)])] w0 (fun e w'=>∃r9 r10:Int,e=.returned (.tuple #[(vi r9),(vi r10)])∧K r9 r10 w'):=by
 unfold m_M at h
 refine cw (args:=[(vp p1),(.agg #[(vi aA),(vi aB),(vi aC),(vu aE),(vs aD),(vi aF),(vi aG)])]) Tryz.func113 Tryz.ntmps113 ?_
 have hs:=Hst.start w0
 have hb:=HB.nil None w0
 refine eg (sn (O:=(.cells #[(vi aA),(vi aB),(vi aC),(vu aE),(vs aD),(vi aF),(vi aG)] 176)) xb ?_)
 intro p2 w1 hn1
 obtain ⟨H1,hs,hb⟩:=hs.alloc hb hn1
 refine q0 (vi 0) (q0 (vi 0) (ln (eg (q2 (.agg #[(vi aA),(vi aB),(vi aC),(vu aE),(vs aD),(vi aF),(vi aG)]) (xa p2 [(vi aA),(vi aB),(vi aC),(vu aE),(vs aD),(vi aF),(vi aG)] (Tryz.isAgg176 _) (Tryz.sizeOf176 _) (hb.r0 0 7 gZ)) ?_))))
 refine sc Tryz.call176 ((p_G aA aB aC aE aD aF aG w1).mono ?_)
 rintro e w2 ⟨he,hE⟩
 refine ⟨(vi (s_G aA aB aC aE aD aF aG)),he.trans (by kernel_rfl),?_⟩
 have hs:=hs.pure hE
 have hb:=hb.pure hE
 refine q0 (vi (s_G aA aB aC aE aD aF aG)) (ln (wpE_seq (eg (q0 (vi (s_G aA aB aC aE aD aF aG)) (q0 (vb (((s_G aA aB aC aE aD aF aG):Int) != 0)) (ln ?_))))))
 refine wpE_cond (t:=(((s_G aA aB aC aE aD aF aG):Int) != 0)) (by kernel_rfl) (fun hc1=>?_) (fun hc1=>?_)
 have h:=h.1 hc1
 refine eg (q0 (vi (s_G aA aB aC aE aD aF aG)) (q0 (vi 0) (q0 (vi (s_G aA aB aC aE aD aF aG)) (ln (er (th_r ?_))))))
 have h:=h H1 w2 hs
 have hs:=hs.here
 refine res2 (.inl rfl) Tryz.results113 (v:=(vi 0)) (by kernel_rfl) (v':=(vi (s_G aA aB aC aE aD aF aG))) (by kernel_rfl) ?_
 exact ⟨0,(s_G aA aB aC aE aD aF aG),rfl,h⟩
 have h:=h.2 hc1
 refine wpE_skip (th_n (eg (q0 (vp (some p2)) (q2 (vi aA) (xl (Tryz.isAgg3 _) (hb.c0 0 gZ)) ?_))))
 refine sc Tryz.call105 ((p_B aA w2).mono ?_)
 rintro e w3 ⟨he,hE⟩
 refine ⟨(vi (s_B aA)),he.trans (by kernel_rfl),?_⟩
 have hs:=hs.pure hE
 have hb:=hb.pure hE
 refine q0 (vi (s_B aA)) (ln (wpE_seq (wpE_seq ?_)))
 refine wpE_joinT (fun ρ w=>∃x1:Bool,∃H:NP,Has ρ [(0,(vp p1)),(3,(vp (some p2))),(39,(vb x1))]∧Hst w0 H w H w∧HB H w [(p2,[(vi aA),(vi aB),(vi aC),(vu aE),(vs aD),(vi aF),(vi aG)],176)]∧m_M_j1 p1 aA aB aC aE aD aF aG x1 w0 H w K) ?_ ?_
 rintro ρ w ⟨x1,H,hH,hs,hb,h⟩
 unfold m_M_j1 at h
 refine wpE_has hH ?_
 refine wpE_cond (t:=x1) (by kernel_rfl) (fun hc2=>?_) (fun hc2=>?_)
 have h:=h.1 hc2
 refine eg (q0 (vi 0) (q0 (vi 51) (ln (er (th_r (res2 (.inl rfl) Tryz.results113 (v:=(vi 0)) (by kernel_rfl) (v':=(vi 51)) (by kernel_rfl) ?_))))))
 exact ⟨0,51,rfl,h⟩
 have h:=h.2 hc2
 refine wpE_skip (th_n (wpE_seq ?_))
 obtain ⟨C1,hC,h⟩:=h
 refine wpE_drawnC (fun x=>C1 x∧HB H x [(p2,[(vi aA),(vi aB),(vi aC),(vu aE),(vs aD),(vi aF),(vi aG)],176)]) [3,8] [] (by kernel_rfl) (by kernel_rfl) (by kernel_rfl) (by kernel_rfl) ⟨hC,hb.drew⟩ ?_
 intro w4 hw4
 have h:=h w4 hw4
 have hs:Hst w0 H w H w4:=by rw [hw4];exact hs.drew
 have hb:HB H w4 [(p2,[(vi aA),(vi aB),(vi aC),(vu aE),(vs aD),(vi aF),(vi aG)],176)]:=by rw [hw4];exact hb.drew
 have hs:=hs.here
 refine qx 0 (vp p1) Kp0 (qx 1 (vp (some (p2.add 5))) Kp1 (qz 2 (vi aF) Kp2 (fun w' hw'=>(xl (Tryz.isAgg78 _) (hw'.2.cell 0 5 gZ (by kernel_rfl)))) (qx 5 (vp p1) Kp5 (qx 6 (vp (some (p2.add 6))) Kp6 (qz 7 (vi aG) Kp7 (fun w' hw'=>(xl (Tryz.isAgg78 _) (hw'.2.cell 0 6 gZ (by kernel_rfl)))) (lg 3 ?_))))))
 refine sl_call Kp3 (want0 rfl) (by kernel_rfl) (xc Tryz.call97) (h.mono ?_)
 rintro e w5 ⟨r1,rfl,hC,hk,h⟩
 refine ⟨_,rfl,.inr ⟨hC,hb.kept hk⟩,?_⟩
 obtain ⟨hs,hb⟩:=hk.hh hs hb
 refine qx 4 (vi (q6.wrap (1+r1))) Kp4 (lg 8 ?_)
 refine sl_call Kp8 (want0 rfl) (by kernel_rfl) (xc Tryz.call97) (h.mono ?_)
 rintro e w6 ⟨r2,rfl,hC,hk,h⟩
 refine ⟨_,rfl,.inr ⟨hC,hb.kept hk⟩,?_⟩
 obtain ⟨hs,hb⟩:=hk.hh hs hb
 refine qx 9 (vi (q6.wrap ((q6.wrap (1+r1))+r2))) Kp9 (qx 10 (vi (q6.wrap ((q6.wrap (1+r1))+r2))) (pickA (S8 (pickS (pickS pickZ)))) (wn (th_n (wpE_seq ?_))))
 obtain ⟨C2,hC,h⟩:=h
 refine wpE_drawnC (fun x=>C2 x∧HB H x [(p2,[(vi aA),(vi aB),(vi aC),(vu aE),(vs aD),(vi aF),(vi aG)],176)]) [3,7] [] (by kernel_rfl) (by kernel_rfl) (by kernel_rfl) (by kernel_rfl) ⟨hC,hb.drew⟩ ?_
 intro w7 hw7
 have h:=h w7 hw7
 have hs:Hst w0 H w6 H w7:=by rw [hw7];exact hs.drew
 have hb:HB H w7 [(p2,[(vi aA),(vi aB),(vi aC),(vu aE),(vs aD),(vi aF),(vi aG)],176)]:=by rw [hw7];exact hb.drew
 have hs:=hs.here
 refine qx 0 (vp p1) Kp0 (qx 1 (vp (some (p2.add 5))) Kp1 (qz 2 (vi aF) Kp2 (fun w' hw'=>(xl (Tryz.isAgg78 _) (hw'.2.cell 0 5 gZ (by kernel_rfl)))) (qx 4 (vp p1) Kp4 (qx 5 (vp (some (p2.add 6))) Kp5 (qz 6 (vi aG) Kp6 (fun w' hw'=>(xl (Tryz.isAgg78 _) (hw'.2.cell 0 6 gZ (by kernel_rfl)))) (lg 3 ?_))))))
 refine sl_call Kp3 (want0 rfl) (by kernel_rfl) (xc Tryz.call177) (h.mono ?_)
 rintro e w8 ⟨r3,rfl,hC,hk,h⟩
 refine ⟨_,rfl,.inr ⟨hC,hb.kept hk⟩,?_⟩
 obtain ⟨hs,hb⟩:=hk.hh hs hb
 refine lg 7 ?_
 refine sl_call Kp7 (want0 rfl) (by kernel_rfl) (xc Tryz.call177) (h.mono ?_)
 rintro e w9 ⟨r4,rfl,hC,hk,h⟩
 refine ⟨_,rfl,.inr ⟨hC,hb.kept hk⟩,?_⟩
 obtain ⟨hs,hb⟩:=hk.hh hs hb
 refine qg 8 ?_
 obtain ⟨z1,hv9,h⟩:=h
 refine sy (v:=(vi z1)) Kp8 (fun w' hw'=>(x_builtin (args:=#[(vi r3),(vi r4)]) (by kernel_rfl) (fun _=>rfl) (hv9 w' hw'.1))) (qx 9 (vi (q6.wrap (1+z1))) Kp9 (qx 10 (vi (q6.wrap (1+z1))) (pickA (S8 (pickS (pickS pickZ)))) (wn (th_n (wpE_seq (wpE_seq ?_))))))
 refine wpE_via (fun ρ wJ=>∃b1'0 y1:Bool,∃HJ:NP,((decide ((q6.wrap ((q6.wrap (1+r1))+r2))>4096))=b1'0)∧(y1=(b1'0 || (decide ((q6.wrap (1+z1))>64))))∧Hst w0 H w9 HJ wJ∧HB HJ wJ [(p2,[(vi aA),(vi aB),(vi aC),(vu aE),(vs aD),(vi aF),(vi aG)],176)]∧Has ρ [(0,(vp p1)),(3,(vp (some p2))),(8,(vi (q6.wrap ((q6.wrap (1+r1))+r2)))),(9,(vi (q6.wrap (1+z1)))),(65,(vb y1))]) ?_ ?_
 refine rg (q0 (vi (q6.wrap ((q6.wrap (1+r1))+r2))) (q0 (vb (decide ((q6.wrap ((q6.wrap (1+r1))+r2))>4096))) (q0 (vb (decide ((q6.wrap ((q6.wrap (1+r1))+r2))>4096))) ?_)))
 rcases Bool.eq_false_or_eq_true (decide ((q6.wrap ((q6.wrap (1+r1))+r2))>4096)) with hg2 | hg2
 refine sk (yD 62 hg2) (sk (yD 62 hg2) (q2 (vb true) (xT hg2) (ln ?_)))
 exact ⟨true,_,_,hg2,rfl,hs,hb,hm⟩
 refine q1 (vi (q6.wrap (1+z1))) (wy 62 hg2) (q1 (vb (decide ((q6.wrap (1+z1))>64))) (wy 62 hg2) (q2 (vb (decide ((q6.wrap (1+z1))>64))) (xF hg2) (ln ?_)))
 exact ⟨false,_,_,hg2,rfl,hs,hb,hm⟩
 rintro ρ w10 ⟨b1'0,y1,H2,he0,hy1,hs,hb,hH⟩
 subst he0
 have h:=h y1 hy1
 refine norm_has hH ?_
 refine th_n ?_
 refine wpE_cond (t:=y1) (by kernel_rfl) (fun hc3=>?_) (fun hc3=>?_)
 have h:=h.1 hc3
 refine eg (q0 (vi 0) (q0 (vi 52) (ln (er (th_r ?_)))))
 have h:=h H2 w10 hs
 have hs:=hs.here
 refine res2 (.inl rfl) Tryz.results113 (v:=(vi 0)) (by kernel_rfl) (v':=(vi 52)) (by kernel_rfl) ?_
 exact ⟨0,52,rfl,h⟩
 have h:=h.2 hc3
 refine wpE_skip (th_n (eg (q0 (vp p1) (q2 (.agg #[(vi aA),(vi aB),(vi aC),(vu aE),(vs aD),(vi aF),(vi aG)]) (xa p2 [(vi aA),(vi aB),(vi aC),(vu aE),(vs aD),(vi aF),(vi aG)] (Tryz.isAgg176 _) (Tryz.sizeOf176 _) (hb.r0 0 7 gZ)) ?_))))
 have h:=h H2 w10 hs
 have hs:=hs.here
 refine sc Tryz.call178 (h.mono ?_)
 rintro e w11 ⟨r5,r6,rfl,hk,h⟩
 refine ⟨_,rfl,?_⟩
 obtain ⟨hs,hb⟩:=hk.hh hs hb
 refine q0 (.tuple #[(vi r5),(vb r6)]) (q0 (vi r5) (q0 (vb r6) (q0 (vi r5) (q0 (vb r6) (ln (wpE_seq (eg (q0 (vb r6) (wpL_nil ?_)))))))))
 refine th_n ?_
 refine wpE_cond (t:=r6) (by kernel_rfl) (fun hc4=>?_) (fun hc4=>?_)
 have h:=h.1 hc4
 refine eg (q0 (vi r5) (q0 (vi r5) (q0 (vi 0) (ln (er (th_r (res2 (.inl rfl) Tryz.results113 (v:=(vi r5)) (by kernel_rfl) (v':=(vi 0)) (by kernel_rfl) ?_)))))))
 exact ⟨r5,0,rfl,h⟩
 have h:=h.2 hc4
 refine wpE_skip (th_n (wpE_seq (eg (q0 (vp p1) ?_))))
 obtain ⟨a1,hp1,h⟩:=h
 refine q2 (vp (some a1)) (x_nilCheck (p:=p1) (by kernel_rfl) hp1) (q0 (vp (some a1)) ?_)
 obtain ⟨v1,hv8,h⟩:=h
 refine q2 v1.v (xl (Tryz.isAgg41 _) hv8) (q0 (vi (v1.len:Int)) (q0 (vb (decide ((v1.len:Int)≥65536))) (ln ?_)))
 refine wpE_cond (t:=(decide ((v1.len:Int)≥65536))) (by kernel_rfl) (fun hc5=>?_) (fun hc5=>?_)
 have h:=h.1 hc5
 refine eg (q0 (vi 0) (q0 (vi 6) (ln (er (th_r (res2 (.inl rfl) Tryz.results113 (v:=(vi 0)) (by kernel_rfl) (v':=(vi 6)) (by kernel_rfl) ?_))))))
 exact ⟨0,6,rfl,h⟩
 have h:=h.2 hc5
 refine wpE_skip (th_n (wpE_seq ?_))
 obtain ⟨C3,hC,h⟩:=h
 refine wpE_drawnC (fun x=>C3 x∧HB H2 x [(p2,[(vi aA),(vi aB),(vi aC),(vu aE),(vs aD),(vi aF),(vi aG)],176)]) [6,7,10] [10] (by kernel_rfl) (by kernel_rfl) (by kernel_rfl) (by kernel_rfl) ⟨hC,hb.drew⟩ ?_
 intro w12 hw12
 have h:=h w12 hw12
 have hs:Hst w0 H2 w11 H2 w12:=by rw [hw12];exact hs.drew
 have hb:HB H2 w12 [(p2,[(vi aA),(vi aB),(vi aC),(vu aE),(vs aD),(vi aF),(vi aG)],176)]:=by rw [hw12];exact hb.drew
 have hs:=hs.here
 refine qx 0 (vp p1) Kp0 (qx 1 (vp p1) Kp1 (qg 2 ?_))
 obtain ⟨a2,hp2,h⟩:=h
 refine sy (v:=(vp (some a2))) Kp2 (fun _ _=>(x_nilCheck (p:=p1) (by kernel_rfl) hp2)) (qx 3 (vp (some a2)) Kp3 (qg 4 ?_))
 obtain ⟨v2,hv7,h⟩:=h
 refine sy (v:=v2.v) Kp4 (fun w' hw'=>(xl (Tryz.isAgg41 _) (hv7 w' hw'.1))) (qz 5 (.agg #[(vi aA),(vi aB),(vi aC),(vu aE),(vs aD),(vi aF),(vi aG)]) Kp5 (fun w' hw'=>(xa p2 [(vi aA),(vi aB),(vi aC),(vu aE),(vs aD),(vi aF),(vi aG)] (Tryz.isAgg176 _) (Tryz.sizeOf176 _) (hw'.2.r0 0 7 gZ))) (lg 6 (sl_new (O:=(.cells #[(vi aA),(vi aB),(vi aC),(vu aE),(vs aD),(vi aF),(vi aG)] 176)) (fun p=>(Sl.mk (some p) 1 1).v) Kp6 (want0 rfl) (by kernel_rfl) (x_buildSlice (vs:=#[(0,(.agg #[(vi aA),(vi aB),(vi aC),(vu aE),(vs aD),(vi aF),(vi aG)]))]) (by kernel_rfl) (by kernel_rfl)) ?_)))
 intro p3 w13 hn7
 have h:=h p3 w13 hn7
 refine ⟨.inr ⟨h.1,hb.kept (Ext.new (F:=None) hn7).keptP⟩,?_⟩
 have h:=h.2
 have hs:=hs.again (Ext.new (F:=None) hn7).keptP
 have hb:=hb.kept (Ext.new (F:=None) hn7).keptP
 refine lg 7 ?_
 obtain ⟨s1,w14,hv6,hC,hk,h⟩:=h
 refine sl (v:=s1.v) Kp7 (want0 rfl) (by kernel_rfl) (x_builtin (args:=#[v2.v,(Sl.mk (some p3) 1 1).v]) (by kernel_rfl) (fun _=>rfl) hv6) (.inr ⟨hC,hb.kept hk⟩) ?_
 obtain ⟨hs,hb⟩:=hk.hh hs hb
 refine qg 8 ?_
 obtain ⟨a3,hp3,h⟩:=h
 refine sy (v:=(vp (some a3))) Kp8 (fun _ _=>(x_nilCheck (p:=p1) (by kernel_rfl) hp3)) (qx 9 (vp (some a3)) Kp9 (lg 10 ?_))
 obtain ⟨hp4,hnh,h⟩:=h
 refine sl_t (pickA (S8 (pickS (pickS pickZ)))) (xs (v:=s1.v) (Tryz.sizeOf41 _) hp4) ?_
 intro w15 hn2
 have h:=h w15 hn2
 refine ⟨.inl (by kernel_rfl),?_⟩
 have hk:=Kept.sc hnh hn2
 obtain ⟨hs,hb⟩:=hk.hh hs hb
 refine wn (th_n (eg (q0 (vp p1) (q0 (vp p1) ?_))))
 obtain ⟨a4,hp5,h⟩:=h
 refine q2 (vp (some a4)) (x_nilCheck (p:=p1) (by kernel_rfl) hp5) (q0 (vp (some (a4.add 1))) ?_)
 obtain ⟨v3,hv5,h⟩:=h
 refine q2 v3.v (xl (Tryz.isAgg42 _) hv5) (q0 (vi (q6.wrap ((q6.wrap (1+r1))+r2))) (st_new (O:=(.cells #[(vi (q6.wrap ((q6.wrap (1+r1))+r2)))] 3)) (fun p=>(Sl.mk (some p) 1 1).v) (want0 rfl) (x_buildSlice (vs:=#[(0,(vi (q6.wrap ((q6.wrap (1+r1))+r2))))]) (by kernel_rfl) (by kernel_rfl)) ?_))
 intro p4 w16 hn6
 have h:=h p4 w16 hn6
 have hs:=hs.again (Ext.new (F:=None) hn6).keptP
 have hb:=hb.kept (Ext.new (F:=None) hn6).keptP
 obtain ⟨s2,w17,hv4,hk,h⟩:=h
 refine st (v:=s2.v) (want0 rfl) (x_builtin (args:=#[v3.v,(Sl.mk (some p4) 1 1).v]) (by kernel_rfl) (fun _=>rfl) hv4) ?_
 obtain ⟨hs,hb⟩:=hk.hh hs hb
 obtain ⟨a5,hp6,h⟩:=h
 refine q2 (vp (some a5)) (x_nilCheck (p:=p1) (by kernel_rfl) hp6) (q0 (vp (some (a5.add 1))) ?_)
 obtain ⟨hp7,hnh,h⟩:=h
 refine st_set (want0 rfl) (x_store (a:=(a5.add 1)) (v:=s2.v) (by kernel_rfl) (by kernel_rfl) rfl (Tryz.sizeOf42 _) hp7) ?_
 intro w18 hn3
 have h:=h w18 hn3
 have hk:=Kept.sc hnh hn3
 obtain ⟨hs,hb⟩:=hk.hh hs hb
 refine ln (eg (q0 (vp p1) (q0 (vp p1) ?_)))
 obtain ⟨a6,hp8,h⟩:=h
 refine q2 (vp (some a6)) (x_nilCheck (p:=p1) (by kernel_rfl) hp8) (q0 (vp (some (a6.add 2))) ?_)
 obtain ⟨v4,hv3,h⟩:=h
 refine q2 v4.v (xl (Tryz.isAgg42 _) hv3) (q0 (vi (q6.wrap (1+z1))) (st_new (O:=(.cells #[(vi (q6.wrap (1+z1)))] 3)) (fun p=>(Sl.mk (some p) 1 1).v) (want0 rfl) (x_buildSlice (vs:=#[(0,(vi (q6.wrap (1+z1))))]) (by kernel_rfl) (by kernel_rfl)) ?_))
 intro p5 w19 hn5
 have h:=h p5 w19 hn5
 have hs:=hs.again (Ext.new (F:=None) hn5).keptP
 have hb:=hb.kept (Ext.new (F:=None) hn5).keptP
 obtain ⟨s3,w20,hv2,hk,h⟩:=h
 refine st (v:=s3.v) (want0 rfl) (x_builtin (args:=#[v4.v,(Sl.mk (some p5) 1 1).v]) (by kernel_rfl) (fun _=>rfl) hv2) ?_
 obtain ⟨hs,hb⟩:=hk.hh hs hb
 obtain ⟨a7,hp9,h⟩:=h
 refine q2 (vp (some a7)) (x_nilCheck (p:=p1) (by kernel_rfl) hp9) (q0 (vp (some (a7.add 2))) ?_)
 obtain ⟨hp10,hnh,h⟩:=h
 refine st_set (want0 rfl) (x_store (a:=(a7.add 2)) (v:=s3.v) (by kernel_rfl) (by kernel_rfl) rfl (Tryz.sizeOf42 _) hp10) ?_
 intro w21 hn4
 have h:=h w21 hn4
 have hk:=Kept.sc hnh hn4
 obtain ⟨hs,hb⟩:=hk.hh hs hb
 refine ln (eg (q0 (vp p1) ?_))
 obtain ⟨a8,hp11,h⟩:=h
 refine q2 (vp (some a8)) (x_nilCheck (p:=p1) (by kernel_rfl) hp11) (q0 (vp (some a8)) ?_)
 obtain ⟨v5,hv1,h⟩:=h
 refine q2 v5.v (xl (Tryz.isAgg41 _) hv1) (q0 (vi (v5.len:Int)) (q0 (vi (v5.len:Int)) (q0 (vi 0) (ln (er (res2 (.inl rfl) Tryz.results113 (v:=(vi (v5.len:Int))) (by kernel_rfl) (v':=(vi 0)) (by kernel_rfl) ?_))))))
 exact ⟨(v5.len:Int),0,rfl,h⟩
 refine rg (q0 (vi (s_B aA)) (q0 (vb (decide ((s_B aA)≥1))) (q0 (vb (decide ((s_B aA)≥1))) ?_)))
 refine wpL_join 6 (fun ρ w=>∃x2:Bool,∃H:NP,Has ρ [(0,(vp p1)),(3,(vp (some p2))),(7,(vi (s_B aA))),(28,(vb x2))]∧Hst w0 H w H w∧HB H w [(p2,[(vi aA),(vi aB),(vi aC),(vu aE),(vs aD),(vi aF),(vi aG)],176)]∧m_M_j2 p1 aA aB aC aE aD aF aG x2 w0 H w K) ?_ ?_
 rintro ρ w ⟨x2,H,hH,hs,hb,h⟩
 unfold m_M_j2 at h
 refine wpL_has hH ?_
 refine q0 (vb x2) ?_
 rcases Bool.eq_false_or_eq_true x2 with hg3 | hg3
 have h:=h.1 hg3
 refine sk (yD 29 hg3) (sk (yD 29 hg3) (sk (yD 29 hg3) (sm (sm (sm (sm (sm (sk (yD 29 hg3) (q2 (vb true) (xT hg3) (ln ?_))))))))))
 exact ⟨true,H,hm,hs,hb,h⟩
 have h:=h.2 hg3
 refine q1 (vi (s_B aA)) (wy 29 hg3) (q1 (vb (((s_B aA):Int) == 2)) (wy 29 hg3) (q1 (vb (((s_B aA):Int) == 2)) (wy 29 hg3) ?_))
 rcases Bool.eq_false_or_eq_true (((s_B aA):Int) == 2) with hg4 | hg4
 have h:=h.1 hg4
 refine q1 (vp p1) (wy 32 hg4) (q1 (vp (some (p2.add 6))) (wy 32 hg4) (stp (v:=(vi aG)) (wy 32 hg4) (xl (Tryz.isAgg78 _) (hb.c 0 6 gZ)) ?_))
 refine st_call (wy 32 hg4) (xc Tryz.call87) (h.mono ?_)
 rintro e w22 ⟨r7,rfl,hk,h⟩
 refine ⟨_,rfl,?_⟩
 obtain ⟨hs,hb⟩:=hk.hh hs hb
 refine q1 (vb (!r7)) (wy 32 hg4) (stp (v:=(vb (!r7))) (wy 29 hg3) (xT hg4) (q2 (vb (!r7)) (xF hg3) (ln ?_)))
 exact ⟨(!r7),H,hm,hs,hb,h⟩
 have h:=h.2 hg4
 refine sk (yD 32 hg4) (sk (yD 32 hg4) (sk (yD 32 hg4) (sk (yD 32 hg4) (sk (yD 32 hg4) (stp (v:=(vb false)) (wy 29 hg3) (xF hg4) (q2 (vb false) (xF hg3) (ln ?_)))))))
 exact ⟨false,H,hm,hs,hb,h⟩
 rcases Bool.eq_false_or_eq_true (decide ((s_B aA)≥1)) with hg5 | hg5
 have h:=h.1 hg5
 refine q1 (vp p1) (wy 22 hg5) (q1 (vp (some (p2.add 5))) (wy 22 hg5) (stp (v:=(vi aF)) (wy 22 hg5) (xl (Tryz.isAgg78 _) (hb.c 0 5 gZ)) ?_))
 have h:=h H1 w3 hs
 have hs:=hs.here
 refine st_call (wy 22 hg5) (xc Tryz.call87) (h.mono ?_)
 rintro e w23 ⟨r8,rfl,hk,h⟩
 refine ⟨_,rfl,?_⟩
 obtain ⟨hs,hb⟩:=hk.hh hs hb
 refine q1 (vb (!r8)) (wy 22 hg5) (q2 (vb (!r8)) (xT hg5) (wpL_nil ?_))
 exact ⟨(!r8),H1,hm,hs,hb,h⟩
 have h:=h.2 hg5
 refine sk (yD 22 hg5) (sk (yD 22 hg5) (sk (yD 22 hg5) (sk (yD 22 hg5) (sk (yD 22 hg5) (q2 (vb false) (xF hg5) (wpL_nil ?_))))))
 have h:=h H1 w3 hs
 have hs:=hs.here
 exact ⟨false,H1,hm,hs,hb,h⟩
def m_K1_l1 (p1:Option Addr) (aH:Sl) (i1 aA:Int) (aB aC aE:Int) (aD:ByteArray) (aF aG:Int) (w0:World) (Hl1:NP) (wl1:World) (Kc1:Int→Int→Int→Int→Int→ByteArray→Int→Int→NP→WP) (K:Int→Int→WP):Prop :=
 Br (decide (i1<(aH.len:Int)))
  (∃a1:Addr,At aH i1 6 a1 ∧
  ∃aN aO:Int,∃aP aQ:Int,∃aR:ByteArray,∃bC:Sl,Row wl1 a1 [(vi aN),(vi aO),(vi aP),(vu aQ),(vs aR),bC.v] ∧
  Calls Tryz.prog 148 #[(vp p1),(.agg #[(vi aN),(vi aO),(vi aP),(vu aQ),(vs aR),bC.v])] wl1 (fun e w5=>∃r1 r2:Int,e=.returned (.tuple #[(vi r1),(vi r2)])∧
   Kept Hl1 wl1 w5 ∧
   Br (r2 != 0)
    (K 0 r2 w5)
    (∀(H3:NP) (w8:World),Hst w0 Hl1 w5 H3 w8 →
    Kc1 (q6.wrap (i1+1)) aA aB aC aE aD (cond (i1 == 0) r1 aF) (cond (i1 == 0) aG r1) H3 w8)))
  (Calls Tryz.prog 113 #[(vp p1),(.agg #[(vi aA),(vi aB),(vi aC),(vu aE),(vs aD),(vi aF),(vi aG)])] wl1 (fun e w11=>∃r3 r4:Int,e=.returned (.tuple #[(vi r3),(vi r4)])∧
   Kept Hl1 wl1 w11 ∧
   K r3 r4 w11))
def m_K1 (p1:Option Addr) (aI aJ:Int) (aK aL:Int) (aM:ByteArray) (aH:Sl) (w0:World) (K:Int→Int→WP):Prop :=
 ∀(H2:NP) (w4:World),Hst w0 None w0 H2 w4 →
 ∃(I1:Int→Int→Int→Int→Int→ByteArray→Int→Int→NP→WP) (mu1:Int→Int→Int→Int→Int→ByteArray→Int→Int→World→Nat),I1 0 aI aJ aK aL aM 0 0 H2 w4 ∧
  ∀(i1 aA:Int) (aB aC aE:Int) (aD:ByteArray) (aF aG:Int) (Hl1:NP) (wl1:World),Hst w0 Hl1 wl1 Hl1 wl1→I1 i1 aA aB aC aE aD aF aG Hl1 wl1→m_K1_l1 p1 aH i1 aA aB aC aE aD aF aG w0 Hl1 wl1 (fun y'0 y'1 y'2 y'3 y'4 y'5 y'6 y'7 H' w'=>I1 y'0 y'1 y'2 y'3 y'4 y'5 y'6 y'7 H' w'∧mu1 y'0 y'1 y'2 y'3 y'4 y'5 y'6 y'7 w'<mu1 i1 aA aB aC aE aD aF aG wl1) K
theorem w_K1 (p1 : Option Addr) (aI aJ : Int) (aK aL : Int) (aM : ByteArray) (aH : Sl) (w0 : World) (K : Int → Int → WP) (h : m_K1 p1 aI aJ aK aL aM aH w0 K) :
  Calls Tryz.prog 148 #[(vp p1),(.agg #[(vi aI),(vi aJ),(vi aK),(vu aL),(vs aM),aH.v])] w0 (fun e w'=>∃r5 r6:Int,e=.returned (.tuple #[(vi r5),(vi r6)])∧K r5 r6 w'):=by
 unfold m_K1 at h
 refine cw (args:=[(vp p1),(.agg #[(vi aI),(vi aJ),(vi aK),(vu aL),(vs aM),aH.v])]) Tryz.func148 Tryz.ntmps148 ?_
 have hs:=Hst.start w0
 have hb:=HB.nil None w0
 refine eg (sn (O:=(.cells #[(vi aI),(vi aJ),(vi aK),(vu aL),(vs aM),aH.v] 107)) xb ?_)
 intro p2 w1 hn1
 obtain ⟨H1,hs,hb⟩:=hs.alloc hb hn1
 refine q0 (vi 0) (q0 (vi 0) (ln (eg (q2 (.agg #[(vi aI),(vi aJ),(vi aK),(vu aL),(vs aM),aH.v]) (xa p2 [(vi aI),(vi aJ),(vi aK),(vu aL),(vs aM),aH.v] (Tryz.isAgg107 _) (Tryz.sizeOf107 _) (hb.r0 0 6 gZ)) ?_))))
 refine sc Tryz.call204 ((p_Z aI aJ aK aL aM aH w1).mono ?_)
 rintro e w2 ⟨he,hE⟩
 refine ⟨(.agg #[(vi aI),(vi aJ),(vi aK),(vu aL),(vs aM),(vi 0),(vi 0)]),he.trans (by kernel_rfl),?_⟩
 have hs:=hs.pure hE
 have hb:=hb.pure hE
 refine sn (O:=(.cells #[(vi 0),(vi 0),(vi 0),(vu 0),(vs ⟨#[]⟩),(vi 0),(vi 0)] 176)) (x_alloc (Tryz.zeroValue176 _) rfl) ?_
 intro p3 w3 hn2
 obtain ⟨H2,hs,hb⟩:=hs.alloc hb hn2
 refine st_set (want0 rfl) (xo p3 [(vi aI),(vi aJ),(vi aK),(vu aL),(vs aM),(vi 0),(vi 0)] (Tryz.sizeOf176 _) (hb.k0 0 7 gZ)) ?_
 intro w4 hn3
 obtain ⟨hs,hb⟩:=hb.s0 (l':=[(p3,[(vi aI),(vi aJ),(vi aK),(vu aL),(vs aM),(vi 0),(vi 0)],176),(p2,[(vi aI),(vi aJ),(vi aK),(vu aL),(vs aM),aH.v],107)]) 0 [(vi aI),(vi aJ),(vi aK),(vu aL),(vs aM),(vi 0),(vi 0)] hs hn3 gZ
 refine ln (wpE_seq (eg (q0 (vi 0) (ln (wpE_block ?_)))))
 have h:=h H2 w4 hs
 have hs:=hs.here
 obtain ⟨I1,mu1,h0,hr⟩:=h
 refine wpE_loop (σ:=Int×Int×Int×Int×Int×ByteArray×Int×Int×NP×World) (fun s ρ w=>w=s.2.2.2.2.2.2.2.2.2∧Has ρ [(0,(vp p1)),(3,(vp (some p2))),(6,(vp (some p3))),(7,(vi s.1))]∧Hst w0 s.2.2.2.2.2.2.2.2.1 w s.2.2.2.2.2.2.2.2.1 w∧HB s.2.2.2.2.2.2.2.2.1 w [(p3,[(vi s.2.1),(vi s.2.2.1),(vi s.2.2.2.1),(vu s.2.2.2.2.1),(vs s.2.2.2.2.2.1),(vi s.2.2.2.2.2.2.1),(vi s.2.2.2.2.2.2.2.1)],176),(p2,[(vi aI),(vi aJ),(vi aK),(vu aL),(vs aM),aH.v],107)]∧I1 s.1 s.2.1 s.2.2.1 s.2.2.2.1 s.2.2.2.2.1 s.2.2.2.2.2.1 s.2.2.2.2.2.2.1 s.2.2.2.2.2.2.2.1 s.2.2.2.2.2.2.2.2.1 s.2.2.2.2.2.2.2.2.2) (fun s=>mu1 s.1 s.2.1 s.2.2.1 s.2.2.2.1 s.2.2.2.2.1 s.2.2.2.2.2.1 s.2.2.2.2.2.2.1 s.2.2.2.2.2.2.2.1 s.2.2.2.2.2.2.2.2.2) (0,aI,aJ,aK,aL,aM,0,0,H2,w4) ⟨rfl,hm,hs,hb,h0⟩ ?_
 rintro ⟨i1,aA,aB,aC,aE,aD,aF,aG,Hl1,wl1⟩ ρ w ⟨hw,hH,hs,hb,hI⟩
 obtain rfl:wl1=w:=(show w=wl1 from hw).symm
 have hH:Has ρ [(0,(vp p1)),(3,(vp (some p2))),(6,(vp (some p3))),(7,(vi i1))]:=hH
 have hs:Hst w0 Hl1 wl1 Hl1 wl1:=hs
 have hb:HB Hl1 wl1 [(p3,[(vi aA),(vi aB),(vi aC),(vu aE),(vs aD),(vi aF),(vi aG)],176),(p2,[(vi aI),(vi aJ),(vi aK),(vu aL),(vs aM),aH.v],107)]:=hb
 have h:=hr i1 aA aB aC aE aD aF aG Hl1 wl1 hs hI
 unfold m_K1_l1 at h
 refine wpE_has hH ?_
 refine wpE_seq (eg (q0 (vi i1) (q0 (vp (some (p2.add 5))) (q2 aH.v (xl (Tryz.isAgg66 _) (hb.c 1 5 (gS gZ))) (q0 (vi (aH.len:Int)) (q0 (vb (decide (i1<(aH.len:Int)))) (ln ?_)))))))
 refine wpE_cond (t:=(decide (i1<(aH.len:Int)))) (by kernel_rfl) (fun hc1=>?_) (fun hc1=>?_)
 have h:=h.1 hc1
 refine wpE_skip (th_n (wpE_seq (wpE_block (eg (q0 (vp p1) (q0 (vp (some (p2.add 5))) (q2 aH.v (xl (Tryz.isAgg66 _) (hb.c 1 5 (gS gZ))) (q0 (vi i1) ?_))))))))
 obtain ⟨a1,hv2,h⟩:=h
 refine q2 (vp (some a1)) (xi (Tryz.runUnderlying66 _) (Tryz.sizeOf107 _) hv2) ?_
 obtain ⟨aN,aO,aP,aQ,aR,bC,hv1,h⟩:=h
 refine q2 (.agg #[(vi aN),(vi aO),(vi aP),(vu aQ),(vs aR),bC.v]) (xa a1 [(vi aN),(vi aO),(vi aP),(vu aQ),(vs aR),bC.v] (Tryz.isAgg107 _) (Tryz.sizeOf107 _) hv1) ?_
 refine sc Tryz.call148 (h.mono ?_)
 rintro e w5 ⟨r1,r2,rfl,hk,h⟩
 refine ⟨_,rfl,?_⟩
 obtain ⟨hs,hb⟩:=hk.hh hs hb
 refine q0 (.tuple #[(vi r1),(vi r2)]) (q0 (vi r1) (q0 (vi r2) (q0 (vi r1) (q0 (vi r2) (ln (wpE_seq (eg (q0 (vi r2) (q0 (vb (r2 != 0)) ?_)))))))))
 refine ln ?_
 refine wpE_cond (t:=(r2 != 0)) (by kernel_rfl) (fun hc2=>?_) (fun hc2=>?_)
 have h:=h.1 hc2
 refine eg (q0 (vi r2) (q0 (vi 0) (q0 (vi r2) (ln (er (th_r (bl_r (th_r (th_r ?_)))))))))
 refine bl_r (th_r (res2 (.inl rfl) Tryz.results148 (v:=(vi 0)) (by kernel_rfl) (v':=(vi r2)) (by kernel_rfl) ?_))
 exact ⟨0,r2,rfl,h⟩
 have h:=h.2 hc2
 refine wpE_skip (th_n (eg (q0 (vi i1) (q0 (vb (i1 == 0)) (ln ?_)))))
 refine wpE_via (fun ρ wJ=>∃b1'0:Bool,∃HJ:NP,((i1 == 0)=b1'0)∧Hst w0 Hl1 w5 HJ wJ∧HB HJ wJ [(p3,[(vi aA),(vi aB),(vi aC),(vu aE),(vs aD),(vi (cond b1'0 r1 aF)),(vi (cond b1'0 aG r1))],176),(p2,[(vi aI),(vi aJ),(vi aK),(vu aL),(vs aM),aH.v],107)]∧Has ρ [(0,(vp p1)),(3,(vp (some p2))),(6,(vp (some p3))),(7,(vi i1))]) ?_ ?_
 refine wpE_cond (t:=(i1 == 0)) (by kernel_rfl) (fun hc4=>?_) (fun hc4=>?_)
 refine rg (q0 (vi r1) (q0 (vp (some (p3.add 5))) (st_set (want0 rfl) (x_store (a:=(p3.add 5)) (v:=(vi r1)) (by kernel_rfl) (by kernel_rfl) rfl (Tryz.sizeOf78 _) (hb.canW 0 5 gZ (by kernel_rfl))) ?_)))
 intro w9 hn6
 have hsb:Hst w0 Hl1 w5 Hl1 w9∧HB Hl1 w9 [(p3,[(vi aA),(vi aB),(vi aC),(vu aE),(vs aD),(vi r1),(vi aG)],176),(p2,[(vi aI),(vi aJ),(vi aK),(vu aL),(vs aM),aH.v],107)]:=by
  rw [hn6]
  exact hb.set (i:=0) 5 (v:=(vi r1)) hs gZ (by kernel_rfl)
 obtain ⟨hs,hb⟩:=hsb
 refine ln ?_
 exact ⟨true,_,hc4,hs,hb,hm⟩
 refine rg (q0 (vi r1) (q0 (vp (some (p3.add 6))) (st_set (want0 rfl) (x_store (a:=(p3.add 6)) (v:=(vi r1)) (by kernel_rfl) (by kernel_rfl) rfl (Tryz.sizeOf78 _) (hb.canW 0 6 gZ (by kernel_rfl))) ?_)))
 intro w10 hn7
 have hsb:Hst w0 Hl1 w5 Hl1 w10∧HB Hl1 w10 [(p3,[(vi aA),(vi aB),(vi aC),(vu aE),(vs aD),(vi aF),(vi r1)],176),(p2,[(vi aI),(vi aJ),(vi aK),(vu aL),(vs aM),aH.v],107)]:=by
  rw [hn7]
  exact hb.set (i:=0) 6 (v:=(vi r1)) hs gZ (by kernel_rfl)
 obtain ⟨hs,hb⟩:=hsb
 refine ln ?_
 exact ⟨false,_,hc4,hs,hb,hm⟩
 rintro ρ w8 ⟨b1'0,H3,he0,hs,hb,hH⟩
 subst he0
 refine norm_has hH ?_
 refine bl_n (th_n (rg (q0 (vi i1) (q0 (vi (q6.wrap (i1+1))) (q0 (vi (q6.wrap (i1+1))) (wpL_nil ?_))))))
 have h:=h H3 w8 hs
 have hs:=hs.here
 refine th_n ?_
 exact ⟨((q6.wrap (i1+1)),aA,aB,aC,aE,aD,(cond (i1 == 0) r1 aF),(cond (i1 == 0) aG r1),H3,w8),⟨rfl,hm,hs,hb,h.1⟩,h.2⟩
 have h:=h.2 hc1
 refine wpE_exit (th_x (th_x (bl_eq (th_n (eg (q0 (vp p1) (q2 (.agg #[(vi aA),(vi aB),(vi aC),(vu aE),(vs aD),(vi aF),(vi aG)]) (xa p3 [(vi aA),(vi aB),(vi aC),(vu aE),(vs aD),(vi aF),(vi aG)] (Tryz.isAgg176 _) (Tryz.sizeOf176 _) (hb.r0 0 7 gZ)) ?_)))))))
 refine sc Tryz.call113 (h.mono ?_)
 rintro e w11 ⟨r3,r4,rfl,hk,h⟩
 refine ⟨_,rfl,?_⟩
 obtain ⟨hs,hb⟩:=hk.hh hs hb
 refine q0 (vi r3) (q0 (vi r4) (q0 (vi r3) (q0 (vi r4) (ln (er (res2 (.inl rfl) Tryz.results148 (v:=(vi r3)) (by kernel_rfl) (v':=(vi r4)) (by kernel_rfl) ?_))))))
 exact ⟨r3,r4,rfl,h⟩
def m_F2 (p1:Option Addr) (n1:Int) (w0:World) (K:WP):Prop :=
 ∃a1:Addr,p1=some a1 ∧
 ∃v1:Sl,w0.cell? a1=some v1.v ∧
 ∃s1:Sl,(Instr.sliceAt 41 v1.v none (some (vi n1)) none).run Tryz.prog w0=.ok s1.v w0 ∧
 ∃a2:Addr,p1=some a2 ∧
 CanW w0 a2∧∀w1:World,w1=w0.setCell a2 s1.v →
 ∃a3:Addr,p1=some a3 ∧
 ∃v2:Sl,w1.cell? (a3.add 1)=some v2.v ∧
 ∃s2:Sl,(Instr.sliceAt 42 v2.v none (some (vi n1)) none).run Tryz.prog w1=.ok s2.v w1 ∧
 ∃a4:Addr,p1=some a4 ∧
 CanW w1 (a4.add 1)∧∀w2:World,w2=w1.setCell (a4.add 1) s2.v →
 ∃a5:Addr,p1=some a5 ∧
 ∃v3:Sl,w2.cell? (a5.add 2)=some v3.v ∧
 ∃s3:Sl,(Instr.sliceAt 42 v3.v none (some (vi n1)) none).run Tryz.prog w2=.ok s3.v w2 ∧
 ∃a6:Addr,p1=some a6 ∧
 CanW w2 (a6.add 2)∧∀w3:World,w3=w2.setCell (a6.add 2) s3.v →
 K w3
theorem w_F2 (p1 : Option Addr) (n1 : Int) (w0 : World) (K : WP) (h : m_F2 p1 n1 w0 K) :
  Calls Tryz.prog 149 #[(vp p1),(vi n1)] w0 (fun e w'=>e=.returned (.tuple #[])∧K  w'):=by
 unfold m_F2 at h
 refine cw (args:=[(vp p1),(vi n1)]) Tryz.func149 Tryz.ntmps149 (eg (q0 (vp p1) (q0 (vp p1) ?_)))
 obtain ⟨a1,hp1,h⟩:=h
 refine q2 (vp (some a1)) (x_nilCheck (p:=p1) (by kernel_rfl) hp1) (q0 (vp (some a1)) ?_)
 obtain ⟨v1,hv6,h⟩:=h
 refine q2 v1.v (xl (Tryz.isAgg41 _) hv6) (q0 (vi n1) ?_)
 obtain ⟨s1,hv5,h⟩:=h
 refine q2 s1.v (x_slice (by kernel_rfl) (by kernel_rfl) (by kernel_rfl) (by kernel_rfl) hv5) ?_
 obtain ⟨a2,hp2,h⟩:=h
 refine q2 (vp (some a2)) (x_nilCheck (p:=p1) (by kernel_rfl) hp2) (q0 (vp (some a2)) ?_)
 obtain ⟨hp3,h⟩:=h
 refine st_set (want0 rfl) (x_store (a:=a2) (v:=s1.v) (by kernel_rfl) (by kernel_rfl) rfl (Tryz.sizeOf41 _) hp3) ?_
 intro w1 hn1
 have h:=h w1 hn1
 refine ln (eg (q0 (vp p1) (q0 (vp p1) ?_)))
 obtain ⟨a3,hp4,h⟩:=h
 refine q2 (vp (some a3)) (x_nilCheck (p:=p1) (by kernel_rfl) hp4) (q0 (vp (some (a3.add 1))) ?_)
 obtain ⟨v2,hv4,h⟩:=h
 refine q2 v2.v (xl (Tryz.isAgg42 _) hv4) (q0 (vi n1) ?_)
 obtain ⟨s2,hv3,h⟩:=h
 refine q2 s2.v (x_slice (by kernel_rfl) (by kernel_rfl) (by kernel_rfl) (by kernel_rfl) hv3) ?_
 obtain ⟨a4,hp5,h⟩:=h
 refine q2 (vp (some a4)) (x_nilCheck (p:=p1) (by kernel_rfl) hp5) (q0 (vp (some (a4.add 1))) ?_)
 obtain ⟨hp6,h⟩:=h
 refine st_set (want0 rfl) (x_store (a:=(a4.add 1)) (v:=s2.v) (by kernel_rfl) (by kernel_rfl) rfl (Tryz.sizeOf42 _) hp6) ?_
 intro w2 hn2
 have h:=h w2 hn2
 refine ln (rg (q0 (vp p1) (q0 (vp p1) ?_)))
 obtain ⟨a5,hp7,h⟩:=h
 refine q2 (vp (some a5)) (x_nilCheck (p:=p1) (by kernel_rfl) hp7) (q0 (vp (some (a5.add 2))) ?_)
 obtain ⟨v3,hv2,h⟩:=h
 refine q2 v3.v (xl (Tryz.isAgg42 _) hv2) (q0 (vi n1) ?_)
 obtain ⟨s3,hv1,h⟩:=h
 refine q2 s3.v (x_slice (by kernel_rfl) (by kernel_rfl) (by kernel_rfl) (by kernel_rfl) hv1) ?_
 obtain ⟨a6,hp8,h⟩:=h
 refine q2 (vp (some a6)) (x_nilCheck (p:=p1) (by kernel_rfl) hp8) (q0 (vp (some (a6.add 2))) ?_)
 obtain ⟨hp9,h⟩:=h
 refine st_set (want0 rfl) (x_store (a:=(a6.add 2)) (v:=s3.v) (by kernel_rfl) (by kernel_rfl) rfl (Tryz.sizeOf42 _) hp9) ?_
 intro w3 hn3
 have h:=h w3 hn3
 refine wpL_nil (res0 (.inr rfl) Tryz.results149 ?_)
 exact ⟨rfl,h⟩
def m_G2 (p1:Option Addr) (aI aJ:Int) (aK aL:Int) (aM:ByteArray) (aH:Sl) (w0:World) (K:Int→Int→WP):Prop :=
 ∀(H1:NP) (w1:World),Hst w0 None w0 H1 w1 →
 Calls Tryz.prog 147 #[(.agg #[(vi aI),(vi aJ),(vi aK),(vu aL),(vs aM),aH.v])] w1 (fun e w2=>∃r1:Int,e=.returned (vi r1)∧
  Kept H1 w1 w2 ∧
  Br (r1 != 0)
   (K 0 r1 w2)
   (∃a1:Addr,p1=some a1 ∧
   ∃v1:Sl,w2.cell? a1=some v1.v ∧
   Calls Tryz.prog 148 #[(vp p1),(.agg #[(vi aI),(vi aJ),(vi aK),(vu aL),(vs aM),aH.v])] w2 (fun e w3=>∃r2 r3:Int,e=.returned (.tuple #[(vi r2),(vi r3)])∧
    Kept H1 w2 w3 ∧
    Br (r3 != 0)
     (Calls Tryz.prog 149 #[(vp p1),(vi (v1.len:Int))] w3 (fun e w4=>e=.returned (.tuple #[])∧
      Kept H1 w3 w4 ∧
      K r2 r3 w4))
     (K r2 r3 w3))))
theorem w_G2 (p1 : Option Addr) (aI aJ : Int) (aK aL : Int) (aM : ByteArray) (aH : Sl) (w0 : World) (K : Int → Int → WP) (h : m_G2 p1 aI aJ aK aL aM aH w0 K) :
  Calls Tryz.prog 78 #[(vp p1),(.agg #[(vi aI),(vi aJ),(vi aK),(vu aL),(vs aM),aH.v])] w0 (fun e w'=>∃r4 r5:Int,e=.returned (.tuple #[(vi r4),(vi r5)])∧K r4 r5 w'):=by
 unfold m_G2 at h
 refine cw (args:=[(vp p1),(.agg #[(vi aI),(vi aJ),(vi aK),(vu aL),(vs aM),aH.v])]) Tryz.func78 Tryz.ntmps78 ?_
 have hs:=Hst.start w0
 have hb:=HB.nil None w0
 refine eg (sn (O:=(.cells #[(vi aI),(vi aJ),(vi aK),(vu aL),(vs aM),aH.v] 107)) xb ?_)
 intro p2 w1 hn1
 obtain ⟨H1,hs,hb⟩:=hs.alloc hb hn1
 refine q0 (vi 0) (q0 (vi 0) (ln (eg (q2 (.agg #[(vi aI),(vi aJ),(vi aK),(vu aL),(vs aM),aH.v]) (xa p2 [(vi aI),(vi aJ),(vi aK),(vu aL),(vs aM),aH.v] (Tryz.isAgg107 _) (Tryz.sizeOf107 _) (hb.r0 0 6 gZ)) ?_))))
 have h:=h H1 w1 hs
 have hs:=hs.here
 refine sc Tryz.call147 (h.mono ?_)
 rintro e w2 ⟨r1,rfl,hk,h⟩
 refine ⟨_,rfl,?_⟩
 obtain ⟨hs,hb⟩:=hk.hh hs hb
 refine q0 (vi r1) (ln (wpE_seq (eg (q0 (vi r1) (q0 (vb (r1 != 0)) (ln ?_))))))
 refine wpE_cond (t:=(r1 != 0)) (by kernel_rfl) (fun hc1=>?_) (fun hc1=>?_)
 have h:=h.1 hc1
 refine eg (q0 (vi r1) (q0 (vi 0) (q0 (vi r1) (ln (er (th_r (res2 (.inl rfl) Tryz.results78 (v:=(vi 0)) (by kernel_rfl) (v':=(vi r1)) (by kernel_rfl) ?_)))))))
 exact ⟨0,r1,rfl,h⟩
 have h:=h.2 hc1
 refine wpE_skip (th_n (eg (q0 (vp p1) ?_)))
 obtain ⟨a1,hp1,h⟩:=h
 refine q2 (vp (some a1)) (x_nilCheck (p:=p1) (by kernel_rfl) hp1) (q0 (vp (some a1)) ?_)
 obtain ⟨v1,hv1,h⟩:=h
 refine q2 v1.v (xl (Tryz.isAgg41 _) hv1) (q0 (vi (v1.len:Int)) (q0 (vi (v1.len:Int)) (ln (eg (q0 (vp p1) (q2 (.agg #[(vi aI),(vi aJ),(vi aK),(vu aL),(vs aM),aH.v]) (xa p2 [(vi aI),(vi aJ),(vi aK),(vu aL),(vs aM),aH.v] (Tryz.isAgg107 _) (Tryz.sizeOf107 _) (hb.r0 0 6 gZ)) ?_))))))
 refine sc Tryz.call148 (h.mono ?_)
 rintro e w3 ⟨r2,r3,rfl,hk,h⟩
 refine ⟨_,rfl,?_⟩
 obtain ⟨hs,hb⟩:=hk.hh hs hb
 refine q0 (.tuple #[(vi r2),(vi r3)]) (q0 (vi r2) (q0 (vi r3) (q0 (vi r2) (q0 (vi r3) (ln (wpE_seq (eg (q0 (vi r3) (q0 (vb (r3 != 0)) ?_)))))))))
 refine ln ?_
 refine wpE_cond (t:=(r3 != 0)) (by kernel_rfl) (fun hc2=>?_) (fun hc2=>?_)
 have h:=h.1 hc2
 refine rg (q0 (vp p1) (q0 (vi (v1.len:Int)) ?_))
 refine sc Tryz.call149 (h.mono ?_)
 rintro e w4 ⟨rfl,hk,h⟩
 refine ⟨_,rfl,?_⟩
 obtain ⟨hs,hb⟩:=hk.hh hs hb
 refine ln (eg (q0 (vi r2) (q0 (vi r3) (q0 (vi r2) (q0 (vi r3) (ln (er (res2 (.inl rfl) Tryz.results78 (v:=(vi r2)) (by kernel_rfl) (v':=(vi r3)) (by kernel_rfl) ?_))))))))
 exact ⟨r2,r3,rfl,h⟩
 have h:=h.2 hc2
 refine wpE_skip (th_n (eg (q0 (vi r2) (q0 (vi r3) (q0 (vi r2) (q0 (vi r3) (ln (er (res2 (.inl rfl) Tryz.results78 (v:=(vi r2)) (by kernel_rfl) (v':=(vi r3)) (by kernel_rfl) ?_)))))))))
 exact ⟨r2,r3,rfl,h⟩
end Go.Proofs
end
section
open Go Go.SE
namespace Go.Proofs
attribute [local irreducible] Calls
theorem kind_cases (k:Int):(k=1∨k=2∨k=3∨k=4∨k=5∨k=6∨k=7∨k=8∨k=9)∨(Sp.shapeOf k=Sp.noShape∧Sp.isKind k=false∧∀m:Int,1≤m→m≤9→(k == m)=false):=by
 by_cases h:k=1∨k=2∨k=3∨k=4∨k=5∨k=6∨k=7∨k=8∨k=9
 ·exact .inl h
 ·right
  refine ⟨?_,?_,fun m h1 h2=>?_⟩
  ·unfold Sp.shapeOf;repeat rw [if_neg (by omega)]
  ·unfold Sp.isKind;apply Bool.eq_false_iff.2;intro h3;simp at h3;omega
  ·rw [beq_eq_false_iff_ne];omega
theorem ref05_kids (k:Int):s_B k=(Sp.shapeOf k).kids:=by
 rcases kind_cases k with h | ⟨h,_,hm⟩
 ·rcases h with rfl | rfl | rfl | rfl | rfl | rfl | rfl | rfl | rfl <;> decide
 ·rw [h];unfold s_B;simp [hm,Sp.noShape]
theorem ref05_named (k:Int):s_C k=(Sp.shapeOf k).frm:=by
 rcases kind_cases k with h | ⟨h,_,hm⟩
 ·rcases h with rfl | rfl | rfl | rfl | rfl | rfl | rfl | rfl | rfl <;> decide
 ·rw [h];unfold s_C;simp [hm,Sp.noShape]
theorem shape_two (k:Int):((k == 8) || (k == 9))=(Sp.shapeOf k).to:=by
 rcases kind_cases k with h | ⟨h,_,hm⟩
 ·rcases h with rfl | rfl | rfl | rfl | rfl | rfl | rfl | rfl | rfl <;> decide
 ·rw [h];simp [hm,Sp.noShape]
theorem shape_num (k:Int):(k == 2)=(Sp.shapeOf k).num:=by
 rcases kind_cases k with h | ⟨h,_,hm⟩
 ·rcases h with rfl | rfl | rfl | rfl | rfl | rfl | rfl | rfl | rfl <;> decide
 ·rw [h];simp [hm,Sp.noShape]
theorem shape_text (k:Int):(k == 3)=(Sp.shapeOf k).text:=by
 rcases kind_cases k with h | ⟨h,_,hm⟩
 ·rcases h with rfl | rfl | rfl | rfl | rfl | rfl | rfl | rfl | rfl <;> decide
 ·rw [h];simp [hm,Sp.noShape]
theorem shape_kind (k:Int):(!(decide (k<1) || decide (k>9)))=Sp.isKind k:=by
 unfold Sp.isKind
 by_cases h1:k<1 <;> by_cases h2:k>9 <;> simp [h1,h2] <;> omega
theorem ite53 (q:Bool):decide ((if q=true then (53:Int) else 0)=0)=!q:=by cases q <;> rfl
def Sp.nodeErr (n:Sp.Node):Int :=
 if Sp.plainErr n≠0 then 53 else if (decide ((Sp.shapeOf n.kind).kids<1) && n.a != 0) || (decide ((Sp.shapeOf n.kind).kids<2) && n.b != 0) then 53 else Sp.fieldsErr (Sp.shapeOf n.kind) n
theorem ref05_plain (n:Sp.Node):s_A1 n.kind n.frm n.to n.num n.text n.a n.b=(decide (Sp.plainErr n=0) && !((decide ((Sp.shapeOf n.kind).kids<1) && n.a != 0) || (decide ((Sp.shapeOf n.kind).kids<2) && n.b != 0))):=by
 obtain ⟨k,f,t,u,x,a,b⟩:=n
 unfold s_A1 Sp.plainErr
 simp only [ref05_kids,ref05_named,shape_two k,shape_num k,shape_text k,shape_kind]
 have hk:=Sp.kids_le k
 generalize Sp.shapeOf k=s at *
 obtain ⟨s1,s2,s3,s4,s5⟩:=s
 generalize Sp.isKind k=i
 have e1:decide (s5≥1)=!decide (s5<1):=by by_cases h:s5<1 <;> simp [h] <;> omega
 have e2:(s5 == 2)=!decide (s5<2):=by
  by_cases h:s5<2
  ·simp [h];omega
  ·simp [h];simp at hk;omega
 simp only [e1,e2,bne,ite53]
 generalize (f == 0)=c1;generalize (t == 0)=c2;generalize (u == 0)=c3;generalize decide (x=⟨#[]⟩)=c4;generalize (a == 0)=c5;generalize (b == 0)=c6;generalize decide (s5<1)=c7;generalize decide (s5<2)=c8
 cases i <;> cases s1 <;> cases s2 <;> cases s3 <;> cases s4 <;> cases c1 <;> cases c2 <;> cases c3 <;> cases c4 <;> simp
theorem ref05_shape (n:Sp.Node):s_G n.kind n.frm n.to n.num n.text n.a n.b=Sp.nodeErr n:=by
 unfold s_G Sp.nodeErr
 rw [ref05_plain,ref05_named,shape_two]
 by_cases h1:Sp.plainErr n=0
 ·by_cases h2:((decide ((Sp.shapeOf n.kind).kids<1) && n.a != 0) || (decide ((Sp.shapeOf n.kind).kids<2) && n.b != 0))=true
  ·rw [h2];simp [h1]
  ·have h2:((decide ((Sp.shapeOf n.kind).kids<1) && n.a != 0) || (decide ((Sp.shapeOf n.kind).kids<2) && n.b != 0))=false:=by simpa using h2
   rw [h2]
   simp only [h1,ne_eq,not_true_eq_false,if_false,Bool.false_eq_true,decide_true,Bool.not_false,Bool.and_true,Bool.not_true,cond_false]
   unfold Sp.fieldsErr Sp.isName
   have e1:(decide (n.frm≥0) && decide (n.frm<16))=(decide (0≤n.frm) && decide (n.frm<16)):=rfl
   have e2:(decide (n.to≥0) && decide (n.to<16))=(decide (0≤n.to) && decide (n.to<16)):=rfl
   have e3:(n.frm == n.to)=(n.to == n.frm):=by rw [Bool.eq_iff_iff];simp only [beq_iff_eq];exact eq_comm
   rw [e1,e2,e3]
   have e4:decide (((n.text.size:Int))>64)=decide (n.text.size>64):=decide_eq_decide.2 (by omega)
   rw [e4]
   generalize ((Sp.shapeOf n.kind).frm && !(decide (0≤n.frm) && decide (n.frm<16)) || (Sp.shapeOf n.kind).to && (!(decide (0≤n.to) && decide (n.to<16)) || n.to == n.frm))=c
   cases c
   ·by_cases h:n.text.size>64 <;> simp [h]
   ·rfl
 ·simp [h1]
end Go.Proofs
end
