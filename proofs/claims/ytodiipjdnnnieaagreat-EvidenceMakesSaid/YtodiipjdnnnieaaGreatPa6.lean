import Derived.Test.YtodiipjdnnnieaaGreatPa5
import Derived.Test.YtodiipjdnnnieaaGreatPa3
import Derived.Test.YtodiipjdnnnieaaGreatPa0
import Derived.Test.YtodiipjdnnnieaaGreatPa4
import Derived.Test.YtodiipjdnnnieaaGreatProg
import Derived.KernelRfl
section
open Go Go.SE
namespace Go.Proofs
open Tryz
attribute [local irreducible] Calls
def wayv (p:Int×Int):Value:=.agg #[.int .i64 p.1,.int .i64 p.2]
def jPR (S:List Sp.Way):List (Int×(Int×Int)):=S.map fun v=>(v.t,(v.rule,v.frm))
theorem jDD (S:List Sp.Way):(jPR S).map Prod.fst=Sp.zZ S:=by simp [jPR,Sp.zZ]
theorem jLO (S:List Sp.Way) (v:Sp.Way):jPR (S++[v])=jPR S++[(v.t,(v.rule,v.frm))]:=by simp [jPR]
structure KnowS (w:World) (k p:Addr) (G:List Int) (S:List Sp.Way) (ks:List Int) (sg:Sl) (m:Nat) (sl:Sl):Prop where
 box:Box w k [.pointer (some p),sg.v,.map (some m),sl.v] 212
 giv:Rws w 78 1 sg (tmr G)
 seen:IMap wayv w m (jPR S)
 list:Rws w 78 1 sl (tmr ks)
 n1:m≠k.block
 n2:¬ sg.blk k.block
 n3:¬ sl.blk k.block
 n4:¬ sg.blk m
 n5:¬ sl.blk m
 n6:∀b,sg.blk b→¬ sl.blk b
def KF (k:Addr) (sg:Sl) (m:Nat) (sl:Sl) (b:Nat):Prop:=b=k.block∨sg.blk b∨b=m∨sl.blk b
def qR (w:World) (k p:Addr) (G:List Int) (S:List Sp.Way) (F:NP):Prop:=∃sg m sl,KnowS w k p G S (Sp.zZ S) sg m sl∧∀b,F b↔KF k sg m sl b
section
variable {w w':World} {k p:Addr} {G:List Int} {S:List Sp.Way} {ks:List Int} {sg sl:Sl} {m:Nat} {F:NP}
theorem KnowS.ext {X:NP} (h:KnowS w k p G S ks sg m sl) (hE:Ext X w w') (hd:∀b,KF k sg m sl b→¬ X b):KnowS w' k p G S ks sg m sl :=
 ⟨h.box.ext hE (hd _ (.inl rfl)),h.giv.ext hE (fun b hb=>hd _ (.inr (.inl hb))),h.seen.ext hE (hd _ (.inr (.inr (.inl rfl)))),h.list.ext hE (fun b hb=>hd _ (.inr (.inr (.inr hb)))),h.n1,h.n2,h.n3,h.n4,h.n5,h.n6⟩
theorem KnowS.pure (h:KnowS w k p G S ks sg m sl) (hE:Pure w w'):KnowS w' k p G S ks sg m sl:=h.ext hE (fun _ _ h=>h)
theorem KnowS.lt (h:KnowS w k p G S ks sg m sl) {b:Nat} (hb:KF k sg m sl b):b<w.heap.size:=by
 rcases hb with rfl | hb | rfl | hb
 ·exact h.box.lt
 ·exact h.giv.lt hb
 ·exact h.seen.lt
 ·exact h.list.lt hb
theorem qR.ext {X:NP} (h:qR w k p G S F) (hE:Ext X w w') (hd:∀b,F b→¬ X b):qR w' k p G S F:=by
 obtain ⟨sg,m,sl,h,hF⟩:=h;exact ⟨sg,m,sl,h.ext hE (fun b hb=>hd b ((hF b).2 hb)),hF⟩
theorem qR.pure (h:qR w k p G S F) (hE:Pure w w'):qR w' k p G S F:=h.ext hE (fun _ _ h=>h)
theorem qR.lt (h:qR w k p G S F) {b:Nat} (hb:F b):b<w.heap.size:=by
 obtain ⟨sg,m,sl,h,hF⟩:=h;exact h.lt ((hF b).1 hb)
theorem KnowS.look (h:KnowS w k p G S ks sg m sl) (t:Int):∃r f:Int,(Instr.lookup 210 (.map (some m)) (.int .i64 t) true).run prog w=.ok (.tuple #[.agg #[.int .i64 r,.int .i64 f],.bool (decide (t∈Sp.zZ S))]) w∧(t∈Sp.zZ S→SE.look (jPR S) t=some (r,f)):=by
 rcases h.seen.get (P:=prog) (T:=210) underlying210 underlying78 (zeroValue235 _) t true with ⟨h1,h2⟩ | ⟨⟨r,f⟩,h1,h2⟩
 ·have hn:t ∉ Sp.zZ S:=by have:=jBM.1 h1;rwa [jDD] at this
  exact ⟨0,0,by rw [decide_eq_false hn];exact h2,fun h=>absurd h hn⟩
 ·have hy : t ∈ Sp.zZ S := by
   have:=jFZ h1;rw [← jDD];exact List.mem_map.2 ⟨_,this,rfl⟩
  exact ⟨r,f,by rw [decide_eq_true hy];exact h2,fun _=>h1⟩
theorem KnowS.put (h:KnowS w k p G S ks sg m sl) {v:Sp.Way} (hn:v.t ∉ Sp.zZ S):∃w',(Instr.mapUpdate 210 (.map (some m)) (.int .i64 v.t) (.agg #[.int .i64 v.rule,.int .i64 v.frm])).run prog w=.ok () w'∧KnowS w' k p G (S++[v]) ks sg m sl∧Ext (·=m) w w':=by
 obtain ⟨w',h1,h2,h3⟩:=h.seen.put (P:=prog) (T:=210) (K:=78) underlying210 underlying78 (k:=v.t) (jBM.2 (by rw [jDD];exact hn)) (v.rule,v.frm);exact ⟨w',h1,⟨h.box.ext h3 (fun e=>h.n1 e.symm),h.giv.ext h3 (fun b hb e=>h.n4 (e▸hb)),by rw [jLO];exact h2,h.list.ext h3 (fun b hb e=>h.n5 (e▸hb)),h.n1,h.n2,h.n3,h.n4,h.n5,h.n6⟩,h3⟩
theorem KnowS.app (h:KnowS w k p G S ks sg m sl) {t:Int} {q:Addr} {w1:World} (hq:New w (.cells #[.int .i64 t] 78) q w1) (hn:ks.length≤1000000):∃s1 w2,(Builtin.append_ #[46,46] 46 #[sl.v,(Sl.mk (some q) 1 1).v]).run prog w1=.ok s1.v w2∧Ext sl.blk w1 w2∧Box w2 k [.pointer (some p),sg.v,.map (some m),sl.v] 212 ∧
  KnowS (w2.setCell (k.add 3) s1.v) k p G S (ks++[t]) sg m s1∧Ext (KF k sg m sl) w (w2.setCell (k.add 3) s1.v)∧∀b,KF k sg m s1 b→KF k sg m sl b∨w.heap.size≤b:=by
 have E1:Pure w w1:=Ext.new hq
 have h1:=h.pure E1
 obtain ⟨s1,w2,hr,hR,hE,hb⟩:=h1.list.append (P:=prog) (ty:=46) (c:=1) jLZ (r:=[.int .i64 t]) (Box.of_new hq).row rfl rfl (by rw [yW];omega) (by rw [yW];simp [maxLen];omega)
 have hbx:=h1.box.ext hE h1.n3
 have hs1:∀b,s1.blk b→sl.blk b∨w.heap.size≤b:=fun b h=>(hb b h).imp_right (fun h=>by have:=E1.size;omega)
 have nk:¬ s1.blk k.block:=fun hh=>(hs1 _ hh).elim h.n3 (fun hh=>by have:=h.box.lt;omega)
 have nm:¬ s1.blk m:=fun hh=>(hs1 _ hh).elim h.n5 (fun hh=>by have:=h.seen.lt;omega)
 have E3:=Ext.setCell (w:=w2) (k.add 3) s1.v
 rw [zW] at E3
 refine ⟨s1,w2,hr,hE,hbx,⟨hbx.set 3 s1.v,((h1.giv.ext hE h.n6).ext E3 (fun b hb e=>h.n2 (e▸hb))),((h1.seen.ext hE h.n5).ext E3 h.n1),by rw [show tmr (ks++[t])=tmr ks++[[.int .i64 t]] by simp [tmr]];exact hR.ext E3 (fun b hb e=>nk (e▸hb)),h.n1,h.n2,nk,h.n4,nm,fun b h1 h2=>(hs1 b h2).elim (h.n6 b h1) (fun hh=>by have:=h.giv.lt h1;omega)⟩,?_,?_⟩
 ·exact ((E1.pure (F:=KF k sg m sl)).trans (hE.mono (fun b _ hb=>.inr (.inr (.inr hb))))).trans (E3.mono (fun b _ hb=>.inl hb))
 ·rintro b (hb | hb | hb | hb)
  ·exact .inl (.inl hb)
  ·exact .inl (.inr (.inl hb))
  ·exact .inl (.inr (.inr (.inl hb)))
  ·exact (hs1 b hb).imp_left (fun h=>.inr (.inr (.inr h)))
end
theorem jNH (p:Addr) (w0:World):Calls prog 62 #[.pointer (some p)] w0 (fun e w'=>∃r:Option Addr,e=.returned (.pointer r)∧∃k F,r=some k∧qR w' k p [] [] F∧Pure w0 w'∧∀b,F b→w0.heap.size≤b):=by
 refine w_Y3 _ w0 (fun r w'=>∃k F,r=some k∧qR w' k p [] [] F∧Pure w0 w'∧∀b,F b→w0.heap.size≤b) ?_;unfold m_Y3;refine Br.f rfl ?_;intro p2 w1 h1 p3 w2 h2;have E1:Pure w0 w1:=Ext.new h1;have E2:Pure w1 w2:=Ext.new h2;have hnil:∀b,¬ Sl.nil.blk b:=fun b hb=>by obtain ⟨a,h,_⟩:=hb;cases h
 refine ⟨p3,_,rfl,⟨Sl.nil,p2.block,Sl.nil,⟨Box.of_new h2,Rws.nil _ _ _,(IMap.of_new (f:=wayv) h1).pure E2,Rws.nil _ _ _,?_,hnil _,hnil _,hnil _,hnil _,fun b hb=>(hnil b hb).elim⟩,fun b=>Iff.rfl⟩,E1.trans E2,?_⟩
 ·have:=h1.at_size;have:=h2.at_size;have:=E1.size;have:=(IMap.of_new (f:=wayv) h1).lt;omega
 ·rintro b (rfl | hb | rfl | hb)
  ·have:=h2.at_size;have:=E1.size;omega
  ·exact (hnil b hb).elim
  ·have:=h1.at_size;omega
  ·exact (hnil b hb).elim
theorem jJP.at' {P:Program} {gf:FuncId} {lb:Array Value} {α:Type} {encs:α→Array Value} {xs:List α} {Rd:WP} {w w1:World} (h:jJP P gf lb encs xs Rd w) (E:Pure w w1):jJP P gf lb encs xs Rd w1 :=
 fun l J Jx W hW=>h l J Jx W (E.trans hW)
theorem jMQ {S:NP} {pc:Addr} {s:Sl} {xs:List Int} {w0:World} (hB:Box w0 pc [s.v] 46) (hn:xs.length≤1000000) :
  jJP prog 208 #[.pointer (some pc)] (fun z:Int=>#[.int .i64 z]) xs (fun A=>Lst S A 1 s (tmr xs)) w0:=by
 intro l J Jx W E hRd hJ hJx hyield h0
 refine (w_S1 (.func (.yield l) #[] #[]) pc W (fun A=>∃X,Hst W X A X A∧(J xs X A∨∃pre,Jx pre X A)) ?_).mono (fun e A h=>⟨⟨_,h.1⟩,h.2⟩)
 unfold m_S1
 refine ⟨s,(hB.pure E).cell0,fun x A=>∃j:Nat,x=j∧j≤xs.length∧Hst W None A None A∧J (xs.take j) None A,fun x _=>((xs.length:Int) - x).toNat,⟨0,rfl,Nat.zero_le _,Hst.start W,h0⟩,?_⟩
 rintro _ A ⟨j,rfl,hj,hA,hJA⟩
 unfold m_S1_l1
 have hR:=hRd _ _ _ hJA
 have hlen:s.len=xs.length:=by rw [hR.len,yW]
 refine ⟨fun hc=>?_,fun hc=>?_⟩
 ·have hc:=qI hlen hc
  obtain ⟨a,hat,_,hv⟩:=jDH hR hc
  refine ⟨a,hat,_,hv,l,rfl,?_⟩
  refine (hyield (xs.take j) xs[j] _ A hJA hA ⟨xs.drop (j+1),by rw [← List.drop_eq_getElem_cons hc,List.take_append_drop]⟩).mono ?_
  rintro e A' (⟨rfl,hk,hJ'⟩ | ⟨rfl,hk,hJ'⟩)
  ·refine ⟨_,rfl,Br.f rfl ⟨⟨j+1,vM hc (by omega),hc,hA.again hk,by rw [List.take_succ_eq_append_getElem hc];exact hJ'⟩,?_⟩⟩
   rw [vM hc (by omega)]
   exact uA hc
  ·exact ⟨_,rfl,Br.t rfl ⟨_,hA.again hk,.inr ⟨_,hJ'⟩⟩⟩
 ·have hc:=qK hlen hj hc
  subst hc
  rw [List.take_length] at hJA
  exact ⟨_,hA,.inl hJA⟩
theorem jJN {S:NP} {pc:Addr} {s:Sl} {xs:List Int} (w0:World) (hB:Box w0 pc [s.v] 46) (hL:Lst S w0 1 s (tmr xs)) (hS:∀b,S b→b<w0.heap.size) (hn:xs.length≤1000000) :
  Calls prog 283 #[Sl.nil.v,.func (.func 208) #[] #[.pointer (some pc)]] w0 (fun e w'=>∃r:Sl,e=.returned r.v∧RetO w0 78 1 (tmr xs) r w'):=by
 refine w_X3 _ _ w0 (fun r w'=>RetO w0 78 1 (tmr xs) r w') ?_
 unfold m_X3
 have hnil:∀b,¬ Sl.nil.blk b:=fun b hb=>by obtain ⟨a,h,_⟩:=hb;cases h
 intro p1 w1 h1
 have E1:Pure w0 w1:=Ext.new h1
 have s1:=h1.at_size
 have B1:=Box.of_new h1
 have l1:=B1.lt
 refine ⟨_,_,rfl,call208,xs,_,jJP.at' (jMQ (S:=S) hB hn) E1,?_⟩
 refine ⟨fun pre Y A=>∃so:Sl,Box A p1 [so.v] 46∧Rws A 78 1 so (tmr pre)∧Lst S A 1 s (tmr xs)∧Pure w0 A∧(∀b,so.blk b→w1.heap.size≤b∧¬ Y b)∧¬ Y p1.block∧w1.heap.size≤A.heap.size,⟨?_,?_,fun _ _ _ _ _ h=>h.elim,fun _ _ _ _ _ h=>h.elim⟩,?_,?_,?_⟩
 ·rintro pre Y A ⟨so,_,_,h,_⟩;exact h
 ·rintro pre Y A Y' A' ⟨so,b1,hR,hl,hE,ho,hp,hz⟩ hs
  have d1:¬ Y' p1.block:=hs.disj (G:=(·=p1.block)) (fun b e=>by subst e;exact ⟨b1.lt,hp⟩) _ rfl
  have d2:∀b,so.blk b→¬ Y' b:=hs.disj (G:=so.blk) (fun b hb=>⟨hR.lt hb,(ho b hb).2⟩)
  exact ⟨so,b1.ext hs.ext d1,hR.ext hs.ext d2,hl.hst hs hS,hE.hst hs,fun b hb=>⟨(ho b hb).1,d2 b hb⟩,d1,Nat.le_trans hz hs.ext.size⟩
 ·exact ⟨Sl.nil,B1,Rws.nil _ _ _,hL.pure E1,E1,fun b hb=>(hnil b hb).elim,id,Nat.le_refl _⟩
 ·rintro pre z Y A ⟨so,b1,hR,hl,hE,ho,hp,hz⟩ hsA ⟨post,hpost⟩
  have hpl:pre.length<xs.length:=by rw [hpost];simp
  refine ⟨so,b1.cell0,?_⟩
  intro p2 w2 h2
  have E2:Pure A w2:=Ext.new h2
  obtain ⟨s2,w3,hr3,R3,X3,f3⟩:=(hR.pure E2).append (P:=prog) (ty:=46) (c:=1) jLZ (r:=[.int .i64 z]) (Box.of_new h2).row rfl rfl (by rw [yW];omega) (by rw [yW];simp [maxLen];omega)
  have d1:¬ so.blk p1.block:=fun hb=>by have:=(ho _ hb).1;omega
  have b3:=(b1.pure E2).ext X3 d1
  have z2:=E2.size;have z3:=X3.size
  have hk3:Kept None w2 w3:=X3.kept (fun b hb=>hb.elim)
  refine ⟨s2,w3,hr3,hk3,b3.canW0 (by simp),id,fun w4 h4=>?_⟩
  have E4:Ext (·=p1.block) w3 w4:=by rw [h4];exact Ext.setCell p1 _
  have b4:Box w4 p1 [s2.v] 46:=by rw [h4];exact b3.set0
  have o2:∀b,s2.blk b→w1.heap.size≤b:=fun b hb=>(f3 b hb).elim (fun h=>(ho b h).1) (fun h=>by omega)
  have hYlt:=hsA.lt
  have XX:Ext (fun b=>so.blk b∨b=p1.block) A w4:=((E2.pure).trans (X3.mono (fun b _ h=>.inl h))).trans (E4.mono (fun b _ h=>.inr h))
  refine ⟨XX.kept (fun b hY hb=>hb.elim (fun h=>(ho b h).2 hY) (fun h=>hp (h▸hY))),s2,b4,?_,?_,?_,fun b hb=>⟨o2 b hb,fun hY=>(f3 b hb).elim (fun h=>(ho b h).2 hY) (fun h=>by have:=hYlt b hY;omega)⟩,hp,by have:=E4.size;omega⟩
  ·rw [show tmr (pre++[z])=tmr pre++[[.int .i64 z]] by simp [tmr]]
   exact R3.ext E4 (fun b hb e=>by have:=o2 b hb;omega)
  ·exact hl.ext XX (fun b hb h=>by have:=hS b hb;rcases h with h | h;(· have:=(ho b h).1;have:=E1.size;omega);(· omega))
  ·exact hE.trans' XX (fun i hi hb=>by rcases hb with h | h;(· have:=(ho i h).1;have:=E1.size;omega);(· omega))
 ·rintro H1 w5 hs5 _ _ ⟨so,b1,hR,hl,hE,ho,hp,hz⟩
  refine ⟨so,b1.cell0,fun w6 hs6=>⟨hR.ext hs6.ext (hs6.disj (G:=so.blk) (fun b hb=>⟨hR.lt hb,(ho b hb).2⟩)),fun b hb=>by have:=(ho b hb).1;have:=E1.size;omega,hE.hst hs6⟩⟩
theorem jNJ {S:NP} {pc:Addr} {s:Sl} {xs:List Int} (w0:World) (hB:Box w0 pc [s.v] 46) (hL:Lst S w0 1 s (tmr xs)) (hS:∀b,S b→b<w0.heap.size) (hn:xs.length≤1000000) :
  Calls prog 152 #[.func (.func 208) #[] #[.pointer (some pc)]] w0 (fun e w'=>∃r:Sl,e=.returned r.v∧∃l,RetO w0 78 1 (tmr l) r w'∧l.Perm xs∧l.Pairwise (·≤·)):=by
 refine w_V3 _ w0 (fun r w'=>∃l,RetO w0 78 1 (tmr l) r w'∧l.Perm xs∧l.Pairwise (·≤·)) ?_
 unfold m_V3
 refine (w_U3 _ w0 (fun r w'=>RetO w0 78 1 (tmr xs) r w') ?_).mono ?_
 ·unfold m_U3
  refine (jJN w0 hB hL hS hn).mono ?_
  rintro _ w1 ⟨r,rfl,hr⟩
  exact ⟨r,rfl,hr⟩
 ·rintro _ w1 ⟨r,rfl,hr⟩
  refine ⟨r,rfl,?_⟩
  refine (c_Sort r xs w1 hr.rows hn).mono ?_
  rintro _ w2 ⟨rfl,l,hl,hx,hp,hs⟩
  exact ⟨rfl,l,⟨hl,hr.own,hr.pure.trans' hx (fun i hi hb=>by have:=hr.own i hb;omega)⟩,hp,hs⟩
theorem jLF (k p:Addr) (w0:World) {G:List Int} {W:List Sp.Way} {F:NP} (h:qR w0 k p G W F) (hn:(Sp.zZ W).length≤1000000) :
  Calls prog 80 #[.pointer (some k)] w0 (fun e w'=>∃r:Sl,e=.returned r.v∧∃l,RetO w0 78 1 (tmr l) r w'∧l.Perm (Sp.zZ W)∧l.Pairwise (·≤·)):=by
 refine w_Z3 _ w0 (fun r w'=>∃l,RetO w0 78 1 (tmr l) r w'∧l.Perm (Sp.zZ W)∧l.Pairwise (·≤·)) ?_
 unfold m_Z3
 obtain ⟨sg,m,sl,h,hF⟩:=h
 refine Br.f rfl ⟨k,rfl,sl,h.box.cell rfl,?_⟩
 refine (w_W3 sl w0 (fun r w'=>∃p1,r=.func (.func 208) #[] #[.pointer (some p1)]∧Box w' p1 [sl.v] 46∧Pure w0 w') ?_).mono ?_
 ·unfold m_W3
  intro p1 w1 h1
  exact ⟨p1,rfl,Box.of_new h1,Ext.new h1⟩
 ·rintro _ w1 ⟨r,rfl,p1,rfl,B1,E1⟩
  refine ⟨_,rfl,?_⟩
  refine (jNJ (S:=sl.blk) w1 B1 (h.list.pure E1).lst (fun b hb=>(h.list.pure E1).lt hb) hn).mono ?_
  rintro _ w2 ⟨r2,rfl,l,hl,hp,hs⟩
  exact ⟨r2,rfl,l,⟨hl.rows,fun b hb=>by have:=hl.own b hb;have:=E1.size;omega,E1.trans hl.pure⟩,hp,hs⟩
section
variable {w w':World} {k p:Addr} {G:List Int} {S:List Sp.Way} {F:NP}
theorem qR.hst {w0:World} {H H':NP} (h:qR w k p G S F) (hs:Hst w0 H w H' w') (hd:∀b,F b→¬ H b):qR w' k p G S F∧∀b,F b→¬ H' b:=by
 have hd':=hs.disj (G:=F) (fun b hb=>⟨h.lt hb,hd b hb⟩);exact ⟨h.ext hs.ext hd',hd'⟩
end
theorem jAX (k p:Addr) (t rule u:Int) (c1 c2:Addr) (w0:World) {G:List Int} {S:List Sp.Way} {F:NP} (h:qR w0 k p G S F) (h1:w0.cell? c1=some (.pointer (some k))) (h2:w0.cell? c2=some (.int .i64 u)) (d1:¬ F c1.block) (d2:¬ F c2.block) (hn:S.length≤1000000) :
  Calls prog 205 #[.int .i64 t,.int .i64 rule,.pointer (some c1),.pointer (some c2)] w0 (fun e w'=>e=.returned (.tuple #[])∧∃F',qR w' k p G (Sp.tP S ⟨t,rule,u⟩) F'∧Ext F w0 w'∧∀b,F' b→F b∨w0.heap.size≤b):=by
 refine w_A4 _ _ _ _ w0 (fun w'=>∃F',qR w' k p G (Sp.tP S ⟨t,rule,u⟩) F'∧Ext F w0 w'∧∀b,F' b→F b∨w0.heap.size≤b) ?_
 unfold m_A4
 have hA:=h
 obtain ⟨sg,m,sl,h,hF⟩:=h
 obtain ⟨r,f,hl,_⟩:=h.look t
 refine ⟨_,h1,k,rfl,_,h.box.cell rfl,r,f,_,hl,fun hc=>?_,fun hc=>?_⟩
 ·have hnt:t ∉ Sp.zZ S:=by simpa using hc
  have hadd:Sp.tP S ⟨t,rule,u⟩=S++[⟨t,rule,u⟩]:=if_neg hnt
  rw [hadd]
  intro H1 w2 hs2
  have E2:=hs2.first
  have hh:∀{b},b<w0.heap.size→¬ H1 b:=fun hb hx=>by have:=hs2.old _ hx;omega
  have E3:Pure w0 w2.drew:=E2.trans (Ext.drew w2)
  have D4:∀w4:World,Pure w4 w4.drew:=fun w4=>Ext.drew w4
  have c1lt:=World.block_lt_of_cell? w0 c1 h1
  refine ⟨fun w'=>KnowS w' k p G S (Sp.zZ S) sg m sl∧w'.cell? c1=some (.pointer (some k))∧w'.cell? c2=some (.int .i64 u),⟨h.pure E3,E3.cell h1 (fun h=>h),E3.cell h2 (fun h=>h)⟩,?_⟩
  rintro _ rfl
  have h3:=h.pure E3
  refine ⟨_,fun w' h=>h.2.1,k,rfl,_,fun w' h=>h.1.box.cell rfl,_,fun w' h=>h.2.2,?_⟩
  obtain ⟨w4,hr4,h4,E4⟩:=h3.put (v:=⟨t,rule,u⟩) hnt
  refine ⟨w4,hr4,E4.kept (fun b hb e=>by subst e;exact hh (h.lt (.inr (.inr (.inl rfl)))) hb),?_⟩
  have c14:w4.cell? c1=some (.pointer (some k)):=E4.cell (E3.cell h1 (fun h=>h)) (fun e=>d1 ((hF _).2 (.inr (.inr (.inl e)))))
  have h5:=h4.pure (Ext.drew w4)
  refine ⟨fun w'=>w'.cell? c1=some (.pointer (some k))∧Box w' k [.pointer (some p),sg.v,.map (some m),sl.v] 212,⟨(D4 w4).cell c14 (fun h=>h),h5.box⟩,?_⟩
  rintro _ rfl
  refine ⟨_,fun w' h=>h.1,_,fun w' h=>h.1,k,rfl,sl,fun w' h=>h.2.cell rfl,?_⟩
  intro q w6 h6
  have E6:Pure w4.drew w6:=Ext.new h6
  refine ⟨⟨E6.cell ((D4 w4).cell c14 (fun h=>h)) (fun h=>h),h5.box.pure E6⟩,?_⟩
  obtain ⟨s1,w7,hr7,X7,b7,k7,E7,f7⟩:=h5.app h6 (by rw [Sp.uH];exact hn)
  have c17:w7.cell? c1=some (.pointer (some k)):=X7.cell (E6.cell ((D4 w4).cell c14 (fun h=>h)) (fun h=>h)) (fun hb=>d1 ((hF _).2 (.inr (.inr (.inr hb)))))
  refine ⟨s1,w7,hr7,⟨c17,b7⟩,X7.kept (fun b hb hx=>hh (h.lt (.inr (.inr (.inr hx)))) hb),k,rfl,b7.canW (by simp),by rw [zW];exact hh h.box.lt,?_⟩
  rintro _ rfl
  rw [← show Sp.zZ (S++[⟨t,rule,u⟩])=Sp.zZ S++[t] from Sp.uV S ⟨t,rule,u⟩] at k7
  have e4:w0.heap.size≤w4.drew.heap.size:=Nat.le_trans E3.size (Nat.le_trans E4.size (D4 w4).size)
  refine ⟨_,⟨sg,m,s1,k7,fun b=>Iff.rfl⟩,?_,fun b hb=>(f7 b hb).imp (hF b).2 (fun h=>by omega)⟩
  refine ((E3.pure (F:=F)).trans (E4.mono (fun b _ e=>(hF b).2 (.inr (.inr (.inl e)))))).trans (((Ext.drew w4:Pure w4 w4.drew).pure (F:=F)).trans (E7.mono (fun b _ hb=>(hF b).2 hb)))
 ·have hnt:t∈Sp.zZ S:=by simpa using hc
  have hadd:Sp.tP S ⟨t,rule,u⟩=S:=if_pos hnt
  rw [hadd]
  intro H1 w2 hs2
  exact ⟨F,hA.pure hs2.first,hs2.first.pure,fun b hb=>.inl hb⟩
structure SeesAt (w0:World) (H:NP) (w:World) (k p p1:Addr) (L:Sp.Pool) (G:List Int) (S:List Sp.Way) (F F0 FP:NP):Prop where
 know:qR w k p G S F
 pool:vD w p L FP
 cap:w.cell? p1=some (.pointer (some k))
 ext:Ext F0 w0 w
 own:∀b,F b→F0 b∨w0.heap.size≤b
 h1:∀b,F b→¬ H b
 h2:∀b,FP b→¬ H b
 h3:¬ H p1.block
 d1:¬ F p1.block
 d2:∀b,F b→¬ FP b
section
variable {w0 w w':World} {H H':NP} {k p p1:Addr} {L:Sp.Pool} {G:List Int} {S S':List Sp.Way} {F F' F0 FP:NP}
theorem SeesAt.pure (h:SeesAt w0 H w k p p1 L G S F F0 FP) (E:Pure w w'):SeesAt w0 H w' k p p1 L G S F F0 FP :=
 ⟨h.know.pure E,h.pool.pure E,E.cell h.cap (fun h=>h),h.ext.thenPure E,h.own,h.h1,h.h2,h.h3,h.d1,h.d2⟩
theorem SeesAt.hst (h:SeesAt w0 H w k p p1 L G S F F0 FP) (hs:Hst w0 H w H' w'):SeesAt w0 H' w' k p p1 L G S F F0 FP:=by
 have x1:=hs.disj (G:=F) (fun b hb=>⟨h.know.lt hb,h.h1 b hb⟩);have x2:=hs.disj (G:=FP) (fun b hb=>⟨h.pool.lt hb,h.h2 b hb⟩);have x3:=hs.disj (G:=(·=p1.block)) (fun b hb=>by subst hb;exact ⟨World.block_lt_of_cell? w p1 h.cap,h.h3⟩) _ rfl;exact ⟨h.know.ext hs.ext x1,h.pool.ext hs.ext x2,hs.ext.cell h.cap x3,h.ext.trans' hs.ext (fun i hi hb=>by have:=hs.old i hb;omega),h.own,x1,x2,x3,h.d1,h.d2⟩
theorem SeesAt.fresh (h:SeesAt w0 H w k p p1 L G S F F0 FP) {q:Nat} (E:Ext (·=q) w w') (q1:¬ F q) (q2:¬ FP q) (q3:q≠p1.block) (q4:w0.heap.size≤q):SeesAt w0 H w' k p p1 L G S F F0 FP :=
 ⟨h.know.ext E (fun b hb e=>q1 (e▸hb)),h.pool.ext E (fun b hb e=>q2 (e▸hb)),E.cell h.cap (fun e=>q3 e.symm),h.ext.trans' E (fun i hi e=>by subst e;omega),h.own,h.h1,h.h2,h.h3,h.d1,h.d2⟩
theorem SeesAt.step (h:SeesAt w0 H w k p p1 L G S F F0 FP) (hH:∀b,H b→b<w.heap.size) (hK:qR w' k p G S' F') (E:Ext F w w') (hF:∀b,F' b→F b∨w.heap.size≤b):SeesAt w0 H w' k p p1 L G S' F' F0 FP:=by
 have hb:=h.ext.size;refine ⟨hK,h.pool.ext E (fun b hb hf=>h.d2 b hf hb),E.cell h.cap h.d1,h.ext.trans' E (fun i hi hf=>(h.own i hf).elim id (fun hh=>by omega)),fun b hb=>?_,fun b hb hh=>?_,h.h2,h.h3,fun hh=>?_,fun b hb hh=>?_⟩
 ·rcases hF b hb with h1 | h1
  ·exact h.own b h1
  ·right;omega
 ·rcases hF b hb with h1 | h1
  ·exact h.h1 b h1 hh
  ·have:=hH b hh;omega
 ·rcases hF _ hh with h1 | h1
  ·exact h.d1 h1
  ·have:=World.block_lt_of_cell? w p1 h.cap;omega
 ·rcases hF b hb with h1 | h1
  ·exact h.d2 b h1 hh
  ·have:=h.pool.lt hh;omega
end
theorem jLE (k p:Addr) (t rule frm:Int) (w0:World) {L:Sp.Pool} {G:List Int} {S:List Sp.Way} {F FP:NP} (h:qR w0 k p G S F) (hP:vD w0 p L FP) (hW:Sp.Wf L) (hd:∀b,F b→¬ FP b)
  (hwo:Sp.WaysOk L G S) (hcl:∀u∈Sp.zZ S,Sp.jEJ L S u) (ht:Sp.inP L t=true) (hv:Sp.jJO L G S ⟨t,rule,frm⟩) :
  Calls prog 151 #[.pointer (some k),.int .i64 t,.agg #[.int .i64 rule,.int .i64 frm]] w0 (fun e w'=>e=.returned (.tuple #[])∧∃S' F',qR w' k p G S' F'∧(Sp.WaysOk L G S'∧(∀u∈Sp.zZ S',Sp.jEJ L S' u)∧t∈Sp.zZ S'∧∀u∈Sp.zZ S,u∈Sp.zZ S')∧Ext F w0 w'∧∀b,F' b→F b∨w0.heap.size≤b):=by
 suffices key:∀K:WP,(∀S' F' w',qR w' k p G S' F'→(Sp.WaysOk L G S'∧(∀u∈Sp.zZ S',Sp.jEJ L S' u)∧t∈Sp.zZ S'∧∀u∈Sp.zZ S,u∈Sp.zZ S')→Ext F w0 w'→(∀b,F' b→F b∨w0.heap.size≤b)→K w')→m_Q (some k) t rule frm w0 K from
  w_Q _ _ _ _ w0 _ (key _ (fun S' F' w' a b c d=>⟨S',F',a,b,c,d⟩))
 intro K hK
 unfold m_Q
 intro p1 w1 h1 H1 w2 hs2
 have hp1:=h1.at_size
 have E1:Pure w0 w1:=Ext.new h1
 have nF:∀{b},F b→b<w0.heap.size:=fun hb=>h.lt hb
 have nP:∀{b},FP b→b<w0.heap.size:=fun hb=>hP.lt hb
 have A1:SeesAt w0 None w1 k p p1 L G S F F FP:=⟨h.pure E1,hP.pure E1,(Box.of_new h1).cell0,E1.pure,fun b hb=>.inl hb,fun b _ h=>h,fun b _ h=>h,fun h=>h,fun hb=>by have:=nF hb;omega,hd⟩
 have A2:=A1.hst hs2
 obtain ⟨sg,m,sl,k2,hF2⟩:=A2.know
 obtain ⟨r,f,hl,_⟩:=k2.look t
 refine ⟨_,A2.cap,k,rfl,_,k2.box.cell rfl,r,f,_,hl,fun hc=>?_,fun hc=>?_⟩
 ·intro H2 w4 hs4
  have A4:=A2.hst hs4
  exact hK S F w4 A4.know ⟨hwo,hcl,by simpa using hc,fun _ h=>h⟩ A4.ext (fun b hb=>.inl hb)
 have hnt:t ∉ Sp.zZ S:=by simpa using hc
 intro H2 w4 hs4
 have A4:=A2.hst hs4
 have k4:KnowS w4 k p G S (Sp.zZ S) sg m sl:=k2.ext hs4.ext (fun b hb=>A4.h1 b ((hF2 b).2 hb))
 have D:∀w:World,Pure w w.drew:=fun w=>Ext.drew w
 refine ⟨fun w'=>w'.cell? p1=some (.pointer (some k))∧Box w' k [.pointer (some p),sg.v,.map (some m),sl.v] 212,⟨(A4.pure (D w4)).cap,(k4.pure (D w4)).box⟩,?_⟩
 rintro _ rfl
 have A5:=A4.pure (D w4)
 have k5:=k4.pure (D w4)
 have hs5:Hst w0 H2 w4.drew H2 w4.drew:=hs4.here.again (D w4).keptP
 refine ⟨_,fun w' h=>h.1,k,rfl,_,fun w' h=>h.2.cell rfl,?_⟩
 obtain ⟨w6,hr6,k6,E6⟩:=k5.put (v:=⟨t,rule,frm⟩) hnt
 have hm:¬ H2 m:=A5.h1 m ((hF2 m).2 (.inr (.inr (.inl rfl))))
 refine ⟨w6,hr6,E6.kept (fun b hb e=>hm (e▸hb)),?_⟩
 have c16:w6.cell? p1=some (.pointer (some k)):=E6.cell A5.cap (fun e=>A5.d1 ((hF2 _).2 (.inr (.inr (.inl e)))))
 refine ⟨_,c16,k,rfl,sl,k6.box.cell rfl,?_⟩
 have k7:=k6.pure (D w6)
 have c17:w6.drew.cell? p1=some (.pointer (some k)):=(D w6).cell c16 (fun h=>h)
 refine ⟨fun w'=>w'.cell? p1=some (.pointer (some k))∧Box w' k [.pointer (some p),sg.v,.map (some m),sl.v] 212,⟨c17,k7.box⟩,?_⟩
 rintro _ rfl
 refine ⟨_,fun w' h=>h.1,_,fun w' h=>h.1,k,rfl,sl,fun w' h=>h.2.cell rfl,?_⟩
 intro q w8 h8
 have E8:Pure w6.drew w8:=Ext.new h8
 refine ⟨⟨E8.cell c17 (fun h=>h),k7.box.pure E8⟩,?_⟩
 have hSn:S.length≤65536:=by have:=hwo.few;have:=hW.ok.few;omega
 obtain ⟨s1,w9,hr9,X9,b9,k9,E9,f9⟩:=k7.app h8 (by rw [Sp.uH];omega)
 have c19:w9.cell? p1=some (.pointer (some k)):=X9.cell (E8.cell c17 (fun h=>h)) (fun hb=>A5.d1 ((hF2 _).2 (.inr (.inr (.inr hb)))))
 have hH8:∀b,H2 b→b<w4.drew.heap.size:=hs5.lt
 refine ⟨s1,w9,hr9,⟨c19,b9⟩,X9.kept (fun b hb hx=>A5.h1 b ((hF2 b).2 (.inr (.inr (.inr hx)))) hb),k,rfl,b9.canW (by simp),by rw [zW];exact A5.h1 _ ((hF2 _).2 (.inl rfl)),?_⟩
 rintro _ rfl
 rw [← show Sp.zZ (S++[⟨t,rule,frm⟩])=Sp.zZ S++[t] from Sp.uV S ⟨t,rule,frm⟩] at k9
 have E59:Ext F w4.drew (w9.setCell (k.add 3) s1.v):=(E6.mono (fun b _ e=>(hF2 b).2 (.inr (.inr (.inl e))))).trans (((D w6).pure (F:=F)).trans (E9.mono (fun b _ hb=>(hF2 b).2 hb)))
 have z6:w4.drew.heap.size≤w6.drew.heap.size:=Nat.le_trans E6.size (D w6).size
 have A10:SeesAt w0 H2 (w9.setCell (k.add 3) s1.v) k p p1 L G (S++[⟨t,rule,frm⟩]) (KF k sg m s1) F FP:=A5.step hH8 ⟨sg,m,s1,k9,fun b=>Iff.rfl⟩ E59 (fun b hb=>(f9 b hb).imp (hF2 b).2 (fun h=>by omega))
 have hw1:Sp.WaysOk L G (S++[⟨t,rule,frm⟩]):=hwo.snoc hnt ht hv
 have hl2:sl.len=S.length:=by rw [k2.list.len,yW,Sp.uH]
 refine ⟨fun i H w'=>∃(j:Nat) (Sj:List Sp.Way) (Fj:NP),i=j∧j≤Sj.length∧SeesAt w0 H w' k p p1 L G Sj Fj F FP∧Sp.WaysOk L G Sj∧(∀u∈Sp.zZ (Sj.take j),Sp.jEJ L Sj u)∧t∈Sp.zZ Sj∧∀u∈Sp.zZ S,u∈Sp.zZ Sj,fun i _=>((L.length:Int) - i).toNat,
  ⟨S.length,_,_,by rw [hl2],by simp,A10,hw1,fun u hu=>by rw [List.take_left] at hu;exact (hcl u hu).snoc,by rw [Sp.uV];simp,fun u hu=>by rw [Sp.uV];exact List.mem_append_left _ hu⟩,?_⟩
 rintro _ Hl wl hl ⟨j,Sj,Fj,rfl,hj,A,hwj,hcj,htj,hSj⟩
 unfold m_Q_l1
 obtain ⟨tg,mj,tl,kj,hFj⟩:=A.know
 have hlj:tl.len=Sj.length:=by rw [kj.list.len,yW,Sp.uH]
 refine ⟨_,A.cap,k,rfl,tl,kj.box.cell rfl,fun hc=>?_,fun hc=>?_⟩
 ·have hlt:=qI hlj hc
  obtain ⟨a8,at8,_,c8⟩:=jDH kj.list.lst (j:=j) (by rw [Sp.uH];exact hlt)
  have hu:(Sp.zZ Sj)[j]'(by rw [Sp.uH];exact hlt)=Sj[j].t:=by simp [Sp.zZ]
  rw [hu] at c8
  have hum:Sj[j].t∈Sp.zZ Sj:=List.mem_map.2 ⟨_,List.getElem_mem hlt,rfl⟩
  have hui:=hwj.inp _ hum
  have hLn:Sj.length≤L.length:=hwj.few
  have hL6:=hW.ok.few
  have htk:Sp.zZ (Sj.take (j+1))=Sp.zZ (Sj.take j)++[Sj[j].t]:=by rw [List.take_succ_eq_append_getElem hlt,Sp.uV]
  generalize Sj[j].t=u at *
  refine ⟨_,A.cap,k,rfl,tl,kj.box.cell rfl,a8,at8,u,c8,?_⟩
  intro p5 w11 h11
  have hp5:=h11.at_size
  have E11:Pure wl w11:=Ext.new h11
  have b5:=Box.of_new h11
  have hnh5:¬ Hl p5.block:=fun hh=>by have:=hl.lt _ hh;omega
  refine ⟨b5.canW0 (by simp),hnh5,?_⟩
  rintro _ rfl
  have b12:=b5.set0 (v:=.int .i64 u)
  have E12:=Ext.setCell (w:=w11) p5 (.int .i64 u)
  have wl0:=A.ext.size
  have n5:¬ Fj p5.block:=fun hh=>by have:=A.know.lt hh;omega
  have n5p:¬ FP p5.block:=fun hh=>by have:=A.pool.lt hh;omega
  have n51:p5.block≠p1.block:=fun hh=>by have:=World.block_lt_of_cell? wl p1 A.cap;omega
  have A12:SeesAt w0 Hl (w11.setCell p5 (.int .i64 u)) k p p1 L G Sj Fj F FP:=(A.pure E11).fresh E12 n5 n5p n51 (by omega)
  have k12:KnowS (w11.setCell p5 (.int .i64 u)) k p G Sj (Sp.zZ Sj) tg mj tl:=(kj.pure E11).ext E12 (fun b hb e=>n5 (e▸(hFj b).2 hb))
  have hl12:Hst w0 Hl (w11.setCell p5 (.int .i64 u)) Hl (w11.setCell p5 (.int .i64 u)):=(hl.again E11.keptP).again (E12.kept (fun b hb e=>hnh5 (e▸hb)))
  generalize w11.setCell p5 (.int .i64 u)=w12 at *
  clear E11 E12 h11
  refine ⟨fun w'=>w'.cell? p1=some (.pointer (some k))∧Box w' k [.pointer (some p),tg.v,.map (some mj),tl.v] 212∧Box w' p5 [.int .i64 u] 78,⟨(A12.pure (D w12)).cap,(k12.pure (D w12)).box,b12.pure (D w12)⟩,?_⟩
  rintro _ rfl
  have A17:=A12.pure (D w12)
  have b17:=b12.pure (D w12)
  have k17:=k12.pure (D w12)
  have hs17:Hst w0 Hl w12.drew Hl w12.drew:=hl12.again (D w12).keptP
  generalize hn:Sp.zD L u=n at *
  have J2 : ∀ (a9 : Addr) (w : World), Hst w0 Hl w Hl w → SeesAt w0 Hl w k p p1 L G Sj Fj F FP → w.cell? p5 = some (.int .i64 u) → Row w a9 (jBR n) → ¬ Fj a9.block → ¬ Hl a9.block →
    m_Q_j2 p1 j p5 a9 w0 Hl w (fun y'0 H' w'=>(∃(j:Nat) (Sj:List Sp.Way) (Fj:NP),y'0=j∧j≤Sj.length∧SeesAt w0 H' w' k p p1 L G Sj Fj F FP∧Sp.WaysOk L G Sj∧(∀u∈Sp.zZ (Sj.take j),Sp.jEJ L Sj u)∧t∈Sp.zZ Sj∧∀u∈Sp.zZ S,u∈Sp.zZ Sj)∧((L.length:Int) - y'0).toNat<((L.length:Int) - (j:Int)).toNat) K:=by
   intro a9 w hs Aw c5 r9 n9 nh9
   have fin : ∀ (H' : NP) (w' : World) (S' : List Sp.Way) (F' : NP), SeesAt w0 H' w' k p p1 L G S' F' F FP → Sp.WaysOk L G S' → (∃ M, S' = Sj ++ M) → Sp.jEJ L S' u →
     ((∃(j':Nat) (Sj:List Sp.Way) (Fj:NP),IntKind.i64.wrap ((j:Int)+1)=j'∧j'≤Sj.length∧SeesAt w0 H' w' k p p1 L G Sj Fj F FP∧Sp.WaysOk L G Sj∧(∀u∈Sp.zZ (Sj.take j'),Sp.jEJ L Sj u)∧t∈Sp.zZ Sj∧∀u∈Sp.zZ S,u∈Sp.zZ Sj)∧((L.length:Int) - IntKind.i64.wrap ((j:Int)+1)).toNat<((L.length:Int) - (j:Int)).toNat):=by
    rintro H' w' S' F' A' hw' ⟨M,rfl⟩ hsh
    have hsub:∀x∈Sp.zZ Sj,x∈Sp.zZ (Sj++M):=fun x hx=>by unfold Sp.zZ at hx ⊢;rw [List.map_append];exact List.mem_append_left _ hx
    rw [vM (n:=L.length) (by omega) (by omega)]
    refine ⟨⟨j+1,_,F',rfl,by rw [List.length_append];omega,A',hw',fun x hx=>?_,hsub t htj,fun x hx=>hsub x (hSj x hx)⟩,uA (by omega)⟩
    rw [List.take_append_of_le_length (by omega),htk,List.mem_append,List.mem_singleton] at hx
    rcases hx with hx | rfl
    ·exact fun r y ha=>hsub y (hcj x hx r y ha)
    ·exact hsh
   unfold m_Q_j2
   have ck:w.cell? a9=some (.int .i64 n.kind):=by simpa [Addr.add,jBR] using r9 0 (by simp [jBR])
   have ca:w.cell? (a9.add 5)=some (.int .i64 n.a):=r9 5 (by simp [jBR])
   have cb:w.cell? (a9.add 6)=some (.int .i64 n.b):=r9 6 (by simp [jBR])
   refine ⟨_,ck,fun hk=>?_,fun hk=>?_⟩
   ·have hk4:n.kind=4:=by simpa using hk
    have hkids:=Sp.jPZ hW hui (by rw [hn];exact hk4)
    rw [hn] at hkids
    refine ⟨_,ca,?_⟩
    refine (jAX k p n.a 1 u p1 p5 w Aw.know Aw.cap c5 Aw.d1 (fun hh=>n5 hh) (by omega)).mono ?_
    rintro _ w13 ⟨rfl,F1,K1,X1,f1⟩
    have A1:=Aw.step hs.lt K1 X1 f1
    have hs13:=hs.again (X1.kept (fun b hb hf=>Aw.h1 b hf hb))
    refine ⟨rfl,X1.kept (fun b hb hf=>Aw.h1 b hf hb),n.b,X1.cell cb (by rw [zW];exact n9),?_⟩
    have a1:Sp.xQ L 1 u n.a:=.inl ⟨rfl,by rw [hn];exact hk4,by rw [hn]⟩
    have a2:Sp.xQ L 2 u n.b:=.inr (.inl ⟨rfl,by rw [hn];exact hk4,by rw [hn]⟩)
    have hw1:=hwj.add (v:=⟨n.a,1,u⟩) hkids.1.1 (.inr ⟨by simp,a1,hum⟩)
    have u1:=(Sp.xH Sj ⟨n.a,1,u⟩).2 u hum
    have hw2:=hw1.add (v:=⟨n.b,2,u⟩) hkids.2.1 (.inr ⟨by simp,a2,u1⟩)
    have p5lt:=World.block_lt_of_cell? w p5 c5
    have m5:¬ F1 p5.block:=fun hh=>(f1 _ hh).elim n5 (fun hx=>by omega)
    refine (jAX k p n.b 2 u p1 p5 w13 A1.know A1.cap (X1.cell c5 n5) A1.d1 m5 (by have:=hw1.few;omega)).mono ?_
    rintro _ w14 ⟨rfl,F2,K2,X2,f2⟩
    have A2:=A1.step hs13.lt K2 X2 f2
    refine ⟨rfl,X2.kept (fun b hb hf=>A1.h1 b hf hb),?_⟩
    refine fin Hl w14 _ F2 A2 hw2 ?_ ?_
    ·obtain ⟨M1,e1⟩:=Sp.jAZ Sj ⟨n.a,1,u⟩
     obtain ⟨M2,e2⟩:=Sp.jAZ (Sp.tP Sj ⟨n.a,1,u⟩) ⟨n.b,2,u⟩
     exact ⟨M1++M2,by rw [e2,e1,List.append_assoc]⟩
    ·rintro r y (⟨_,_,h3⟩ | ⟨_,_,h3⟩ | ⟨_,h2,_⟩)
     ·rw [hn] at h3;subst h3
      exact (Sp.xH _ ⟨n.b,2,u⟩).2 _ (Sp.xH Sj ⟨n.a,1,u⟩).1
     ·rw [hn] at h3;subst h3
      exact (Sp.xH _ ⟨n.b,2,u⟩).1
     ·rw [hn,hk4] at h2;cases h2
   ·have hk4:n.kind≠4:=by simpa using hk
    rintro y1 rfl
    have hy:(cond ((n.kind:Int) == 7) ((n.kind:Int) == 7) (cond ((n.kind:Int) == 8) ((n.kind:Int) == 8) ((n.kind:Int) == 9)))=Sp.yF n.kind:=by
     unfold Sp.yF;cases h7:(n.kind == 7) <;> cases h8:(n.kind == 8) <;> simp
    rw [hy]
    refine ⟨fun hs7=>?_,fun hs7=>?_⟩
    ·intro H3 w15 hs15
     have A15:=Aw.hst hs15
     have hkids:=Sp.kids7 hW hui (by rw [hn];exact hs7)
     rw [hn] at hkids
     have r15:=jMB r9 nh9 hs15
     have ca15:w15.cell? (a9.add 5)=some (.int .i64 n.a):=r15 5 (by simp)
     have c515:=jKH c5 hnh5 hs15
     refine ⟨n.a,ca15,?_⟩
     refine (jAX k p n.a 3 u p1 p5 w15 A15.know A15.cap c515 A15.d1 n5 (by omega)).mono ?_
     rintro _ w16 ⟨rfl,F1,K1,X1,f1⟩
     have A1:=A15.step hs15.lt K1 X1 f1
     refine ⟨rfl,X1.kept (fun b hb hf=>A15.h1 b hf hb),?_⟩
     have a3:Sp.xQ L 3 u n.a:=.inr (.inr ⟨rfl,by rw [hn];exact hs7,by rw [hn]⟩)
     refine fin H3 w16 _ F1 A1 (hwj.add (v:=⟨n.a,3,u⟩) hkids.1 (.inr ⟨by simp,a3,hum⟩)) (Sp.jAZ Sj ⟨n.a,3,u⟩) ?_
     rintro r y (⟨_,h2,_⟩ | ⟨_,h2,_⟩ | ⟨_,_,h3⟩)
     ·rw [hn] at h2;exact absurd h2 hk4
     ·rw [hn] at h2;exact absurd h2 hk4
     ·rw [hn] at h3;subst h3
      exact (Sp.xH Sj ⟨n.a,3,u⟩).1
    ·intro H3 w15 hs15
     refine fin H3 w15 Sj Fj (Aw.hst hs15) hwj ⟨[],by simp⟩ ?_
     rintro r y (⟨_,h2,_⟩ | ⟨_,h2,_⟩ | ⟨_,h2,_⟩)
     ·rw [hn] at h2;exact absurd h2 hk4
     ·rw [hn] at h2;exact absurd h2 hk4
     ·rw [hn,hs7] at h2;cases h2
  refine ⟨_,fun w' h=>h.1,k,rfl,_,fun w' h=>h.2.1.cell0,_,fun w' h=>h.2.2.cell0,?_,?_⟩
  ·refine (jFE p u w12.drew A17.pool hW.ok).mono ?_
   rintro _ w18 ⟨nk,nf,nt,nu,nx,na,nb,ok,rfl,⟨hnn,_⟩,E18⟩
   rw [hn] at hnn
   refine ⟨_,_,_,_,_,_,_,_,rfl,⟨(A17.pure E18).cap,k17.box.pure E18,b17.pure E18⟩,E18.keptP,?_⟩
   intro p6 w19 h19
   have hp6:=h19.at_size
   have E19:=E18.trans (Ext.new h19)
   have b6:=Box.of_new h19
   have z18:=E18.size
   have z12:wl.heap.size≤w12.drew.heap.size:=by have:=(b17.lt);omega
   have nh6:¬ Hl p6.block:=fun hh=>by have:=hl.lt _ hh;omega
   refine ⟨⟨(A17.pure E19).cap,k17.box.pure E19,b17.pure E19⟩,b6.canWs (n:=7) (by simp),nh6,?_⟩
   rintro _ rfl
   have E20:=Ext.storeRow w19 p6 [(.int .i64 nk),(.int .i64 nf),(.int .i64 nt),(.int .u64 nu),(.string nx),(.int .i64 na),(.int .i64 nb)]
   have b20:=b6.store (vs:=[(.int .i64 nk),(.int .i64 nf),(.int .i64 nt),(.int .u64 nu),(.string nx),(.int .i64 na),(.int .i64 nb)]) rfl
   have A19:=A17.pure E19
   have n6:¬ Fj p6.block:=fun hh=>by have:=A17.know.lt hh;omega
   have A20:=A19.fresh E20 n6 (fun hh=>by have:=A17.pool.lt hh;omega) (fun hh=>by have:=World.block_lt_of_cell? _ p1 A17.cap;omega) (by have:=A17.ext.size;omega)
   have k20:=(k17.box.pure E19).ext E20 (fun e=>by have:=k17.box.lt;omega)
   have b520:=(b17.pure E19).ext E20 (fun e=>by have:=b17.lt;omega)
   have hs20:Hst w0 Hl _ Hl _:=(hs17.again E19.keptP).again (E20.kept (fun b hb e=>nh6 (e▸hb)))
   exact ⟨⟨A20.cap,k20,b520⟩,J2 p6 _ hs20 A20 b520.cell0 (by rw [← hnn];exact b20.row) n6 nh6⟩
  ·intro p7 w21 h21
   have hp6:=h21.at_size
   have E21:Pure w12.drew w21:=Ext.new h21
   have b7:=Box.of_new h21
   refine ⟨⟨(A17.pure E21).cap,k17.box.pure E21,b17.pure E21⟩,?_⟩
   refine (jFE p u w21 (A17.pure E21).pool hW.ok).mono ?_
   rintro _ w22 ⟨nk,nf,nt,nu,nx,na,nb,ok,rfl,⟨hnn,_⟩,E22⟩
   rw [hn] at hnn
   have E19:=E21.trans E22
   have z12:wl.heap.size≤w12.drew.heap.size:=by have:=(b17.lt);omega
   have nh6:¬ Hl p7.block:=fun hh=>by have:=hl.lt _ hh;omega
   have b6:=b7.pure E22
   refine ⟨_,_,_,_,_,_,_,_,rfl,⟨(A17.pure E19).cap,k17.box.pure E19,b17.pure E19⟩,E22.keptP,b6.canWs (n:=7) (by simp),nh6,?_⟩
   rintro _ rfl
   have E20:=Ext.storeRow w22 p7 [(.int .i64 nk),(.int .i64 nf),(.int .i64 nt),(.int .u64 nu),(.string nx),(.int .i64 na),(.int .i64 nb)]
   have b20:=b6.store (vs:=[(.int .i64 nk),(.int .i64 nf),(.int .i64 nt),(.int .u64 nu),(.string nx),(.int .i64 na),(.int .i64 nb)]) rfl
   have A19:=A17.pure E19
   have n6:¬ Fj p7.block:=fun hh=>by have:=A17.know.lt hh;omega
   have A20:=A19.fresh E20 n6 (fun hh=>by have:=A17.pool.lt hh;omega) (fun hh=>by have:=World.block_lt_of_cell? _ p1 A17.cap;omega) (by have:=A17.ext.size;omega)
   have k20:=(k17.box.pure E19).ext E20 (fun e=>by have:=k17.box.lt;omega)
   have b520:=(b17.pure E19).ext E20 (fun e=>by have:=b17.lt;omega)
   have hs20:Hst w0 Hl _ Hl _:=(hs17.again E19.keptP).again (E20.kept (fun b hb e=>nh6 (e▸hb)))
   exact ⟨⟨A20.cap,k20,b520⟩,J2 p7 _ hs20 A20 b520.cell0 (by rw [← hnn];exact b20.row) n6 nh6⟩
 ·have hge:=qK hlj hj hc
  subst hge
  rw [List.take_length] at hcj
  exact hK Sj Fj wl A.know ⟨hwj,hcj,htj,hSj⟩ A.ext A.own
end Go.Proofs
end
section
open Go.SE
namespace Go.Sp
def jIY (L:Pool) (n:Int):Int×Bool:=match find L (jIZ n) with
 | some i=>((i:Int)+1,true)
 | none=>(0,false)
theorem jLB {L:Pool} {n:Int} {i:Nat} (h:find L (jIZ n)=some i):jIY L n=((i:Int)+1,true):=by unfold jIY;rw [h]
theorem Drv.inv {L:Pool} {K:Int→Prop} {t:Int} (h:Drv L K t):K t∨jLC (zD L t).kind=true∨((zD L t).kind=4∧Drv L K (zD L t).a∧Drv L K (zD L t).b)∨((zD L t).kind=5∧Drv L K (zD L t).a) ∨
  (yF (zD L t).kind=true∧Drv L K (zD L t).a∧(jIY L (jIN (zD L t))).2=true∧K (jIY L (jIN (zD L t))).1):=by
 cases h with
 | seen h=>exact .inl h
 | free h=>exact .inr (.inl h)
 | pair h a b=>exact .inr (.inr (.inl ⟨h,a,b⟩))
 | hash h a=>exact .inr (.inr (.inr (.inl ⟨h,a⟩)))
 | sign h a hf hk=>rw [jLB hf];exact .inr (.inr (.inr (.inr ⟨h,a,rfl,hk⟩)))
theorem uX {L:Pool} (h:Wf L) {t:Int} (ht:inP L t=true):jLC (zD L t).kind=true∨(zD L t).kind=4∨(zD L t).kind=5∨(zD L t).kind=6∨yF (zD L t).kind=true:=by
 have h1:=(h.node ht).1;unfold vC at h1;simp only at h1;split at h1
 ·cases h1
 ·rename_i hh;simp only [Bool.or_eq_true,Bool.not_eq_true',not_or] at hh;have hk:isKind (zD L t).kind=true:=by simpa using hh.1.1.1.1
  simp only [isKind,Bool.and_eq_true,decide_eq_true_eq] at hk;simp only [jLC,yF,Bool.or_eq_true,beq_iff_eq];omega
inductive Sub (L:Pool):Int→Int→Prop
 | refl (t:Int):Sub L t t
 | kid {t u k:Int}:Sub L t u→k∈zS (zD L u)→Sub L t k
theorem Sub.trans {L:Pool} {a b c:Int} (h:Sub L a b) (k:Sub L b c):Sub L a c:=by
 induction k with
 | refl=>exact h
 | kid _ hk ih=>exact .kid ih hk
theorem jPF {n:Node} (h:n.kind=4∨n.kind=5∨yF n.kind=true):n.a∈zS n:=by
 simp only [yF,Bool.or_eq_true,beq_iff_eq] at h;rcases h with h | h | (h | h) | h <;> simp [zS,h,shapeOf]
theorem kids_b {n:Node} (h:n.kind=4):n.b∈zS n:=by simp [zS,h,shapeOf]
theorem xQ.sub {L:Pool} {r u t:Int} (h:xQ L r u t):Sub L u t:=by
 rcases h with ⟨_,hk,rfl⟩ | ⟨_,hk,rfl⟩ | ⟨_,hk,rfl⟩
 ·exact .kid (.refl u) (jPF (.inl hk))
 ·exact .kid (.refl u) (kids_b hk)
 ·exact .kid (.refl u) (jPF (.inr (.inr hk)))
theorem Seen.sub {L:Pool} {G:List Int} {t:Int} (h:Seen L G t):∃g∈G,Sub L g t:=by
 induction h with
 | given hg=>exact ⟨_,hg,.refl _⟩
 | aris _ ha ih=>obtain ⟨g,hg,hs⟩:=ih;exact ⟨g,hg,hs.trans ha.sub⟩
def jPE (S:List Way) (t:Int):Nat:=(zZ S).idxOf t+if t∈zZ S then 0 else t.toNat
theorem xQ.rule {L:Pool} {r u t:Int} (h:xQ L r u t):r=1∨r=2∨r=3:=by
 rcases h with ⟨h,_⟩ | ⟨h,_⟩ | ⟨h,_⟩
 ·exact .inl h
 ·exact .inr (.inl h)
 ·exact .inr (.inr h)
def amap (l:List Step):List (Int×Int):=l.zipIdx.map fun p=>(p.1.t,(p.2:Int))
structure PrfOk (L:Pool) (G:List Int) (K:Int→Prop) (l:List Step) (B:List Int):Prop where
 fol:∀i (hi:i<l.length),fol L G (l.take i) l[i]=true
 nd:(l.map Step.t).Nodup
 drv:∀s∈l,Drv L K s.t
 bar:∀t∈B,¬ Drv L K t
theorem PrfOk.nil (L:Pool) (G:List Int) (K:Int→Prop):PrfOk L G K [] []:=⟨fun i hi=>by simp at hi,by simp,by simp,by simp⟩
theorem PrfOk.snoc {L:Pool} {G:List Int} {K:Int→Prop} {l:List Step} {B:List Int} (h:PrfOk L G K l B) {s:Step} (hf:Sp.fol L G l s=true) (hn:s.t ∉ l.map Step.t) (hd:Drv L K s.t):PrfOk L G K (l++[s]) B:=by
 refine ⟨fun i hi=>?_,?_,fun x hx=>?_,h.bar⟩
 ·rw [List.length_append] at hi;simp only [List.length_cons,List.length_nil] at hi;by_cases hl:i<l.length
  ·rw [List.getElem_append_left hl,List.take_append_of_le_length (by omega)];exact h.fol i hl
  ·have:i=l.length:=by omega
   subst this;rw [List.getElem_append_right (Nat.le_refl _),List.take_left];simpa using hf
 ·rw [List.map_append,List.nodup_append];exact ⟨h.nd,by simp,fun x hx y hy e=>by simp at hy;subst hy;exact hn (e▸hx)⟩
 ·rcases List.mem_append.1 hx with hx | hx
  ·exact h.drv x hx
  ·simp at hx;subst hx;exact hd
theorem fol_in {L:Pool} {G:List Int} {pre:List Step} {s:Step} (h:fol L G pre s=true):inP L s.t=true:=by
 unfold fol at h;split at h
 ·cases h
 ·rename_i hh;simpa using hh
theorem PrfOk.few {L:Pool} {G:List Int} {K:Int→Prop} {l:List Step} {B:List Int} (h:PrfOk L G K l B):l.length≤L.length:=by
 have:=jFW h.nd (fun t ht=>by
  obtain ⟨s,hs,rfl⟩:=List.mem_map.1 ht;obtain ⟨i,hi,rfl⟩:=List.getElem_of_mem hs;exact fol_in (h.fol i hi))
 simpa using this
end Go.Sp
end
section
open Go Go.SE
namespace Go.Sp
def jNR (G:List Int) (t:Int):List Int:=if t∈G then G else G++[t]
def jEK (L:Pool) (G:List Int) (t:Int):List Int:=if inP L t=true then jNR G t else G
theorem jFY {G:List Int} {t x:Int}:x∈jNR G t↔x∈G∨x=t:=by
 unfold jNR;split
 ·rename_i h;exact ⟨.inl,fun h'=>h'.elim id (fun e=>e▸h)⟩
 ·simp
theorem jQJ {G:List Int} {t:Int} (h:G.Nodup):(jNR G t).Nodup:=by
 unfold jNR;split
 ·exact h
 ·rename_i hn;rw [List.nodup_append];exact ⟨h,by simp,fun x hx y hy e=>by simp at hy;subst hy;exact hn (e▸hx)⟩
def madeS (L:Pool) (S:List Way) (t:Int):Int×Int×Bool×Bool :=
 if inP L t=false then (0,0,false,false)
 else if jLC (zD L t).kind=true then (0,0,true,true)
 else if (zD L t).kind=4 then ((zD L t).a,(zD L t).b,false,true)
 else if (zD L t).kind=5 then ((zD L t).a,0,false,true)
 else if (zD L t).kind=6 then (0,0,false,false)
 else ((zD L t).a,(jIY L (jIN (zD L t))).1,false,(jIY L (jIN (zD L t))).2 && decide ((jIY L (jIN (zD L t))).1∈zZ S))
end Go.Sp
namespace Go.Proofs
open Tryz
attribute [local irreducible] Calls
abbrev MakePost (p:Addr) (L:Sp.Pool) (F:NP) (w:World) (n:Sp.Node) (e:Ending) (w':World):Prop :=
 ∃r1:Int,∃r2:Int,e=.returned (.tuple #[.int .i64 r1,.int .i64 r2])∧((r1,r2)=((Sp.make L n).1,(Sp.make L n).2.1)∧∃F',vD w' p (Sp.make L n).2.2 F'∧Ext F w w'∧∀b,F' b→F b∨w.heap.size≤b)
section
variable (p:Addr) (w0:World) {L:Sp.Pool} {F:NP} (hP:vD w0 p L F) (hok:Sp.Ok L)
include hP hok
theorem jPI (a b:Int):Calls prog 91 #[.pointer (some p),.int .i64 a,.int .i64 b] w0 (MakePost p L F w0 ⟨4,0,0,0,⟨#[]⟩,a,b⟩):=by
 refine w_N2 _ _ _ w0 (fun r1 r2 w'=>(r1,r2)=((Sp.make L ⟨4,0,0,0,⟨#[]⟩,a,b⟩).1,(Sp.make L ⟨4,0,0,0,⟨#[]⟩,a,b⟩).2.1)∧∃F',vD w' p (Sp.make L ⟨4,0,0,0,⟨#[]⟩,a,b⟩).2.2 F'∧Ext F w0 w'∧∀b,F' b→F b∨w0.heap.size≤b) ?_;unfold m_N2;refine (jKM p _ _ _ _ _ _ _ w0 hP hok).mono ?_;rintro _ w1 ⟨r1,r2,rfl,h⟩;exact ⟨r1,r2,rfl,h⟩
theorem c_Sign (n a:Int):Calls prog 93 #[.pointer (some p),.int .i64 n,.int .i64 a] w0 (MakePost p L F w0 ⟨7,n,0,0,⟨#[]⟩,a,0⟩):=by
 refine w_P2 _ _ _ w0 (fun r1 r2 w'=>(r1,r2)=((Sp.make L ⟨7,n,0,0,⟨#[]⟩,a,0⟩).1,(Sp.make L ⟨7,n,0,0,⟨#[]⟩,a,0⟩).2.1)∧∃F',vD w' p (Sp.make L ⟨7,n,0,0,⟨#[]⟩,a,0⟩).2.2 F'∧Ext F w0 w'∧∀b,F' b→F b∨w0.heap.size≤b) ?_;unfold m_P2;refine (jKM p _ _ _ _ _ _ _ w0 hP hok).mono ?_;rintro _ w1 ⟨r1,r2,rfl,h⟩;exact ⟨r1,r2,rfl,h⟩
end
theorem KnowS.appG {w:World} {k p:Addr} {G:List Int} {S:List Sp.Way} {ks:List Int} {sg sl:Sl} {m:Nat} (h:KnowS w k p G S ks sg m sl) {t:Int} {q:Addr} {w1:World} (hq:New w (.cells #[.int .i64 t] 78) q w1) (hn:G.length≤1000000):∃s1 w2,(Builtin.append_ #[46,46] 46 #[sg.v,(Sl.mk (some q) 1 1).v]).run prog w1=.ok s1.v w2∧Ext sg.blk w1 w2∧vF w2 (k.add 1) ∧
  KnowS (w2.setCell (k.add 1) s1.v) k p (G++[t]) S ks s1 m sl∧Ext (KF k sg m sl) w (w2.setCell (k.add 1) s1.v)∧∀b,KF k s1 m sl b→KF k sg m sl b∨w.heap.size≤b:=by
 have E1:Pure w w1:=Ext.new hq
 have h1:=h.pure E1
 obtain ⟨s1,w2,hr,hR,hE,hb⟩:=h1.giv.append (P:=prog) (ty:=46) (c:=1) jLZ (r:=[.int .i64 t]) (Box.of_new hq).row rfl rfl (by rw [yW];omega) (by rw [yW];simp [maxLen];omega)
 have hbx:=h1.box.ext hE h1.n2
 have hs1:∀b,s1.blk b→sg.blk b∨w.heap.size≤b:=fun b h=>(hb b h).imp_right (fun h=>by have:=E1.size;omega)
 have nk:¬ s1.blk k.block:=fun hh=>(hs1 _ hh).elim h.n2 (fun hh=>by have:=h.box.lt;omega)
 have nm:¬ s1.blk m:=fun hh=>(hs1 _ hh).elim h.n4 (fun hh=>by have:=h.seen.lt;omega)
 have E3:=Ext.setCell (w:=w2) (k.add 1) s1.v
 rw [zW] at E3
 refine ⟨s1,w2,hr,hE,hbx.canW (by simp),⟨hbx.set 1 s1.v,by rw [show tmr (G++[t])=tmr G++[[.int .i64 t]] by simp [tmr]];exact hR.ext E3 (fun b hb e=>nk (e▸hb)),((h1.seen.ext hE h.n4).ext E3 h.n1),((h1.list.ext hE (fun b h2 h1=>h.n6 b h1 h2)).ext E3 (fun b hb e=>h.n3 (e▸hb))),h.n1,nk,h.n3,nm,h.n5,fun b h1 h2=>(hs1 b h1).elim (fun h1=>h.n6 b h1 h2) (fun hh=>by have:=h.list.lt h2;omega)⟩,?_,?_⟩
 ·exact ((E1.pure (F:=KF k sg m sl)).trans (hE.mono (fun b _ hb=>.inr (.inl hb)))).trans (E3.mono (fun b _ hb=>.inl hb))
 ·rintro b (hb | hb | hb | hb)
  ·exact .inl (.inl hb)
  ·exact (hs1 b hb).imp_left (fun h=>.inr (.inl h))
  ·exact .inl (.inr (.inr (.inl hb)))
  ·exact .inl (.inr (.inr (.inr hb)))
theorem jNI (k p:Addr) (t:Int) (w0:World) {L:Sp.Pool} {G:List Int} {S:List Sp.Way} {F FP:NP} (h:qR w0 k p G S F) (hP:vD w0 p L FP) (hW:Sp.Wf L) (hd:∀b,F b→¬ FP b) (hk:Sp.KnowOk L G S) :
  Calls prog 79 #[.pointer (some k),.int .i64 t] w0 (fun e w'=>∃r:Int,e=.returned (.int .i64 r)∧(r=(if Sp.inP L t=true then 0 else 51)∧∃S' F',qR w' k p (Sp.jEK L G t) S' F'∧Sp.KnowOk L (Sp.jEK L G t) S'∧Ext F w0 w'∧∀b,F' b→F b∨w0.heap.size≤b)):=by
 suffices key:∀K:Int→WP,(∀S' F' w',qR w' k p (Sp.jEK L G t) S' F'→Sp.KnowOk L (Sp.jEK L G t) S'→Ext F w0 w'→(∀b,F' b→F b∨w0.heap.size≤b)→K (if Sp.inP L t=true then 0 else 51) w')→m_G2 (some k) t w0 K from
  w_G2 _ _ w0 _ (key _ (fun S' F' w' a b c d=>⟨rfl,S',F',a,b,c,d⟩))
 intro K hK
 unfold m_G2
 obtain ⟨sg,m,sl,k0,hF⟩:=h
 refine Br.f rfl ⟨k,rfl,_,k0.box.cell0,?_⟩
 refine (jFE p t w0 hP hW.ok).mono ?_
 rintro _ w1 ⟨nk,nf,nt,nu,nx,na,nb,ok,rfl,⟨_,rfl⟩,E1⟩
 refine ⟨_,_,_,_,_,_,_,_,rfl,E1.keptP,fun hc=>?_,fun hc=>?_⟩
 ·have hin:Sp.inP L t=false:=by simpa using hc
  intro H1 w3 hs3
  have E3:Pure w0 w3:=E1.hst hs3
  have hg:Sp.jEK L G t=G:=by unfold Sp.jEK;rw [if_neg (by simp [hin])]
  have:=hK S F w3 (by rw [hg];exact ⟨sg,m,sl,k0.pure E3,hF⟩) (by rw [hg];exact hk) E3.pure (fun b hb=>.inl hb)
  simpa [hin] using this
 have hin:Sp.inP L t=true:=by simpa using hc
 have hg:Sp.jEK L G t=Sp.jNR G t:=by unfold Sp.jEK;rw [if_pos hin]
 rw [hg] at hK
 simp only [hin,if_true] at hK
 refine ⟨k,rfl,?_⟩
 intro H1 w3 hs3
 have E3:Pure w0 w3:=E1.hst hs3
 have k3:=k0.pure E3
 have nh:∀b,b<w0.heap.size→¬ H1 b:=fun b hb hh=>by have:=hs3.old b hh;omega
 have hGn:G.length≤65536:=by have:=Sp.jFW hk.gnd (fun t ht=>hk.inp t (hk.giv t ht));have:=hW.ok.few;omega
 have fin:∀(w:World) (F':NP),qR w k p (Sp.jNR G t) S F'→Ext F w0 w→(∀b,F' b→F b∨w0.heap.size≤b)→Hst w0 H1 w H1 w→(∀b,F' b→¬ H1 b)→Calls prog 151 #[.pointer (some k),.int .i64 t,.agg #[.int .i64 0,.int .i64 0]] w (fun e w8=>e=.returned (.tuple #[])∧Kept H1 w w8∧K 0 w8):=by
  intro w F' hw hE hf hs hh;have hGs:∀x∈G,x∈Sp.jNR G t:=fun x hx=>Sp.jFY.2 (.inl hx);have hPw:vD w p L FP:=hP.ext hE (fun b hb hfb=>hd b hfb hb);refine (jLE k p t 0 0 w hw hPw hW (fun b hb hp=>?_) (hk.toWaysOk.mono hGs) hk.closed hin (.inl ⟨rfl,rfl,Sp.jFY.2 (.inr rfl)⟩)).mono ?_
  ·rcases hf b hb with h1 | h1
   ·exact hd b h1 hp
   ·have:=hP.lt hp;omega
  ·rintro _ w8 ⟨rfl,S',F2,K2,⟨q1,q2,q3,q4⟩,X2,f2⟩;have z:=hE.size;refine ⟨rfl,X2.kept (fun b hb hx=>hh b hx hb),hK S' F2 w8 K2 ⟨q1,q2,fun x hx=>?_,Sp.jQJ hk.gnd⟩ (hE.trans' X2 (fun i hi hx=>(hf i hx).elim id (fun h=>by omega))) (fun b hb=>?_)⟩
   ·rcases Sp.jFY.1 hx with hx | rfl
    ·exact q4 x (hk.giv x hx)
    ·exact q3
   ·rcases f2 b hb with h1 | h1
    ·exact hf b h1
    ·right;omega
 refine ⟨_,k3.box.cell rfl,?_⟩
 refine (jHS sg G t w3 k3.giv.lst (by omega)).mono ?_
 rintro _ w3 ⟨r,rfl,rfl,rfl⟩
 refine ⟨_,rfl,Kept.refl _,fun hc2=>?_,fun hc2=>?_⟩
 ·have hnG:t ∉ G:=by simpa using hc2
  have hadd:Sp.jNR G t=G++[t]:=if_neg hnG
  refine ⟨k,rfl,_,k3.box.cell rfl,?_⟩
  intro q w5 h5
  obtain ⟨s1,w6,hr6,X6,cw6,k6,E6,f6⟩:=k3.appG h5 (by omega)
  have hs5:Hst w0 H1 w5 H1 w5:=hs3.here.again (Ext.new h5:Pure w3 w5).keptP
  have sgn:∀b,sg.blk b→¬ H1 b:=fun b hb=>nh b (k0.lt (.inr (.inl hb)))
  have kk:Kept H1 w5 w6:=X6.kept (fun b hb hx=>sgn b hx hb)
  refine ⟨s1,w6,hr6,kk,k,rfl,cw6,by rw [zW];exact nh _ k0.box.lt,?_⟩
  rintro _ rfl
  have z3:=E3.size
  have z5:w3.heap.size≤w5.heap.size:=(Ext.new h5:Pure w3 w5).size
  refine fin _ (KF k s1 m sl) (by rw [hadd];exact ⟨s1,m,sl,k6,fun b=>Iff.rfl⟩) ((E3.pure (F:=F)).trans (E6.mono (fun b _ hb=>(hF b).2 hb))) (fun b hb=>(f6 b hb).imp (hF b).2 (fun h=>by omega)) ((hs5.again kk).again (Kept.setCell (by rw [zW];exact nh _ k0.box.lt))) (fun b hb hh=>?_)
  rcases f6 b hb with h1 | h1
  ·exact nh b (k0.lt h1) hh
  ·have:=hs3.lt b hh;omega
 ·have hG:t∈G:=by simpa using hc2
  have hadd:Sp.jNR G t=G:=if_pos hG
  exact fin w3 F (by rw [hadd];exact ⟨sg,m,sl,k3,hF⟩) E3.pure (fun b hb=>.inl hb) hs3.here (fun b hb=>nh b (k0.lt ((hF b).1 hb)))
end Go.Proofs
end
section
open Go Go.SE
namespace Go.Sp
def jGD (L:Pool) (ts:List Int):List Int:=ts.foldl (jEK L) []
def jQL (L:Pool) (G:List Int) (fs:List Fact):Prop:=fs.Pairwise LtF∧∀x,x∈fs↔∃t,Seen L G t∧x∈ofS L t
theorem KnowOk.nil0 (L:Pool):KnowOk L [] []:=⟨⟨by simp [zZ],by simp [zZ],fun i hi=>by simp at hi⟩,by simp [zZ],by simp,by simp⟩
theorem jMM (L:Pool) (t:Int):(ofS L t).length≤3:=by
 unfold ofS ofR yI
 repeat' split
 all_goals simp
end Go.Sp
namespace Go.Proofs
open Tryz
attribute [local irreducible] Calls
theorem jOU {S:NP} (p:Addr) (l:Sl) (ts:List Int) (w0:World) {L:Sp.Pool} {F:NP} (hP:vD w0 p L F) (hW:Sp.Wf L) (hs:Lst S w0 1 l (tmr ts)) (hn:ts.length≤1000000) :
  Calls prog 26 #[.pointer (some p),l.v] w0 (fun e w'=>∃r:Sl,e=.returned r.v∧∃fs,RetO w0 75 4 (fs.map jBS) r w'∧Sp.jQL L (Sp.jGD L ts) fs∧fs.length≤200000):=by
 suffices key:∀K:Sl→WP,(∀r fs w',RetO w0 75 4 (fs.map jBS) r w'→(Sp.jQL L (Sp.jGD L ts) fs∧fs.length≤200000)→K r w')→m_U (some p) l w0 K from
  w_U _ _ w0 _ (key _ (fun r fs w' h1 h2=>⟨fs,h1,h2⟩))
 intro K hK
 unfold m_U
 refine (jNH p w0).mono ?_
 rintro _ w1 ⟨_,rfl,k,F1,rfl,hk1,E1,hF1⟩
 have hll:l.len=ts.length:=by rw [hs.len,yW]
 refine ⟨_,rfl,fun i w'=>∃j:Nat,i=j∧j≤ts.length∧∃W FK,qR w' k p (Sp.jGD L (ts.take j)) W FK∧Sp.KnowOk L (Sp.jGD L (ts.take j)) W∧(∀b,FK b→w0.heap.size≤b)∧Pure w0 w',fun i _=>((ts.length:Int) - i).toNat,⟨0,rfl,Nat.zero_le _,[],F1,hk1,Sp.KnowOk.nil0 L,hF1,E1⟩,?_⟩
 rintro _ wl ⟨j,rfl,hj,W,FK,hk,hok,hFK,El⟩
 unfold m_U_l1
 refine ⟨fun h=>?_,fun h=>?_⟩
 ·have hlt:=qI hll h
  obtain ⟨a,hat,_,hv⟩:=jDH (hs.pure El) hlt
  refine ⟨a,hat,_,hv,?_⟩
  refine (jNI k p ts[j] wl hk (hP.pure El) hW (fun b hb hp=>by have:=hFK b hb;have:=hP.lt hp;omega) hok).mono ?_
  rintro _ w2 ⟨_,rfl,_,W',F',hk',hok',X,hF'⟩
  refine ⟨_,rfl,?_⟩
  rw [vM hlt (by omega)]
  have e:Sp.jGD L (ts.take (j+1))=Sp.jEK L (Sp.jGD L (ts.take j)) ts[j]:=by
   unfold Sp.jGD;rw [List.take_succ_eq_append_getElem hlt,List.foldl_append];rfl
  exact ⟨⟨j+1,rfl,hlt,W',F',by rw [e];exact hk',by rw [e];exact hok',fun b hb=>(hF' b hb).elim (hFK b) (fun h=>by have:=El.size;omega),El.trans' X (fun i hi hf=>by have:=hFK i hf;omega)⟩,uA hlt⟩
 have hge:=qK hll hj h
 subst hge
 rw [List.take_length] at hk hok
 have hfew:(Sp.zZ W).length≤65536:=by rw [Sp.uH];exact Nat.le_trans hok.toWaysOk.few hW.ok.few
 refine (jLF k p wl hk (by omega)).mono ?_
 rintro _ w3 ⟨r3,rfl,q,hr3,hperm,_⟩
 have hql:q.length≤65536:=by rw [hperm.length_eq];exact hfew
 have hq3:r3.len=q.length:=by rw [hr3.rows.len,yW]
 have E3:=El.trans hr3.pure
 have hsz3:=E3.size
 have hbl:∀j,((q.take j).flatMap (Sp.ofS L)).length≤3*j:=by
  intro j;induction j with
  | zero=>simp
  | succ j ih =>
   by_cases hj:j<q.length
   ·rw [List.take_succ_eq_append_getElem hj,List.flatMap_append,List.length_append]
    have:=Sp.jMM L q[j]
    simp only [List.flatMap_cons,List.flatMap_nil,List.append_nil]
    omega
   ·rw [List.take_of_length_le (by omega)] at ih ⊢;omega
 refine ⟨r3,rfl,fun o i w'=>∃j:Nat,i=j∧j≤q.length∧Pure w3 w'∧(∀b,o.blk b→w3.heap.size≤b)∧Rws w' 75 4 o (((q.take j).flatMap (Sp.ofS L)).map jBS),fun _ i _=>((q.length:Int) - i).toNat,⟨0,rfl,Nat.zero_le _,Ext.refl _,fun b h=>(by obtain ⟨a,h,_⟩:=h;cases h),Rws.nil _ _ _⟩,?_⟩
 rintro o _ w4 ⟨j,rfl,hj,E4,hown,Ro⟩
 unfold m_U_l2
 refine ⟨fun h=>?_,fun h=>?_⟩
 ·have hlt:=qI hq3 h
  obtain ⟨a,hat,_,hv⟩:=jDH (hr3.rows.pure E4).lst hlt
  refine ⟨a,hat,_,hv,?_⟩
  refine (jNG (some p) q[j] w4 (hP.pure (E3.trans E4)) hW.ok).mono ?_
  rintro _ w5 ⟨r4,rfl,hr4⟩
  have b1:=hbl j
  have b2:=Sp.jMM L q[j]
  have E5:=E4.trans hr4.pure
  obtain ⟨s1,w6,hrun,hR,hE,hb⟩:=(Ro.pure hr4.pure).appendL (P:=prog) jBG (ty:=71) hr4.rows.lst (jEF _) (jKE _) (by rw [List.length_map,List.length_map];omega) (by rw [List.length_map,List.length_map];unfold maxLen;omega)
  refine ⟨r4,rfl,s1,w6,hrun,?_⟩
  rw [vM hlt (by omega)]
  have:=E5.size
  refine ⟨⟨j+1,rfl,hlt,E5.trans' hE (fun i hi h=>by have:=hown i h;omega),fun b h=>(hb b h).elim (hown b) (fun h=>by omega),?_⟩,uA hlt⟩
  rw [List.take_succ_eq_append_getElem hlt,List.flatMap_append,List.map_append]
  simpa using hR
 have hge:=qK hq3 hj h
 subst hge
 rw [List.take_length] at Ro
 have hb3:=hbl q.length
 rw [List.take_length] at hb3
 generalize hfs:q.flatMap (Sp.ofS L)=fs at *
 refine (jLG o fs w4 Ro (by omega)).mono ?_
 rintro _ w5 ⟨rfl,fs',hp',hsd,R5,E5⟩
 refine ⟨rfl,?_⟩
 refine (jNL o fs' w5 R5 (by rw [hp'.length_eq];omega)).mono ?_
 rintro _ w6 ⟨r,rfl,R6,E6,hb6⟩
 refine ⟨r,rfl,hK r (Sp.jAT fs') w6 ⟨R6,fun b hb=>by have:=hown b (hb6 b hb);omega,?_⟩ ⟨⟨Sp.jHP hsd,fun x=>?_⟩,by have:=Sp.jNA fs';have:=hp'.length_eq;omega⟩⟩
 ·exact (E3.trans E4).trans' (E5.trans E6) (fun i hi h=>by have:=hown i h;omega)
 ·rw [Sp.jMN,hp'.mem_iff,← hfs,List.mem_flatMap]
  constructor
  ·rintro ⟨t,ht,hx⟩
   exact ⟨t,(hok.seen_iff t).1 (hperm.mem_iff.1 ht),hx⟩
  ·rintro ⟨t,ht,hx⟩
   exact ⟨t,hperm.mem_iff.2 ((hok.seen_iff t).2 ht),hx⟩
end Go.Proofs
end
section
open Go Go.SE
namespace Go.Sp
def qP (L:Pool) (a b:Int):Int×Int×Pool :=
 if (jAY L a b).2.1=true then (0,121,L) else if (jAY L a b).2.2≠0 then (0,(jAY L a b).2.2,L) else Go.Proofs.qF L ⟨6,0,(jAY L a b).1.c,(jAY L a b).1.text,false⟩
def uR (m:Int×Int×Pool) (f:Int→Pool→Int×Int×Pool):Int×Int×Pool:=if m.2.1≠0 then (0,m.2.1,m.2.2) else f m.1 m.2.2
def qN:ByteArray:=⟨#[114,101,115,111,108,118,101]⟩
def tU (L:Pool) (who a b:Int):Int×Int×Pool :=
 if who≠0∧who≠1 then (0,2,L) else if (jAY L a b).2.2≠0 then (0,(jAY L a b).2.2,L)
 else uR (make L ⟨4,0,0,0,⟨#[]⟩,a,b⟩) fun t L=>uR (make L ⟨3,0,0,0,qN,0,0⟩) fun d L=>uR (make L ⟨4,0,0,0,⟨#[]⟩,d,t⟩) fun t L=>make L ⟨7,who,0,0,⟨#[]⟩,t,0⟩
end Go.Sp
namespace Go.Proofs
open Tryz
attribute [local irreducible] Calls
theorem c_Data (p:Addr) (w0:World) {L:Sp.Pool} {F:NP} (hP:vD w0 p L F) (hok:Sp.Ok L) (x:ByteArray):Calls prog 92 #[.pointer (some p),.string x] w0 (MakePost p L F w0 ⟨3,0,0,0,x,0,0⟩):=by
 refine w_O2 _ _ w0 (fun r1 r2 w'=>(r1,r2)=((Sp.make L ⟨3,0,0,0,x,0,0⟩).1,(Sp.make L ⟨3,0,0,0,x,0,0⟩).2.1)∧∃F',vD w' p (Sp.make L ⟨3,0,0,0,x,0,0⟩).2.2 F'∧Ext F w0 w'∧∀b,F' b→F b∨w0.heap.size≤b) ?_;unfold m_O2;refine (jKM p _ _ _ _ _ _ _ w0 hP hok).mono ?_;rintro _ w1 ⟨r1,r2,rfl,h⟩;exact ⟨r1,r2,rfl,h⟩
theorem jAH (p:Addr) (t who c:Int) (x:ByteArray) (w0:World) {L:Sp.Pool} {F:NP} (hP:vD w0 p L F) (hok:Sp.Ok L) :
  Calls prog 45 #[.pointer (some p),.int .i64 t,.int .i64 who,.int .u64 c,.string x] w0 (fun e w'=>∃r:Bool,e=.returned (.bool r)∧(r=(Sp.jNN L t who c x == 0)∧Pure w0 w')):=by
 refine w_N3 _ _ _ _ _ w0 (fun r w'=>r=(Sp.jNN L t who c x == 0)∧Pure w0 w') ?_
 unfold m_N3
 refine (jKL (some p) t who c x w0 hP hok).mono ?_
 rintro _ w1 ⟨_,rfl,rfl,E⟩
 exact ⟨_,rfl,rfl,E⟩
abbrev MkP (S:Int×Int×Sp.Pool) (p:Addr) (F:NP) (w0 w':World):Prop:=∃F',vD w' p S.2.2 F'∧Ext F w0 w'∧∀b,F' b→F b∨w0.heap.size≤b
theorem xP (p:Addr) (a b:Int) (w0:World) {L:Sp.Pool} {F:NP} (hP:vD w0 p L F) (hok:Sp.Ok L) :
  Calls prog 32 #[.pointer (some p),.int .i64 a,.int .i64 b] w0 (fun e w'=>∃r1 r2:Int,e=.returned (.tuple #[.int .i64 r1,.int .i64 r2])∧(r1=(Sp.qP L a b).1∧r2=(Sp.qP L a b).2.1∧MkP (Sp.qP L a b) p F w0 w')):=by
 refine w_L3 (some p) a b w0 (fun r1 r2 w'=>r1=(Sp.qP L a b).1∧r2=(Sp.qP L a b).2.1∧MkP (Sp.qP L a b) p F w0 w') ?_
 unfold m_L3
 refine (jID p a b w0 hP hok).mono ?_
 rintro _ w1 ⟨k,f,c,x,g,r,r2,rfl,hb,E1⟩
 have e:Sp.qP L a b=if r=true then (0,121,L) else if r2≠0 then (0,r2,L) else qF L ⟨6,0,c,x,false⟩:=by
  unfold Sp.qP;rw [← hb]
 have hF:∀b,F b→b<w0.heap.size:=fun b hb=>hP.lt hb
 refine ⟨k,f,c,x,g,r,r2,rfl,E1.keptP,fun h H2 w4 hs4=>?_,fun h H2 w4 hs4=>?_⟩
 ·have hS : Sp.qP L a b = (0, cond r 121 r2, L) := by
   rw [e];cases r
   ·have h:r2≠0:=by simpa using h
    rw [if_neg (by simp),if_pos h];rfl
   ·rfl
  rw [hS]
  exact ⟨rfl,rfl,F,hP.pure (E1.hst hs4),Ext.pure (E1.hst hs4),fun b hb=>.inl hb⟩
 ·have hS : Sp.qP L a b = qF L ⟨6, 0, c, x, false⟩ := by
   rw [e];cases r
   ·have h:r2=0:=by simpa using h
    rw [if_neg (by simp),if_neg (by simp [h])]
   ·simp at h
  rw [hS]
  have E4:=E1.hst hs4
  refine (jJM p ⟨6,0,c,x,false⟩ w4 (hP.pure E4) hok).mono ?_
  rintro _ w5 ⟨r3,r4,rfl,e3,e4,F',hP5,X5,hF5⟩
  refine ⟨r3,r4,rfl,X5.kept (fun b hb hh=>by have:=hs4.old b hb;have:=hF b hh;omega),e3,e4,F',hP5,(Ext.pure E4).trans X5,fun b hb=>(hF5 b hb).imp id (fun h=>by have:=E4.size;omega)⟩
theorem jCN (p:Addr) (who a b:Int) (w0:World) {L:Sp.Pool} {F:NP} (hP:vD w0 p L F) (hok:Sp.Ok L) :
  Calls prog 33 #[.pointer (some p),.int .i64 who,.int .i64 a,.int .i64 b] w0 (fun e w'=>∃r1 r2:Int,e=.returned (.tuple #[.int .i64 r1,.int .i64 r2])∧(r1=(Sp.tU L who a b).1∧r2=(Sp.tU L who a b).2.1∧MkP (Sp.tU L who a b) p F w0 w')):=by
 refine w_M3 (some p) who a b w0 (fun r1 r2 w'=>r1=(Sp.tU L who a b).1∧r2=(Sp.tU L who a b).2.1∧MkP (Sp.tU L who a b) p F w0 w') ?_
 unfold m_M3
 have hF:∀b,F b→b<w0.heap.size:=fun b hb=>hP.lt hb
 refine ⟨fun h H1 w1 hs1=>?_,fun h H1 w1 hs1=>?_⟩
 ·have hS : Sp.tU L who a b = (0, 2, L) := by
   unfold Sp.tU;rw [if_pos (by simpa using h)]
  rw [hS]
  exact ⟨rfl,rfl,F,hP.pure hs1.first,Ext.pure hs1.first,fun b hb=>.inl hb⟩
 refine (jID p a b w1 (hP.pure hs1.first) hok).mono ?_
 rintro _ w2 ⟨k,f,c,x,g,r,r2,rfl,hb,E2⟩
 have e:Sp.tU L who a b=if r2≠0 then (0,r2,L) else Sp.uR (Sp.make L ⟨4,0,0,0,⟨#[]⟩,a,b⟩) fun t L=>Sp.uR (Sp.make L ⟨3,0,0,0,Sp.qN,0,0⟩) fun d L=>Sp.uR (Sp.make L ⟨4,0,0,0,⟨#[]⟩,d,t⟩) fun t L=>Sp.make L ⟨7,who,0,0,⟨#[]⟩,t,0⟩:=by
  unfold Sp.tU;rw [if_neg (by simpa using h),← hb]
 rw [e]
 have E02:=hs1.first.trans E2
 refine ⟨k,f,c,x,g,r,r2,rfl,E2.keptP,fun h2 H2 w4 hs4=>?_,fun h2 H2 w4 hs4=>?_⟩
 ·rw [if_pos (by simpa using h2)]
  exact ⟨rfl,rfl,F,hP.pure (E02.hst hs4),Ext.pure (E02.hst hs4),fun b hb=>.inl hb⟩
 rw [if_neg (by simpa using h2)]
 have E4:=E02.hst hs4
 have step:∀{w w':World} {F1 F2:NP},Ext F w0 w→(∀b,F1 b→F b∨w4.heap.size≤b)→w4.heap.size≤w.heap.size→Ext F1 w w'→(∀b,F2 b→F1 b∨w.heap.size≤b)→Ext F w0 w'∧(∀b,F2 b→F b∨w4.heap.size≤b)∧w4.heap.size≤w'.heap.size∧Kept H2 w w':=by
  intro w w' F1 F2 X h1 hsz X1 h2;have:=E4.size;refine ⟨X.trans' X1 (fun i hi hf=>(h1 i hf).elim id (fun h=>by omega)),fun b hb=>(h2 b hb).elim (h1 b) (fun h=>.inr (by omega)),by have:=X1.size;omega,X1.kept (fun b hb hf=>?_)⟩;rcases h1 b hf with h | h
  ·have:=hs4.old b hb;have:=hF b h;omega
  ·have:=hs4.lt b hb;omega
 have fin:∀b,∀{F2:NP},(∀b,F2 b→F b∨w4.heap.size≤b)→F2 b→F b∨w0.heap.size≤b:=fun b _ h hb=>(h b hb).imp id (fun h=>by have:=E4.size;omega)
 refine (jPI p w4 (hP.pure E4) hok a b).mono ?_
 rintro _ w5 ⟨r3,r4,rfl,h34,F5,hP5,X5,hF5⟩
 have ok5:=Sp.jEC hok ⟨4,0,0,0,⟨#[]⟩,a,b⟩
 generalize Sp.make L ⟨4,0,0,0,⟨#[]⟩,a,b⟩=m5 at *
 obtain ⟨m1,m2,L5⟩:=m5
 obtain ⟨rfl,rfl⟩:=Prod.mk.inj h34
 obtain ⟨Y5,G5,s5,k5⟩:=step (Ext.pure E4) (fun b hb=>.inl hb) (Nat.le_refl _) X5 hF5
 refine ⟨r3,r4,rfl,k5,fun h5=>?_,fun h5=>?_⟩
 ·unfold Sp.uR;rw [if_pos (by simpa using h5)]
  exact ⟨rfl,rfl,F5,hP5,Y5,fun b hb=>fin b G5 hb⟩
 rw [Sp.uR,if_neg (by simpa using h5)]
 refine (c_Data p w5 hP5 ok5 Sp.qN).mono ?_
 rintro _ w6 ⟨r5,r6,rfl,h56,F6,hP6,X6,hF6⟩
 have ok6:=Sp.jEC ok5 ⟨3,0,0,0,Sp.qN,0,0⟩
 simp only at *
 generalize Sp.make L5 ⟨3,0,0,0,Sp.qN,0,0⟩=m6 at *
 obtain ⟨m1,m2,L6⟩:=m6
 obtain ⟨rfl,rfl⟩:=Prod.mk.inj h56
 obtain ⟨Y6,G6,s6,k6⟩:=step Y5 G5 s5 X6 hF6
 refine ⟨r5,r6,rfl,k6,fun h6=>?_,fun h6=>?_⟩
 ·unfold Sp.uR;rw [if_pos (by simpa using h6)]
  exact ⟨rfl,rfl,F6,hP6,Y6,fun b hb=>fin b G6 hb⟩
 rw [Sp.uR,if_neg (by simpa using h6)]
 refine (jPI p w6 hP6 ok6 r5 r3).mono ?_
 rintro _ w7 ⟨r7,r8,rfl,h78,F7,hP7,X7,hF7⟩
 have ok7:=Sp.jEC ok6 ⟨4,0,0,0,⟨#[]⟩,r5,r3⟩
 simp only at *
 generalize Sp.make L6 ⟨4,0,0,0,⟨#[]⟩,r5,r3⟩=m7 at *
 obtain ⟨m1,m2,L7⟩:=m7
 obtain ⟨rfl,rfl⟩:=Prod.mk.inj h78
 obtain ⟨Y7,G7,s7,k7⟩:=step Y6 G6 s6 X7 hF7
 refine ⟨r7,r8,rfl,k7,fun h7=>?_,fun h7=>?_⟩
 ·unfold Sp.uR;rw [if_pos (by simpa using h7)]
  exact ⟨rfl,rfl,F7,hP7,Y7,fun b hb=>fin b G7 hb⟩
 rw [Sp.uR,if_neg (by simpa using h7)]
 refine (c_Sign p w7 hP7 ok7 who r7).mono ?_
 rintro _ w8 ⟨r9,r10,rfl,h90,F8,hP8,X8,hF8⟩
 obtain ⟨e9,e10⟩:=Prod.mk.inj h90
 obtain ⟨Y8,G8,_,k8⟩:=step Y7 G7 s7 X8 hF8
 exact ⟨r9,r10,rfl,k8,e9,e10,F8,hP8,Y8,fun b hb=>fin b G8 hb⟩
end Go.Proofs
end
section
open Go Go.SE
namespace Go.Sp
theorem jGF {L:Pool} (h:Wf L) (a b:Int):Wf (qP L a b).2.2:=by
 unfold qP;split
 ·exact h
 ·split
  ·exact h
  ·exact jBP h _
theorem jFO {m:Int×Int×Pool} {f:Int→Pool→Int×Int×Pool} (h:Wf m.2.2) (hf:∀t L,Wf L→Wf (f t L).2.2):Wf (uR m f).2.2:=by
 unfold uR;split
 ·exact h
 ·exact hf _ _ h
theorem jMD {L:Pool} (h:Wf L) (who a b:Int):Wf (tU L who a b).2.2:=by
 unfold tU;split
 ·exact h
 ·split
  ·exact h
  ·exact jFO (tX h _) fun t L h=>jFO (tX h _) fun d L h=>jFO (tX h _) fun t L h=>tX h _
def x12:ByteArray:=⟨#[120]⟩
def v1:Pool:=(Go.Proofs.qF [] ⟨1,0,7,x12,false⟩).2.2
def v2:Pool:=(Go.Proofs.qF v1 ⟨1,1,7,x12,false⟩).2.2
def v3:Pool:=(qP v2 6 7).2.2
def v4:Pool:=(tU v3 1 6 7).2.2
theorem lv1:(Go.Proofs.qF [] ⟨1,0,7,x12,false⟩).1=6:=by kernel_rfl
theorem lv2:(Go.Proofs.qF v1 ⟨1,1,7,x12,false⟩).1=7:=by kernel_rfl
theorem lv3:(qP v2 6 7).1=10∧(qP v2 6 7).2.1=0:=by constructor <;> kernel_rfl
theorem lv4:qP v3 6 6=(0,122,v3):=by kernel_rfl
theorem lv5:qP v3 6 10=(0,120,v3):=by kernel_rfl
theorem lv6:(tU v3 1 6 7).1=14∧(tU v3 1 6 7).2.1=0:=by constructor <;> kernel_rfl
theorem lv7:qD v4 14=(⟨4,1,7,x12,false⟩,true):=by kernel_rfl
theorem lv8:jNN v4 10 0 7 x12=0∧jNN v4 6 0 7 x12=2∧(ofS v4 10).length=3:=by refine ⟨?_,?_,?_⟩ <;> kernel_rfl
theorem lvw2:Wf v2:=jBP (jBP Wf.nil _) _
theorem lvw3:Wf v3:=jGF lvw2 _ _
theorem lvw4:Wf v4:=jMD lvw3 _ _ _
theorem lvn:(∀t:Int,(t=14∨t=13∨t=12∨t=11∨t=6∨t=7∨t=5∨t=1∨t=4∨t=2∨t=3)→∀r u,xQ v4 r t u→(u=14∨u=13∨u=12∨u=11∨u=6∨u=7∨u=5∨u=1∨u=4∨u=2∨u=3)):=by
 have n14:zD v4 14=⟨7,1,0,0,⟨#[]⟩,13,0⟩:=by kernel_rfl
 have n13:zD v4 13=⟨4,0,0,0,⟨#[]⟩,12,11⟩:=by kernel_rfl
 have n12:zD v4 12=⟨3,0,0,0,qN,0,0⟩:=by kernel_rfl
 have n11:zD v4 11=⟨4,0,0,0,⟨#[]⟩,6,7⟩:=by kernel_rfl
 have n6:zD v4 6=⟨8,0,1,0,⟨#[]⟩,5,0⟩:=by kernel_rfl
 have n7:zD v4 7=⟨8,1,0,0,⟨#[]⟩,5,0⟩:=by kernel_rfl
 have n5:zD v4 5=⟨4,0,0,0,⟨#[]⟩,1,4⟩:=by kernel_rfl
 have n1:zD v4 1=⟨3,0,0,0,⟨#[100,101,97,108]⟩,0,0⟩:=by kernel_rfl
 have n4:zD v4 4=⟨4,0,0,0,⟨#[]⟩,2,3⟩:=by kernel_rfl
 have n2:zD v4 2=⟨2,0,0,7,⟨#[]⟩,0,0⟩:=by kernel_rfl
 have n3:zD v4 3=⟨3,0,0,0,x12,0,0⟩:=by kernel_rfl
 intro t ht r u ha;unfold xQ at ha;rcases ht with rfl | rfl | rfl | rfl | rfl | rfl | rfl | rfl | rfl | rfl | rfl
 ·rw [n14] at ha;simp [yF] at ha;omega
 ·rw [n13] at ha;simp [yF] at ha;omega
 ·rw [n12] at ha;simp [yF] at ha
 ·rw [n11] at ha;simp [yF] at ha;omega
 ·rw [n6] at ha;simp [yF] at ha;omega
 ·rw [n7] at ha;simp [yF] at ha;omega
 ·rw [n5] at ha;simp [yF] at ha;omega
 ·rw [n1] at ha;simp [yF] at ha
 ·rw [n4] at ha;simp [yF] at ha;omega
 ·rw [n2] at ha;simp [yF] at ha
 ·rw [n3] at ha;simp [yF] at ha
theorem lv9 {fs:List Fact} (h:jQL v4 (jGD v4 [14]) fs):fs.length=3:=by
 have hg:jGD v4 [14]=[14]:=by kernel_rfl
 have e14:ofS v4 14=[⟨4,1,7,x12⟩,⟨1,0,7,x12⟩,⟨1,1,7,x12⟩]:=by kernel_rfl
 rw [hg] at h;have hs:([⟨1,0,7,x12⟩,⟨1,1,7,x12⟩,⟨4,1,7,x12⟩]:List Fact).Pairwise LtF:=by
  simp [LtF]
 have:fs=[⟨1,0,7,x12⟩,⟨1,1,7,x12⟩,⟨4,1,7,x12⟩]:=by
  refine jGS h.1 hs fun x=>(h.2 x).trans ⟨?_,fun hx=>⟨14,.given (by simp),?_⟩⟩
  ·rintro ⟨t,ht,hx⟩;have hin:t=14∨t=13∨t=12∨t=11∨t=6∨t=7∨t=5∨t=1∨t=4∨t=2∨t=3:=by
    clear hx;induction ht with
    | given hg=>simp at hg;simp [hg]
    | aris _ ha ih=>exact lvn _ ih _ _ ha
   rcases hin with rfl | rfl | rfl | rfl | rfl | rfl | rfl | rfl | rfl | rfl | rfl
   ·rw [e14] at hx;simp at hx ⊢;rcases hx with h | h | h <;> simp [h]
   ·rw [show ofS v4 13=[] by kernel_rfl] at hx;simp at hx
   ·rw [show ofS v4 12=[] by kernel_rfl] at hx;simp at hx
   ·rw [show ofS v4 11=[] by kernel_rfl] at hx;simp at hx
   ·rw [show ofS v4 6=[⟨1,0,7,x12⟩] by kernel_rfl] at hx;simp at hx;simp [hx]
   ·rw [show ofS v4 7=[⟨1,1,7,x12⟩] by kernel_rfl] at hx;simp at hx;simp [hx]
   ·rw [show ofS v4 5=[] by kernel_rfl] at hx;simp at hx
   ·rw [show ofS v4 1=[] by kernel_rfl] at hx;simp at hx
   ·rw [show ofS v4 4=[] by kernel_rfl] at hx;simp at hx
   ·rw [show ofS v4 2=[] by kernel_rfl] at hx;simp at hx
   ·rw [show ofS v4 3=[] by kernel_rfl] at hx;simp at hx
  ·rw [e14];simp at hx ⊢;rcases hx with h | h | h <;> simp [h]
 rw [this];rfl
def jKT (L:Pool) (who a b:Int):Tree:=yQ who (vS (vP qN) (vS (zJ L a) (zJ L b)))
def jDO (L:Pool) (a b:Int):Prop:=4+(sizeOf L a+sizeOf L b)>4096∨max (depthOf L a) (depthOf L b)+3>64
theorem jET {L:Pool} (hW:Wf L) {t:Int} (ht:inP L t=true):1≤sizeOf L t∧1≤depthOf L t:=by
 have:=tY hW _ t rfl ht;exact ⟨this.s1,this.d1⟩
theorem jDZ {L:Pool} (hW:Wf L) (hl:L.length<65536) {a b:Int} (ha:inP L a=true) (hb:inP L b=true) {sz d:Int} (hs:1+(sizeOf L a+sizeOf L b)=sz) (hd:max (depthOf L a) (depthOf L b)+1=d) :
  ((sz>4096∨d>64)→(make L ⟨4,0,0,0,⟨#[]⟩,a,b⟩).2.1=52)∧(¬ (sz>4096∨d>64)→∃r M,make L ⟨4,0,0,0,⟨#[]⟩,a,b⟩=(r,0,L++M)∧inP (L++M) r=true∧zJ (L++M) r=vS (zJ (L++M) a) (zJ (L++M) b)∧Wf (L++M)∧sizeOf (L++M) r=sz∧depthOf (L++M) r=d∧(L++M).length≤L.length+1):=by
 have da:=(jET hW ha).2
 have hk:zS ⟨4,0,0,0,⟨#[]⟩,a,b⟩=[a,b]:=rfl
 obtain ⟨h1,h2⟩:=jPX (n:=⟨4,0,0,0,⟨#[]⟩,a,b⟩) hW hl (by kernel_rfl) (fun h=>by simp [shapeOf] at h) (fun h=>by simp [shapeOf] at h) (by kernel_rfl) (by rw [hk];intro k hk';simp at hk';rcases hk' with rfl | rfl;exact ha;exact hb) (sz:=sz) (d:=d) (by rw [hk];simp;omega) (by rw [hk];simp;omega)
 refine ⟨h1,fun h=>?_⟩
 obtain ⟨r,M,e,h3,h4,h5,h6,h7,h8⟩:=h2 h
 exact ⟨r,M,e,h3,by rw [qB h5 h3,h4];rfl,h5,h6,h7,h8⟩
theorem jJD {x:ByteArray} (hx:x.size≤64) {L:Pool} (hW:Wf L) (hl:L.length<65536):∃r M,make L ⟨3,0,0,0,x,0,0⟩=(r,0,L++M)∧inP (L++M) r=true∧zJ (L++M) r=vP x∧Wf (L++M)∧sizeOf (L++M) r=1∧depthOf (L++M) r=1∧(L++M).length≤L.length+1:=by
 have hk:zS ⟨3,0,0,0,x,0,0⟩=[]:=rfl;obtain ⟨_,h2⟩:=jPX (n:=⟨3,0,0,0,x,0,0⟩) hW hl (by kernel_rfl) (fun _=>rfl) (fun _=>rfl) (by show (if false=true then (50:Int) else if x.size>64 then 1 else 0)=0;rw [if_neg (by simp),if_neg (by omega)]) (by rw [hk];simp) (sz:=1) (d:=1) (by rw [hk];rfl) (by rw [hk];rfl);obtain ⟨r,M,e,h3,h4,h5,h6,h7,h8⟩:=h2 (by omega);exact ⟨r,M,e,h3,by rw [qB h5 h3,h4];rfl,h5,h6,h7,h8⟩
theorem jIQ {L:Pool} (hW:Wf L) (hl:L.length<65536) {who a:Int} (hw:who=0∨who=1∨who=2) (ha:inP L a=true) {sz d:Int} (hs:1+sizeOf L a=sz) (hd:depthOf L a+1=d) :
  ((sz>4096∨d>64)→(make L ⟨7,who,0,0,⟨#[]⟩,a,0⟩).2.1=52)∧(¬ (sz>4096∨d>64)→∃r M,make L ⟨7,who,0,0,⟨#[]⟩,a,0⟩=(r,0,L++M)∧inP (L++M) r=true∧zJ (L++M) r=yQ who (zJ (L++M) a)∧Wf (L++M)∧sizeOf (L++M) r=sz∧depthOf (L++M) r=d∧(L++M).length≤L.length+1):=by
 have da:=(jET hW ha).2
 have hk:zS ⟨7,who,0,0,⟨#[]⟩,a,0⟩=[a]:=rfl
 obtain ⟨h1,h2⟩:=jPX (n:=⟨7,who,0,0,⟨#[]⟩,a,0⟩) hW hl (by rcases hw with rfl | rfl | rfl <;> kernel_rfl) (fun h=>by simp [shapeOf] at h) (fun _=>rfl) (by rcases hw with rfl | rfl | rfl <;> kernel_rfl) (by rw [hk];intro k hk';simp at hk';rw [hk'];exact ha) (sz:=sz) (d:=d) (by rw [hk];simpa using hs) (by rw [hk];simp;omega)
 refine ⟨h1,fun h=>?_⟩
 obtain ⟨r,M,e,h3,h4,h5,h6,h7,h8⟩:=h2 h
 exact ⟨r,M,e,h3,by rw [qB h5 h3,h4];rfl,h5,h6,h7,h8⟩
theorem jOP {L:Pool} (hW:Wf L) (hl:L.length<60000) {who a b:Int} (hw:who=0∨who=1) (ha:inP L a=true) (hb:inP L b=true) {R:Int×Int×Pool}
  (hR:R=uR (make L ⟨4,0,0,0,⟨#[]⟩,a,b⟩) fun t L=>uR (make L ⟨3,0,0,0,qN,0,0⟩) fun d L=>uR (make L ⟨4,0,0,0,⟨#[]⟩,d,t⟩) fun t L=>make L ⟨7,who,0,0,⟨#[]⟩,t,0⟩) :
  (jDO L a b→R.1=0∧R.2.1=52)∧(¬ jDO L a b→R.2.1=0∧inP R.2.2 R.1=true∧zJ R.2.2 R.1=jKT L who a b):=by
 subst hR
 have pa:=jET hW ha
 have pb:=jET hW hb
 unfold jDO
 have z1:∀(L:Pool) (n:Node),(make L n).2.1=52→(make L n).1=0:=fun L n h=>by
  unfold make at h ⊢;simp only at h ⊢;split
  ·rfl
  ·rename_i hc;rw [if_neg hc] at h;split <;> rename_i hf <;> rw [hf] at h <;> simp only at h ⊢
   ·omega
   ·split
    ·rfl
    ·rename_i h2;rw [if_neg h2] at h;simp at h
 obtain ⟨p1,p2⟩:=jDZ hW (by omega) ha hb (sz:=1+(sizeOf L a+sizeOf L b)) (d:=max (depthOf L a) (depthOf L b)+1) rfl rfl
 by_cases h1:1+(sizeOf L a+sizeOf L b)>4096∨max (depthOf L a) (depthOf L b)+1>64
 ·have e:=p1 h1
  refine ⟨fun _=>?_,fun h=>absurd (by omega) h⟩
  rw [uR,if_pos (by rw [e];simp)]
  exact ⟨rfl,e⟩
 obtain ⟨t1,M1,e1,i1,x1,w1,s1,d1,l1⟩:=p2 h1
 rw [e1,uR,if_neg (by simp)]
 simp only
 have tr:∀{A M:Pool} (hW:Wf (A++M)) {v:Int},inP A v=true→zJ (A++M) v=zJ A v:=by intro A M hW v hv;exact uW hW _ v rfl hv
 obtain ⟨t2,M2,e2,i2,x2,w2,s2,d2,l2⟩:=jJD (x:=qN) (by decide) w1 (by omega)
 rw [e2,uR,if_neg (by simp)]
 simp only
 have i1':inP (L++M1++M2) t1=true:=xU i1
 obtain ⟨p3,p4⟩:=jDZ w2 (by omega) i2 i1' (sz:=3+(sizeOf L a+sizeOf L b)) (d:=max (depthOf L a) (depthOf L b)+2) (by rw [s2,yS i1,s1];omega) (by rw [d2,yR i1,d1];omega)
 by_cases h3:3+(sizeOf L a+sizeOf L b)>4096∨max (depthOf L a) (depthOf L b)+2>64
 ·have e:=p3 h3
  refine ⟨fun _=>?_,fun h=>absurd (by omega) h⟩
  rw [uR,if_pos (by rw [e];simp)]
  exact ⟨rfl,e⟩
 obtain ⟨t3,M3,e3,i3,x3,w3,s3,d3,l3⟩:=p4 h3
 rw [e3,uR,if_neg (by simp)]
 simp only
 obtain ⟨p5,p6⟩:=jIQ (who:=who) w3 (by omega) (hw.imp id .inl) i3 (sz:=4+(sizeOf L a+sizeOf L b)) (d:=max (depthOf L a) (depthOf L b)+3) (by rw [s3];omega) (by rw [d3];omega)
 refine ⟨fun h=>⟨z1 _ _ (p5 h),p5 h⟩,fun h=>?_⟩
 obtain ⟨t4,M4,e4,i4,x4,w4,s4,d4,l4⟩:=p6 h
 rw [e4]
 refine ⟨rfl,i4,?_⟩
 have j3:inP (L++M1) a=true:=xU ha
 have j3b:inP (L++M1) b=true:=xU hb
 rw [x4,tr w4 i3,x3,tr w3 i2,x2,tr w3 i1',tr w2 i1,x1,tr w1 ha,tr w1 hb]
 rfl
theorem of_req {L:Pool} (hW:Wf L) (hl:L.length<60000) {who a b:Int} (hw:who=0∨who=1) (ha:inP L a=true) (hb:inP L b=true) :
  (jDO L a b→of L (jKT L who a b)=(0,52,L))∧(¬ jDO L a b→(of L (jKT L who a b)).2.1=0):=by
 have la:=tY hW _ a rfl ha
 have lb:=tY hW _ b rfl hb
 have pa:=jET hW ha
 have pb:=jET hW hb
 have lp:LP (jKT L who a b) (1+(1+(1+(1+(sizeOf L a+sizeOf L b))))) (max 1 (max (depthOf L a) (depthOf L b)+1)+1+1):=by
  have h1:LP (vS (zJ L a) (zJ L b)) _ _:=LP2 (by decide) la lb;have h2:LP (vP qN) 1 1:=LP0 (by decide);have h3:LP (vS (vP qN) (vS (zJ L a) (zJ L b))) _ _:=LP2 (by decide) h2 h1;have h4:LP (yQ who (vS (vP qN) (vS (zJ L a) (zJ L b)))) _ _:=LP1 (by rcases hw with rfl | rfl <;> kernel_rfl) h3;exact h4
 unfold jDO
 refine ⟨fun h=>?_,fun h=>?_⟩
 ·have:=lp.no 0 0 (by omega) (by omega) (by omega)
  unfold of;rw [if_pos (by rw [this];simp),this]
 ·have hk:=lp.yes 0 0 (by omega) (by omega) (by omega) (by omega)
  have tr:∀{A M:Pool} (hW:Wf (A++M)) {v:Int},inP A v=true→zJ (A++M) v=zJ A v:=by intro A M hW v hv;exact uW hW _ v rfl hv
  obtain ⟨t2,M2,e2,i2,x2,w2,s2,d2,l2⟩:=jJD (x:=qN) (by decide) hW (by omega)
  have ia:inP (L++M2) a=true:=xU ha
  have ib:inP (L++M2) b=true:=xU hb
  have ga:grow (L++M2) (zJ L a)=(a,0,L++M2):=by rw [← tr w2 ha];exact jGB w2 _ a rfl ia
  have gb:grow (L++M2) (zJ L b)=(b,0,L++M2):=by rw [← tr w2 hb];exact jGB w2 _ b rfl ib
  obtain ⟨_,p2⟩:=jDZ w2 (by omega) ia ib (sz:=1+(sizeOf L a+sizeOf L b)) (d:=max (depthOf L a) (depthOf L b)+1) (by rw [yS ha,yS hb]) (by rw [yR ha,yR hb])
  obtain ⟨t1,M1,e1,i1,x1,w1,s1,d1,l1⟩:=p2 (by omega)
  obtain ⟨_,p4⟩:=jDZ w1 (by omega) (xU i2) i1 (sz:=3+(sizeOf L a+sizeOf L b)) (d:=max (depthOf L a) (depthOf L b)+2) (by rw [yS i2,s2,s1];omega) (by rw [yR i2,d2,d1];omega)
  obtain ⟨t3,M3,e3,i3,x3,w3,s3,d3,l3⟩:=p4 (by omega)
  obtain ⟨_,p6⟩:=jIQ (who:=who) w3 (by omega) (hw.imp id .inl) i3 (sz:=4+(sizeOf L a+sizeOf L b)) (d:=max (depthOf L a) (depthOf L b)+3) (by rw [s3];omega) (by rw [d3];omega)
  obtain ⟨t4,M4,e4,i4,x4,w4,s4,d4,l4⟩:=p6 (by omega)
  have hg:grow L (jKT L who a b)=(t4,0,L++M2++M1++M3++M4):=by
   unfold jKT yQ vS vP;simp [-List.append_assoc,grow,vG,e2,ga,gb,e1,e3,e4]
  unfold of
  rw [hk,if_neg (by simp),hg];simp
end Go.Sp
end
section
namespace Go.Sp
theorem jJU {L:Pool} (hW:Wf L):∀(n:Nat) (t:Int),t.toNat=n→inP L t=true→sizeOf L t=cnt (zJ L t):=by
 intro n;induction n using Nat.strongRecOn with
 | _ n ih =>
 intro t hn ht;have h:=hW.node ht;rw [qB hW ht,h.2.2.2.2.2.1,cnt];have:∀l:List Int,(∀k∈l,sizeOf L k=cnt (zJ L k))→(l.map (sizeOf L)).sum=(cntAll (l.map (zJ L)):Int):=by
  intro l;induction l with
  | nil=>intro _;rfl
  | cons a l ihl=>intro hh;simp only [List.map_cons,List.sum_cons,cntAll,hh a (by simp),ihl (fun k hk=>hh k (by simp [hk]))];omega
 rw [this _ (fun k hk=>?_)]
 ·omega
 ·have hk2:=h.2.2.2.2.1 k hk;have:=qC.1 hk2.1;exact ih k.toNat (by omega) k rfl hk2.1
theorem xC {L:Pool} {t k:Int} (h:(zY L t k).2=false):inP L t=true∧(zD L t).kind=k∧zY L t k=(zD L t,false):=by
 unfold zY at h ⊢;split at h
 ·rename_i hh;exact ⟨hh.1,hh.2,by rw [if_pos hh]⟩
 ·cases h
theorem xD {L:Pool} {t k:Int} (h:inP L t=true) (hk:(zD L t).kind=k):zY L t k=(zD L t,false):=by unfold zY;rw [if_pos ⟨h,hk⟩]
section
variable {L:Pool} (hW:Wf L) {t:Int} (ht:inP L t=true)
include hW ht
theorem jPW:(zD L t).text.size≤64:=by
 have:=(hW.node ht).2.2.2.1;unfold vB at this;split at this
 ·cases this
 split at this
 ·cases this
 ·omega
theorem nd3 (hk:(zD L t).kind=3):zJ L t=vP (zD L t).text:=by
 have h:=(hW.node ht).1;rw [qB hW ht,hk,vP];have hkk:zS (zD L t)=[]:=by unfold zS;rw [hk];rfl
 rw [hkk];unfold vC at h;rw [hk] at h;simp [shapeOf,isKind] at h;simp [h]
theorem nd2 (hk:(zD L t).kind=2):zJ L t=jBA (zD L t).num:=by
 have h:=(hW.node ht).1;rw [qB hW ht,hk,jBA];have hkk:zS (zD L t)=[]:=by unfold zS;rw [hk];rfl
 rw [hkk];unfold vC at h;rw [hk] at h;simp [shapeOf,isKind] at h;simp [h]
theorem nd4 (hk:(zD L t).kind=4):inP L (zD L t).a=true∧inP L (zD L t).b=true∧zJ L t=vS (zJ L (zD L t).a) (zJ L (zD L t).b):=by
 have h:=(hW.node ht).1;have hp:=(hW.node ht).2.2.2.2.1;have hkk:zS (zD L t)=[(zD L t).a,(zD L t).b]:=by unfold zS;rw [hk];rfl
 rw [hkk] at hp;refine ⟨(hp _ (by simp)).1,(hp _ (by simp)).1,?_⟩;rw [qB hW ht,hk,vS,hkk];unfold vC at h;rw [hk] at h;simp [shapeOf,isKind] at h;simp [h]
theorem nd7 (hk:(zD L t).kind=7):inP L (zD L t).a=true∧0≤(zD L t).frm∧zJ L t=yQ (zD L t).frm (zJ L (zD L t).a):=by
 have h:=(hW.node ht).1;have hf:=(hW.node ht).2.2.2.1;have hp:=(hW.node ht).2.2.2.2.1;have hkk:zS (zD L t)=[(zD L t).a]:=by unfold zS;rw [hk];rfl
 rw [hkk] at hp;refine ⟨(hp _ (by simp)).1,?_,?_⟩
 ·unfold vB at hf;rw [hk] at hf;split at hf
  ·cases hf
  ·rename_i hh;simp [shapeOf,jAM] at hh;omega
 rw [qB hW ht,hk,yQ,hkk];unfold vC at h;rw [hk] at h;simp [shapeOf,isKind] at h;simp [h]
theorem nd89 (hk:(zD L t).kind=8∨(zD L t).kind=9):inP L (zD L t).a=true∧0≤(zD L t).frm∧(zD L t).frm<16∧((zD L t).to=1 - (zD L t).frm→zJ L t=yL (zD L t).frm (zJ L (zD L t).a) ((zD L t).kind == 9)):=by
 have h:=(hW.node ht).1;have hf:=(hW.node ht).2.2.2.1;have hp:=(hW.node ht).2.2.2.2.1;have hkk:zS (zD L t)=[(zD L t).a]:=by unfold zS;rcases hk with hk | hk <;> (rw [hk];rfl)
 rw [hkk] at hp;have hff:0≤(zD L t).frm∧(zD L t).frm<16:=by
  unfold vB at hf;rcases hk with hk | hk <;>
  ·rw [hk] at hf;split at hf
   ·cases hf
   ·rename_i hh;simp [shapeOf,jAM] at hh;omega
 refine ⟨(hp _ (by simp)).1,hff.1,hff.2,fun hto=>?_⟩;rw [qB hW ht,yL,hkk,← hto];unfold vC at h;rcases hk with hk | hk <;>
 ·rw [hk] at h ⊢;simp [shapeOf,isKind] at h;simp [h]
theorem xE {k f t' u:Int} {x:ByteArray} {ks:List Tree} (h:zJ L t=.mk k f t' u x ks):(zD L t).kind=k∧(zD L t).frm=f∧(zD L t).to=t'∧(zD L t).num=u∧(zD L t).text=x:=by
 rw [qB hW ht] at h;injection h with h1 h2 h3 h4 h5 h6;exact ⟨h1,h2,h3,h4,h5⟩
end
theorem jEP {n:Int} (h:0≤n∧n<16):IntKind.i64.wrap (1 - n)=1 - n:=IntWalk.i64_in _ (by omega)
section
variable {L:Pool} (hW:Wf L) {t:Int}
include hW
theorem uC (h:(zU L t).2=false):inP L t=true∧inP L (zU L t).1.2=true∧zJ L t=vS (vP (zU L t).1.1) (zJ L (zU L t).1.2):=by
 unfold zU at h ⊢;simp only [Bool.or_eq_false_iff] at h;obtain ⟨ht,hk,e1⟩:=xC h.1;rw [e1] at h ⊢;simp only at h ⊢;obtain ⟨ha,hka,e2⟩:=xC h.2;rw [e2];obtain ⟨_,h2,h3⟩:=nd4 hW ht hk;exact ⟨ht,h2,by rw [h3,nd3 hW ha hka]⟩
theorem jAQ (ht:inP L t=true) {g:ByteArray} {y:Tree} (h:zJ L t=vS (vP g) y):∃n,zU L t=((g,n),false)∧inP L n=true∧zJ L n=y:=by
 have hk:=(xE hW ht (h.trans rfl)).1;obtain ⟨h1,h2,h3⟩:=nd4 hW ht hk;rw [h] at h3;have e1:vP g=zJ L (zD L t).a:=by simpa [vS] using (Tree.mk.inj h3).2.2.2.2.2 |> fun e=>(List.cons.inj e).1
 have e2:y=zJ L (zD L t).b:=by have:=(Tree.mk.inj h3).2.2.2.2.2;exact (List.cons.inj (List.cons.inj this).2).1
 have hka:=xE hW h1 (e1.symm.trans rfl);refine ⟨(zD L t).b,?_,h2,e2.symm⟩;unfold zU;rw [xD ht hk];simp only;rw [xD h1 hka.1];simp [hka.2.2.2.2]
theorem jDU (h:(vW L t).2=false):inP L t=true∧zJ L t=vY (vW L t).1.1 (vW L t).1.2∧(vW L t).1.2.size≤64:=by
 unfold vW at h ⊢;simp only [Bool.or_eq_false_iff,Bool.not_eq_false',decide_eq_true_eq] at h;obtain ⟨⟨⟨⟨h1,h2⟩,h3⟩,h4⟩,h5⟩:=h;obtain ⟨ht,_,e⟩:=uC hW h1;obtain ⟨hp,hpk,e2⟩:=xC h2;simp only at h3 ⊢;rw [e2] at h4 h5 ⊢;simp only at h4 h5 ⊢;obtain ⟨ha,hak,e4⟩:=xC h4;obtain ⟨hb,hbk,e5⟩:=xC h5;rw [e4,e5];refine ⟨ht,?_,jPW hW hb⟩;rw [e,h3,(nd4 hW hp hpk).2.2,nd2 hW ha hak,nd3 hW hb hbk];rfl
theorem jDV (ht:inP L t=true) {c:Int} {x:ByteArray} (h:zJ L t=vY c x):vW L t=((c,x),false):=by
 obtain ⟨n,e1,hn,e⟩:=jAQ hW ht h;have hk:=(xE hW hn (e.trans rfl)).1;obtain ⟨h1,h2,h3⟩:=nd4 hW hn hk;rw [e] at h3;have q1:jBA c=zJ L (zD L n).a:=(List.cons.inj (Tree.mk.inj h3).2.2.2.2.2).1;have q2:vP x=zJ L (zD L n).b:=(List.cons.inj (List.cons.inj (Tree.mk.inj h3).2.2.2.2.2).2).1;have k1:=xE hW h1 (q1.symm.trans rfl);have k2:=xE hW h2 (q2.symm.trans rfl);unfold vW;rw [e1];simp only;rw [xD hn hk];simp only;rw [xD h1 k1.1,xD h2 k2.1];simp [k1.2.2.2.1,k2.2.2.2.2]
theorem jFV (ht:inP L t=true) {c:Int} (h:zJ L t=jBA c):(zY L t 2).1.num=c∧(zY L t 2).2=false:=by
 have k:=xE hW ht (h.trans rfl);rw [xD ht k.1];exact ⟨k.2.2.2.1,rfl⟩
theorem jFU (h:(zY L t 2).2=false):inP L t=true∧zJ L t=jBA (zY L t 2).1.num:=by
 obtain ⟨h1,h2,e⟩:=xC h;rw [e];exact ⟨h1,nd2 hW h1 h2⟩
theorem tV (ht:inP L t=true) (h:(zT L t).2=false):(zT L t).1.kind=1∧((zT L t).1.frm=0∨(zT L t).1.frm=1)∧zJ L t=yL (zT L t).1.frm (vY (zT L t).1.c (zT L t).1.text) (zT L t).1.fake∧(zT L t).1.text.size≤64:=by
 unfold zT at h ⊢;simp only at h ⊢;split at h
 ·cases h
 rename_i hh;rw [if_neg hh];simp only [not_or,not_and,Classical.not_not] at hh;have hk:(zD L t).kind=8∨(zD L t).kind=9:=by
  by_cases h8:(zD L t).kind=8
  ·exact .inl h8
  ·exact .inr (hh.1 h8)
 obtain ⟨ha,h0,h16,hT⟩:=nd89 hW ht hk;have hto:=hh.2.2;rw [jEP ⟨h0,h16⟩] at hto;obtain ⟨_,e,hx⟩:=jDU hW h;simp only;refine ⟨trivial,by have:=hh.2.1;omega,by rw [hT hto,e],hx⟩
theorem tW (ht:inP L t=true) {n c:Int} {x:ByteArray} {g:Bool} (hn:n=0∨n=1) (h:zJ L t=yL n (vY c x) g):zT L t=(⟨1,n,c,x,g⟩,false):=by
 have k:=xE hW ht (h.trans rfl);have hk:(zD L t).kind=8∨(zD L t).kind=9:=by rw [k.1];cases g <;> simp
 obtain ⟨ha,h0,h16,hT⟩:=nd89 hW ht hk;have:=hT (by rw [k.2.2.1,k.2.1]);rw [h,k.2.1] at this;have q1:vY c x=zJ L (zD L t).a:=(List.cons.inj (Tree.mk.inj this).2.2.2.2.2).1;unfold zT;simp only;rw [if_neg,jDV hW ha q1.symm,k.1,k.2.1]
 ·cases g <;> rfl
 ·simp only [not_or,not_and,Classical.not_not];refine ⟨fun h8=>hk.resolve_left h8,by rw [k.2.1];omega,?_⟩;rw [k.2.2.1,jEP ⟨h0,h16⟩,k.2.1]
end
def IsL (x:Tree) (l:Letter):Prop:=qO l=0∧∃a b:Bool,(l.kind=4→l.fake=(a || b))∧x=vK l a b
theorem tD {k f c:Int} {x:ByteArray} {g:Bool} (h:qO ⟨k,f,c,x,g⟩=0):(k=1∨k=2∨k=3∨k=4∨k=5∨k=6∨k=7)∧(f=0∨f=1)∧(vR k=false→f=0)∧(vZ k=false→x=⟨#[]⟩)∧(g=true→k=1∨k=4)∧x.size≤64:=by
 unfold qO at h;simp only at h;split at h
 ·cases h
 rename_i hh;split at h
 ·cases h
 simp only [not_or,not_and,Classical.not_not] at hh;obtain ⟨h1,h2,h3,h4,h5,h6⟩:=hh;refine ⟨by omega,?_,h4,h5,?_,by omega⟩
 ·by_cases h0:f=0
  ·exact .inl h0
  ·exact .inr (h3 h0)
 ·intro hg;by_cases h1:k=1
  ·exact .inl h1
  ·exact .inr (h6 hg h1)
theorem yY {k f c:Int} {x:ByteArray} {g:Bool} (hk:1≤k∧k≤7) (hf:f=0∨f=1) (h1:vR k=false→f=0) (h2:vZ k=false→x=⟨#[]⟩) (h3:g=true→k=1∨k=4) (hx:x.size≤64):qO ⟨k,f,c,x,g⟩=0:=by
 unfold qO;simp only;rw [if_neg,if_neg (by omega)];simp only [not_or,not_and,Classical.not_not];refine ⟨by omega,by omega,fun h0=>hf.resolve_left h0,h1,h2,fun hg h1=>(h3 hg).resolve_left h1⟩
section
variable {L:Pool} (hW:Wf L) {t:Int}
include hW
theorem jHB {who:Int} (h:(vV L who t).2=false):∃c x a b,(vV L who t).1=⟨4,who,c,x,a || b⟩∧x.size≤64∧zJ L t=vS (yL 0 (vY c x) a) (yL 1 (vY c x) b):=by
 unfold vV at h ⊢;simp only [Bool.or_eq_false_iff,Bool.not_eq_false',decide_eq_true_eq,bne_eq_false_iff_eq] at h;obtain ⟨⟨⟨⟨⟨⟨h1,h2⟩,h3⟩,h4⟩,h5⟩,h6⟩,h7⟩:=h;obtain ⟨ht,hk,e⟩:=xC h1;simp only;rw [e] at h2 h3 h4 h5 h6 h7 ⊢;simp only at h2 h3 h4 h5 h6 h7 ⊢;obtain ⟨ha,hb,hT⟩:=nd4 hW ht hk;obtain ⟨_,_,ea,hx⟩:=tV hW ha h2;obtain ⟨_,_,eb,_⟩:=tV hW hb h3;refine ⟨_,_,_,_,rfl,hx,?_⟩;rw [hT,ea,eb,h4,h5,h6,h7]
theorem jHC (ht:inP L t=true) {who c:Int} {x:ByteArray} {a b:Bool} (h:zJ L t=vS (yL 0 (vY c x) a) (yL 1 (vY c x) b)):vV L who t=(⟨4,who,c,x,a || b⟩,false):=by
 have hk:=(xE hW ht (h.trans rfl)).1;obtain ⟨h1,h2,h3⟩:=nd4 hW ht hk;rw [h] at h3;have q1:=(List.cons.inj (Tree.mk.inj h3).2.2.2.2.2).1;have q2:=(List.cons.inj (List.cons.inj (Tree.mk.inj h3).2.2.2.2.2).2).1;unfold vV;simp only;rw [xD ht hk];simp only;rw [tW hW h1 (.inl rfl) q1.symm,tW hW h2 (.inr rfl) q2.symm];simp
theorem jIW {who:Int} (hw:0≤who) (h:(qH L who t).2=false):IsL (yQ who (zJ L t)) (qH L who t).1:=by
 unfold qH at h ⊢;simp only at h ⊢;by_cases c1:(zU L t).1.1=uQ∧who=0
 ·rw [if_pos c1] at h ⊢;simp only [Bool.or_eq_false_iff] at h;obtain ⟨ht,hn,e⟩:=uC hW h.1;show IsL _ ⟨3,0,_,⟨#[]⟩,false⟩;refine ⟨yY (by omega) (.inl rfl) (fun _=>rfl) (fun _=>rfl) (fun h=>nomatch h) (Nat.zero_le _),false,false,by simp,?_⟩;rw [e,c1.1,c1.2,(jFU hW h.2).2];rfl
 rw [if_neg c1] at h ⊢;by_cases c2:(zU L t).1.1=qX∧who=2
 ·rw [if_pos c2] at h ⊢;simp only [Bool.or_eq_false_iff] at h;obtain ⟨ht,hn,e⟩:=uC hW h.1;show IsL _ ⟨5,0,_,⟨#[]⟩,false⟩;refine ⟨yY (by omega) (.inl rfl) (fun _=>rfl) (fun _=>rfl) (fun h=>nomatch h) (Nat.zero_le _),false,false,by simp,?_⟩;rw [e,c2.1,c2.2,(jFU hW h.2).2];rfl
 rw [if_neg c2] at h ⊢;by_cases c3:(zU L t).1.1=qG∧who=2
 ·rw [if_pos c3] at h ⊢;simp only [Bool.or_eq_false_iff] at h;obtain ⟨ht,hn,e⟩:=uC hW h.1;obtain ⟨_,e2,hx⟩:=jDU hW h.2;refine ⟨yY (by omega) (.inl rfl) (fun _=>rfl) (by simp [vZ]) (by simp) hx,false,false,by simp,?_⟩;rw [e,c3.1,c3.2,e2];rfl
 rw [if_neg c3] at h ⊢;by_cases c4:(zU L t).1.1=jAI∧who≤1
 ·rw [if_pos c4] at h ⊢;simp only [Bool.or_eq_false_iff] at h;obtain ⟨_,e2,hx⟩:=jDU hW h.2;refine ⟨yY (by omega) (by omega) (by simp [vR]) (by simp [vZ,vR]) (by simp) hx,false,false,by simp,?_⟩;rw [e2];rfl
 rw [if_neg c4] at h ⊢;by_cases c5:(zU L t).1.1=yB∧who≤1
 ·rw [if_pos c5] at h ⊢;simp only [Bool.or_eq_false_iff] at h;obtain ⟨ht,hn,e⟩:=uC hW h.1;obtain ⟨c,x,a,b,e2,hx,e3⟩:=jHB hW h.2;rw [e2];refine ⟨yY (by omega) (by omega) (by simp [vR]) (by simp [vZ,vR]) (by simp) hx,a,b,by simp,?_⟩;rw [e,c5.1,e3];cases a <;> cases b <;> rfl
 rw [if_neg c5] at h;cases h
theorem jKA (ht:inP L t=true) (h:(xB L t).2=false):IsL (zJ L t) (xB L t).1:=by
 unfold xB at h ⊢;simp only at h ⊢;by_cases c1:(zD L t).kind=7
 ·rw [if_pos c1] at h ⊢;obtain ⟨h1,h2,h3⟩:=nd7 hW ht c1;rw [h3];exact jIW hW h2 h
 rw [if_neg c1] at h ⊢;by_cases c2:(zD L t).kind=8∨(zD L t).kind=9
 ·rw [if_pos c2] at h ⊢;obtain ⟨h1,h2,h3,h4⟩:=tV hW ht h;generalize zT L t=r at *;obtain ⟨⟨k,f,c,x,g⟩,b⟩:=r;simp only at h1 h2 h3 h4 ⊢;subst h1;exact ⟨yY (by omega) h2 (by simp [vR]) (by simp [vZ,vR]) (by simp) h4,false,false,by simp,h3⟩
 rw [if_neg c2] at h ⊢;split at h
 ·cases h
 rename_i c3;rw [if_neg c3];simp only [Bool.or_eq_true,Bool.not_eq_true',decide_eq_false_iff_not,not_or,Classical.not_not,Bool.not_eq_true] at c3;obtain ⟨_,hn,e⟩:=uC hW c3.1;show IsL _ ⟨7,0,_,⟨#[]⟩,false⟩;refine ⟨yY (by omega) (.inl rfl) (fun _=>rfl) (fun _=>rfl) (fun h=>nomatch h) (Nat.zero_le _),false,false,by simp,?_⟩;rw [e,c3.2,(jFU hW h).2];rfl
theorem jFT (ht:inP L t=true) {l:Letter} (h:IsL (zJ L t) l):xB L t=(l,false):=by
 obtain ⟨k,f,c,x,g⟩:=l;obtain ⟨h1,a,b,h4,hT⟩:=h;obtain ⟨hk,hf,hs,hx,hg,_⟩:=tD h1;have tagged:∀{who:Int} {gg:ByteArray} {y:Tree},zJ L t=yQ who (vS (vP gg) y)→(zD L t).kind=7∧(zD L t).frm=who∧inP L (zD L t).a=true∧zJ L (zD L t).a=vS (vP gg) y∧∃n,zU L (zD L t).a=((gg,n),false)∧inP L n=true∧zJ L n=y:=by
  intro who gg y e;have k:=xE hW ht (e.trans rfl);obtain ⟨q1,_,q3⟩:=nd7 hW ht k.1;rw [e] at q3;have q:=(List.cons.inj (Tree.mk.inj q3).2.2.2.2.2).1;exact ⟨k.1,k.2.1,q1,q.symm,jAQ hW q1 q.symm⟩
 rcases hk with rfl | rfl | rfl | rfl | rfl | rfl | rfl
 ·have e:zJ L t=yL f (vY c x) g:=hT;have k:=xE hW ht (e.trans rfl);unfold xB;simp only;rw [if_neg (by rw [k.1];cases g <;> decide),if_pos (by rw [k.1];cases g <;> decide),tW hW ht hf e]
 ·have e:zJ L t=yQ f (vY c x):=hT;have:g=false:=by cases g with
   | false=>rfl
   | true=>exact absurd (hg rfl) (by omega)
  subst this;obtain ⟨k,kf,h1,h2,n,e1,hn,e2⟩:=tagged e;unfold xB qH;simp only;rw [if_pos k,e1,kf];simp only;rw [if_neg (fun q=>absurd q.1 (by decide)),if_neg (fun q=>absurd q.1 (by decide)),if_neg (fun q=>absurd q.1 (by decide)),if_pos ⟨trivial,by omega⟩,jDV hW h1 h2];rfl
 ·obtain rfl:f=0:=hs rfl;obtain rfl:x=⟨#[]⟩:=hx rfl;have:g=false:=by cases g with
   | false=>rfl
   | true=>exact absurd (hg rfl) (by omega)
  subst this;have e:zJ L t=yQ 0 (vS (vP uQ) (jBA c)):=hT;obtain ⟨k,kf,h1,h2,n,e1,hn,e2⟩:=tagged e;obtain ⟨u1,u2⟩:=jFV hW hn e2;unfold xB qH;simp only;rw [if_pos k,e1,kf];simp only;rw [if_pos ⟨trivial,trivial⟩,u1,u2];rfl
 ·have e:zJ L t=yQ f (vS (vP yB) (vS (yL 0 (vY c x) (g && a)) (yL 1 (vY c x) (g && b)))):=hT;obtain ⟨k,kf,h1,h2,n,e1,hn,e2⟩:=tagged e;have hgg:((g && a) || (g && b))=g:=by
   have:=h4 rfl;simp only at this;subst this;cases a <;> cases b <;> rfl
  unfold xB qH;simp only;rw [if_pos k,e1,kf];simp only;rw [if_neg (fun q=>absurd q.1 (by decide)),if_neg (fun q=>absurd q.1 (by decide)),if_neg (fun q=>absurd q.1 (by decide)),if_neg (fun q=>absurd q.1 (by decide)),if_pos ⟨trivial,by omega⟩,jHC hW hn e2,hgg];rfl
 ·obtain rfl:f=0:=hs rfl;obtain rfl:x=⟨#[]⟩:=hx rfl;have:g=false:=by cases g with
   | false=>rfl
   | true=>exact absurd (hg rfl) (by omega)
  subst this;have e:zJ L t=yQ 2 (vS (vP qX) (jBA c)):=hT;obtain ⟨k,kf,h1,h2,n,e1,hn,e2⟩:=tagged e;obtain ⟨u1,u2⟩:=jFV hW hn e2;unfold xB qH;simp only;rw [if_pos k,e1,kf];simp only;rw [if_neg (fun q=>absurd q.1 (by decide)),if_pos ⟨trivial,trivial⟩,u1,u2];rfl
 ·obtain rfl:f=0:=hs rfl;have:g=false:=by cases g with
   | false=>rfl
   | true=>exact absurd (hg rfl) (by omega)
  subst this;have e:zJ L t=yQ 2 (vS (vP qG) (vY c x)):=hT;obtain ⟨k,kf,h1,h2,n,e1,hn,e2⟩:=tagged e;unfold xB qH;simp only;rw [if_pos k,e1,kf];simp only;rw [if_neg (fun q=>absurd q.1 (by decide)),if_neg (fun q=>absurd q.1 (by decide)),if_pos ⟨trivial,trivial⟩,jDV hW hn e2];rfl
 ·obtain rfl:f=0:=hs rfl;obtain rfl:x=⟨#[]⟩:=hx rfl;have:g=false:=by cases g with
   | false=>rfl
   | true=>exact absurd (hg rfl) (by omega)
  subst this;have e:zJ L t=vS (vP jGP) (jBA c):=hT;have k:=xE hW ht (e.trans rfl);obtain ⟨n,e1,hn,e2⟩:=jAQ hW ht e;obtain ⟨u1,u2⟩:=jFV hW hn e2;unfold xB;simp only;rw [if_neg (by rw [k.1];decide),if_neg (by rw [k.1];decide),e1];simp only;rw [if_neg (by simp),u1,u2]
end
theorem jFB (l:Letter) (a b:Bool):cnt (vK l a b)≤40:=by
 unfold vK;simp only [yL,vY,yQ,vS,vP,jBA];split
 ·simp [cnt,cntAll]
 split
 ·simp [cnt,cntAll]
 split
 ·simp [cnt,cntAll]
 split
 ·simp [cnt,cntAll]
 split
 ·simp [cnt,cntAll]
 split
 ·simp [cnt,cntAll]
 ·simp [cnt,cntAll]
theorem jBD {x:Tree} {l:Letter}:∀{n i:Nat} {l':Letter},yC x l n i=some l'→∃f,i≤f∧f<i+n∧jGM x l f=true∧l'=yV l f
 | 0,i,l',h=>by cases h
 | n+1,i,l',h=>by
  unfold yC at h;split at h
  ·rename_i hf;cases h;exact ⟨i,by omega,by omega,hf,rfl⟩
  ·obtain ⟨f,h1,h2,h3,h4⟩:=jBD h;exact ⟨f,by omega,by omega,h3,h4⟩
theorem jDF {x:Tree} {l:Letter} {f:Nat} (hf:jGM x l f=true):∀{n i:Nat},i≤f→f<i+n→yC x l n i≠none
 | 0,i,h1,h2=>by omega
 | n+1,i,h1,h2=>by
  unfold yC;split
  ·simp
  ·rename_i h;by_cases e:i=f
   ·subst e;exact absurd hf h
   ·exact jDF hf (by omega) (by omega)
theorem jBE {x:Tree} {k:Int}:∀{ps:List (List Nat)} {l:Letter},qS x k ps=some l→∃p∈ps,∃f,f<4∧jGM x (jII x k p) f=true∧l=yV (jII x k p) f
 | [],l,h=>by cases h
 | p :: ps,l,h=>by
  unfold qS at h;split at h
  ·rename_i l' he;cases h;obtain ⟨f,_,h2,h3,h4⟩:=jBD he;exact ⟨p,by simp,f,by omega,h3,h4⟩
  ·obtain ⟨p',h1,h2⟩:=jBE h;exact ⟨p',by simp [h1],h2⟩
theorem jDG {x:Tree} {k:Int} {p:List Nat} {f:Nat} (hf:f<4) (h:jGM x (jII x k p) f=true):∀{ps:List (List Nat)},p∈ps→qS x k ps≠none
 | [],hp=>by cases hp
 | q :: ps,hp=>by
  unfold qS;split
  ·simp
  ·rename_i he;rcases List.mem_cons.1 hp with e | e
   ·subst e;exact absurd he (jDF h (Nat.zero_le _) (by omega))
   ·exact jDG hf h e
theorem jBC {x:Tree}:∀{n:Nat} {i:Int} {l:Letter},yO x n i=some l→∃k p f,i≤k∧k<i+n∧f<4∧jGM x (jII x k p) f=true∧l=yV (jII x k p) f
 | 0,i,l,h=>by cases h
 | n+1,i,l,h=>by
  unfold yO at h;split at h
  ·rename_i l' he;cases h;obtain ⟨p,_,f,h1,h2,h3⟩:=jBE he;exact ⟨i,p,f,by omega,by omega,h1,h2,h3⟩
  ·obtain ⟨k,p,f,h1,h2,h3⟩:=jBC h;exact ⟨k,p,f,by omega,by omega,h3⟩
theorem jDE {x:Tree} {k:Int} {p:List Nat} {f:Nat} (hp:p∈deals) (hf:f<4) (h:jGM x (jII x k p) f=true):∀{n:Nat} {i:Int},i≤k→k<i+n→yO x n i≠none
 | 0,i,h1,h2=>by omega
 | n+1,i,h1,h2=>by
  unfold yO;split
  ·simp
  ·rename_i he;by_cases e:i=k
   ·subst e;exact absurd he (jDG hf h hp)
   ·exact jDE hp hf h (by omega) (by omega)
theorem jQB {x:Tree} {l:Letter} {f:Nat} (hf:f<4) (h:jGM x l f=true):IsL x (yV l f):=by
 unfold jGM at h;simp only [Bool.and_eq_true,decide_eq_true_eq] at h;obtain ⟨⟨h1,h2⟩,h3⟩:=h;refine ⟨h1,f % 2 == 1,f / 2 == 1,fun _=>?_,((jCS _ _).1 h3).symm⟩;have:f=0∨f=1∨f=2∨f=3:=by omega
 rcases this with rfl | rfl | rfl | rfl <;> rfl
theorem jDS {x:Tree} {l:Letter} (h:qQ x=(l,true)):IsL x l:=by
 unfold qQ at h;split at h
 ·rename_i l' he;cases h;obtain ⟨k,p,f,_,_,h1,h2,rfl⟩:=jBC he;exact jQB h1 h2
 ·cases h
theorem jDT {x:Tree} (h:(qQ x).2=false):qQ x=(yG,false)∧yO x 7 1=none:=by
 unfold qQ at h ⊢;split at h
 ·cases h
 ·rename_i he;simp only [he];exact ⟨trivial,trivial⟩
theorem jQC {x:Tree} {l l0:Letter} {f:Nat} (hl:qO l=0) (h1:yV l0 f=l) (h2:l0.kind=4∨f≠2) (h3:vK l (f % 2 == 1) (f / 2 == 1)=x):jGM x l0 f=true:=by
 unfold jGM;rw [h1,(jCS _ _).2 h3];simp [hl];exact h2
theorem jIV {x:Tree} {l:Letter} (h:IsL x l):(qQ x).2=true:=by
 cases hr:(qQ x).2 with
 | true=>rfl
 | false =>
  exfalso
  have hno:=(jDT hr).2
  obtain ⟨k,f,c,tx,g⟩:=l
  obtain ⟨h1,a,b,h4,hT⟩:=h
  obtain ⟨hk,hf,hs,hx,hg,_⟩:=tD h1
  have go:∀(p:List Nat) (fk:Nat),p∈deals→fk<4→yV (jII x k p) fk=⟨k,f,c,tx,g⟩→(k=4∨fk≠2)→vK ⟨k,f,c,tx,g⟩ (fk % 2 == 1) (fk / 2 == 1)=x→False:=by
   intro p fk hp hfk e1 e2 e3;exact jDE (x:=x) (k:=k) hp hfk (jQC h1 e1 (by simpa [jII] using e2) e3) (n:=7) (i:=1) (by omega) (by omega) hno
  have nog:k≠1→k≠4→g=false:=by
   intro n1 n4;cases g with
   | false=>rfl
   | true=>exact absurd (hg rfl) (by omega)
  rcases hk with rfl | rfl | rfl | rfl | rfl | rfl | rfl
  ·subst hT
   cases g with
   | false=>exact go [0] 0 (by simp [deals]) (by omega) rfl (by omega) rfl
   | true=>exact go [0] 1 (by simp [deals]) (by omega) rfl (by omega) rfl
  ·obtain rfl:=nog (by omega) (by omega)
   subst hT
   exact go [0] 0 (by simp [deals]) (by omega) rfl (by omega) rfl
  ·obtain rfl:=nog (by omega) (by omega)
   obtain rfl:f=0:=hs rfl
   obtain rfl:tx=⟨#[]⟩:=hx rfl
   subst hT
   exact go [0] 0 (by simp [deals]) (by omega) rfl (by omega) rfl
  ·have:=h4 rfl
   simp only at this
   subst this
   subst hT
   cases a <;> cases b
   ·exact go [0,1,0,0] 0 (by simp [deals]) (by omega) rfl (by omega) rfl
   ·exact go [0,1,0,0] 2 (by simp [deals]) (by omega) rfl (by omega) rfl
   ·exact go [0,1,0,0] 1 (by simp [deals]) (by omega) rfl (by omega) rfl
   ·exact go [0,1,0,0] 3 (by simp [deals]) (by omega) rfl (by omega) rfl
  ·obtain rfl:=nog (by omega) (by omega)
   obtain rfl:f=0:=hs rfl
   obtain rfl:tx=⟨#[]⟩:=hx rfl
   subst hT
   exact go [0] 0 (by simp [deals]) (by omega) rfl (by omega) rfl
  ·obtain rfl:=nog (by omega) (by omega)
   obtain rfl:f=0:=hs rfl
   subst hT
   exact go [0,1] 0 (by simp [deals]) (by omega) rfl (by omega) rfl
  ·obtain rfl:=nog (by omega) (by omega)
   obtain rfl:f=0:=hs rfl
   obtain rfl:tx=⟨#[]⟩:=hx rfl
   subst hT
   exact go [0] 0 (by simp [deals]) (by omega) rfl (by omega) rfl
theorem jJZ {L:Pool} {t:Int} (h:inP L t=false):qD L t=(yG,false):=by
 have e:zD L t=jCG:=by simp [zD,uS h]
 have e2:zU L t=((⟨#[]⟩,0),true)∨(zU L t).2=true:=by
  right;unfold zU;have:zY L t 4=(jCG,true):=by unfold zY;rw [if_neg (by rw [h];simp)]
  rw [this];rfl
 have e3:(zU L t).2=true:=by rcases e2 with e2 | e2 <;> simp [e2]
 have:(xB L t).2=true:=by
  unfold xB;simp only;rw [e,if_neg (by decide),if_neg (by decide),if_pos (by simp [e3])]
 unfold qD;rw [if_pos this]
theorem jBH {L:Pool} (hW:Wf L) (t:Int):qD L t=xS L t:=by
 cases hi:inP L t with
 | false =>
  rw [jJZ hi]
  unfold xS
  rw [if_neg (by simp [hi])]
 | true =>
  have hsz:=jJU hW _ t rfl hi
  cases hq:(xB L t).2 with
  | false =>
   have h:=jKA hW hi hq
   have hle:¬ sizeOf L t>40:=by
    obtain ⟨_,a,b,_,e⟩:=h;have:=jFB (xB L t).1 a b;rw [← e] at this;omega
   have hr:=jIV h
   have e:qQ (zJ L t)=((qQ (zJ L t)).1,true):=Prod.ext rfl hr
   have:=jFT hW hi (jDS e)
   unfold qD xS
   rw [if_neg (by simp [hq]),if_pos ⟨hi,hle⟩,e,this]
  | true =>
   unfold qD
   rw [if_pos hq]
   unfold xS
   split
   ·cases hr:(qQ (zJ L t)).2 with
    | false=>exact (jDT hr).1.symm
    | true =>
     have e:qQ (zJ L t)=((qQ (zJ L t)).1,true):=Prod.ext rfl hr
     have:=jFT hW hi (jDS e)
     rw [this] at hq;cases hq
   ·rfl
theorem jCV {L M:Pool} (hW:Wf (L++M)) {t:Int} (h:inP L t=true):qD (L++M) t=qD L t:=by
 rw [jBH hW,jBH hW.first];unfold xS;rw [xU h,h,yS h,uW hW _ t rfl h]
end Go.Sp
end
section
open Go Go.SE
namespace Go.Sp
def xK (L:Pool) (a b:Int) (fk:Bool):Int :=
 if inP L a=false∨inP L b=false then 51
 else if (qD L a).1.kind≠1∨(qD L b).1.kind≠1 then 120
 else if fk=false∧((qD L a).1.fake || (qD L b).1.fake)=true then 121
 else if (qD L a).1.frm≠0∨(qD L b).1.frm≠1∨(qD L a).1.c≠(qD L b).1.c∨(qD L a).1.text≠(qD L b).1.text then 122 else 0
theorem jGU {L:Pool} (hok:Ok L) (t:Int):sizeOf L t=0↔inP L t=false:=by
 cases h:inP L t with
 | true =>
  obtain ⟨i,hi,rfl⟩:=jEZ h
  have:=hok.size L[i] (List.getElem_mem hi)
  have e:sizeOf L ((i:Int)+1)=L[i].size:=by simp [sizeOf,jCJ hi]
  constructor
  ·intro h';omega
  ·intro h';cases h'
 | false =>
  refine ⟨fun _=>rfl,fun _=>?_⟩
  unfold sizeOf get;rw [if_neg (by rw [h];simp)];rfl
theorem jKN {L:Pool} (hok:Ok L) (a b:Int):(jAY L a b).2.2=xK L a b true:=by
 unfold jAY xK;simp only [jGU hok];split
 ·rfl
 ·split
  ·rfl
  ·exact (if_neg (fun h=>by cases h.1)).symm
def xV (L:Pool) (a:Int):Letter:=⟨6,0,(qD L a).1.c,(qD L a).1.text,false⟩
theorem jCY {L:Pool} (hok:Ok L) (a b:Int):qP L a b=if xK L a b false≠0 then (0,xK L a b false,L) else Go.Proofs.qF L (xV L a):=by
 unfold qP jAY xK xV;simp only [jGU hok];split
 ·rfl
 ·split
  ·rfl
  ·by_cases hf:((qD L a).1.fake || (qD L b).1.fake)=true
   ·simp [hf]
   ·simp only [Bool.not_eq_true] at hf;simp only [hf];split <;> simp_all
def jCU (L:Pool) (who a b:Int):Int×Int×Pool :=
 if who≠0∧who≠1 then (0,2,L) else if xK L a b true≠0 then (0,xK L a b true,L) else of L (jKT L who a b)
theorem jLR {L:Pool} {a b:Int} {fk:Bool} (h:xK L a b fk=0):inP L a=true∧inP L b=true:=by
 unfold xK at h;split at h
 ·cases h
 ·rename_i h';constructor
  ·cases e:inP L a;exact absurd (.inl e) h';rfl
  ·cases e:inP L b;exact absurd (.inr e) h';rfl
theorem jNX {L:Pool} (hW:Wf L) (hl:L.length<60000) (who a b:Int):(tU L who a b).2.1=(jCU L who a b).2.1∧zJ (tU L who a b).2.2 (tU L who a b).1=zJ (jCU L who a b).2.2 (jCU L who a b).1 ∧
  ((tU L who a b).2.1=0→(who=0∨who=1)∧xK L a b true=0∧inP (tU L who a b).2.2 (tU L who a b).1=true∧zJ (tU L who a b).2.2 (tU L who a b).1=jKT L who a b):=by
 have none:∀M:Pool,zJ M 0=jBJ:=fun M=>jAP (by cases h:inP M 0;rfl;have:=qC.1 h;omega)
 by_cases hw:who≠0∧who≠1
 ·have e1:tU L who a b=(0,2,L):=by unfold tU;rw [if_pos hw]
  have e2:jCU L who a b=(0,2,L):=by unfold jCU;rw [if_pos hw]
  rw [e1,e2];exact ⟨rfl,rfl,fun h=>by cases h⟩
 by_cases ht:xK L a b true≠0
 ·have e1:tU L who a b=(0,xK L a b true,L):=by unfold tU;rw [if_neg hw,jKN hW.ok,if_pos ht]
  have e2:jCU L who a b=(0,xK L a b true,L):=by unfold jCU;rw [if_neg hw,if_pos ht]
  rw [e1,e2];exact ⟨rfl,rfl,fun h=>absurd h ht⟩
 have ht:xK L a b true=0:=by omega
 have hw:who=0∨who=1:=by omega
 obtain ⟨ia,ib⟩:=jLR ht
 have e1:=jOP hW hl hw ia ib (R:=tU L who a b) (by unfold tU;rw [if_neg (by omega),jKN hW.ok,if_neg (by omega)])
 have e2:jCU L who a b=of L (jKT L who a b):=by unfold jCU;rw [if_neg (by omega),if_neg (by omega)]
 have e3:=of_req hW hl hw ia ib
 rw [e2]
 by_cases hb:jDO L a b
 ·obtain ⟨h1,h2⟩:=e1.1 hb
  have h3:=e3.1 hb
  rw [h3,h2,h1,none]
  exact ⟨rfl,(none _).symm,fun h=>by cases h⟩
 ·obtain ⟨h1,h2,h3⟩:=e1.2 hb
  have h4:=e3.2 hb
  rw [h1,h4,h3,(jMK hW h4).2.1]
  exact ⟨rfl,rfl,fun _=>⟨hw,ht,h2,rfl⟩⟩
theorem jMF {L:Pool} (hW:Wf L) {t:Int} (ht:inP L t=true) {l:Letter} (h:IsL (zJ L t) l):qD L t=(l,true):=by
 unfold qD;rw [jFT hW ht h,if_neg (by simp)]
theorem jQA {L:Pool} (hW:Wf L) {t:Int} (h:(qD L t).1.kind≠0):inP L t=true∧(qD L t).2=true∧IsL (zJ L t) (qD L t).1:=by
 have hi:inP L t=true:=by
  cases hi:inP L t with
  | true=>rfl
  | false=>rw [jJZ hi] at h;exact absurd rfl h
 cases hq:(xB L t).2 with
 | true=>unfold qD at h;rw [if_pos hq] at h;exact absurd rfl h
 | false =>
  have e:qD L t=((xB L t).1,true):=by unfold qD;rw [if_neg (by simp [hq])]
  rw [e]
  exact ⟨hi,rfl,jKA hW hi hq⟩
theorem LP.depth {T:Tree} {s d s' d':Int} (h:LP T s d) (h':LP T s' d') (hs:s≤4096) (hs':s'≤4096) (hd:d≤64) (hd':d'≤64):d=d':=by
 have a1:=h.d1;have a2:=h'.d1;by_cases e:d<d'
 ·have h1:=h.yes (64 - d) 0 (by omega) (by omega) (by omega) (by omega);have h2:=h'.no (64 - d) 0 (by omega) (by omega) (by omega);rw [h1] at h2;cases h2
 ·by_cases e2:d'<d
  ·have h1:=h'.yes (64 - d') 0 (by omega) (by omega) (by omega) (by omega);have h2:=h.no (64 - d') 0 (by omega) (by omega) (by omega);rw [h1] at h2;cases h2
  ·omega
theorem jDW {L:Pool} (hW:Wf L) {a:Int} (h:(qD L a).1.kind=1):∃dl,inP L dl=true∧zJ L dl=vY (qD L a).1.c (qD L a).1.text∧zJ L a=yL (qD L a).1.frm (vY (qD L a).1.c (qD L a).1.text) (qD L a).1.fake∧sizeOf L dl=5∧depthOf L dl=3∧qO (qD L a).1=0:=by
 obtain ⟨hi,_,hl,p,q,_,e⟩:=jQA hW (t:=a) (by omega);generalize qD L a=r at *;have e1:zJ L a=yL r.1.frm (vY r.1.c r.1.text) r.1.fake:=by rw [e];unfold vK;rw [if_pos h]
 have hx:r.1.text.size≤64:=by
  obtain ⟨⟨k,f,c,x,g⟩,ok⟩:=r;exact (tD hl).2.2.2.2.2
 have e2:=e1;rw [qB hW hi] at e2;unfold yL at e2;injection e2 with _ _ _ _ _ e3;have hn:=(hW.node hi).2.2.2.2.1;obtain ⟨dl,hdl⟩:∃dl,zS (zD L a)=[dl]:=by
  cases hk:zS (zD L a) with
  | nil=>rw [hk] at e3;simp at e3
  | cons x l =>
   cases l with
   | nil=>exact ⟨x,rfl⟩
   | cons y l=>rw [hk] at e3;simp at e3
 rw [hdl] at e3 hn;have hdi:=(hn dl (by simp)).1;have ht:zJ L dl=vY r.1.c r.1.text:=by simpa using e3
 have hsz:sizeOf L dl=5:=by
  have:=jJU hW _ dl rfl hdi;rw [ht] at this;rw [this];rfl
 have lp:=tY hW _ dl rfl hdi;have lp2:LP (vY r.1.c r.1.text) 5 3:=by
  have h1:LP (vP r.1.text) 1 1:=LP0 (by show (if (0:Int)=0 then (if false=true then (50:Int) else if r.1.text.size>64 then 1 else 0) else 0)=0;rw [if_pos rfl,if_neg (by simp),if_neg (by omega)]);have h2:LP (jBA r.1.c) 1 1:=LP0 (by kernel_rfl);have h3:LP (vP jAI) 1 1:=LP0 (by kernel_rfl);have h4:LP (vS (jBA r.1.c) (vP r.1.text)) (1+(1+1)) (max 1 1+1):=LP2 (by kernel_rfl) h2 h1;exact LP2 (by kernel_rfl) h3 h4
 rw [ht,hsz] at lp;have hdp:depthOf L dl≤64:=by
  obtain ⟨i,hi',rfl⟩:=jEZ hdi;have:=hW.ok.depth L[i] (List.getElem_mem hi');have e:depthOf L ((i:Int)+1)=L[i].depth:=by simp [depthOf,jCJ hi']
  omega
 exact ⟨dl,hdi,ht,e1,hsz,lp.depth lp2 (by omega) (by omega) hdp (by omega),hl⟩
theorem jMY {L:Pool} (hW:Wf L) (hl:L.length<60000) {a b:Int} (h:xK L a b false=0):(qP L a b).2.1=0∧qP L a b=Go.Proofs.qF L (xV L a)∧inP (qP L a b).2.2 (qP L a b).1=true∧qD (qP L a b).2.2 (qP L a b).1=(xV L a,true)∧∃M,(qP L a b).2.2=L++M:=by
 have e:=jCY hW.ok a b;rw [if_neg (by omega)] at e;have hk:(qD L a).1.kind=1:=by
  unfold xK at h;split at h
  ·cases h
  ·split at h
   ·cases h
   ·rename_i h';exact Classical.byContradiction fun hn=>h' (.inl hn)
 obtain ⟨dl,i1,t1,_,s1,d1,hle⟩:=jDW hW hk;have hx:qO (xV L a)=0:=by
  unfold xV;generalize (qD L a).1=r at *;obtain ⟨k,f,c,x,g⟩:=r;exact yY ⟨by omega,by omega⟩ (.inl rfl) (fun _=>rfl) (fun h=>by cases h) (fun h=>by cases h) (tD hle).2.2.2.2.2
 have hT:vK (xV L a) true true=yQ 2 (vS (vP qG) (vY (qD L a).1.c (qD L a).1.text)):=rfl;have eb:Go.Proofs.qF L (xV L a)=of L (vK (xV L a) true true):=by unfold Go.Proofs.qF;rw [if_neg (by omega)]
 have ho:(of L (vK (xV L a) true true)).2.1=0:=by
  rw [hT];have lp:=tY hW _ dl rfl i1;rw [t1,s1,d1] at lp;have h2:LP (vP qG) 1 1:=LP0 (by kernel_rfl);have h3:LP (vS (vP qG) (vY (qD L a).1.c (qD L a).1.text)) (1+(1+5)) (max 1 3+1):=LP2 (by kernel_rfl) h2 lp;have h4:LP (yQ 2 (vS (vP qG) (vY (qD L a).1.c (qD L a).1.text))) (1+(1+(1+5))) (max 1 3+1+1):=LP1 (by kernel_rfl) h3;have hk:=h4.yes 0 0 (by omega) (by omega) (by omega) (by omega);obtain ⟨t2,M2,e2,i2,x2,w2,s2,d2,l2⟩:=jJD (x:=qG) (by decide) hW (by omega);have id:inP (L++M2) dl=true:=xU i1;have gd:grow (L++M2) (vY (qD L a).1.c (qD L a).1.text)=(dl,0,L++M2):=by rw [← t1,← uW w2 _ dl rfl i1];exact jGB w2 _ dl rfl id
  obtain ⟨_,p4⟩:=jDZ w2 (by omega) i2 id (sz:=7) (d:=4) (by rw [s2,yS i1,s1];rfl) (by rw [d2,yR i1,d1];rfl);obtain ⟨t3,M3,e3,i3,x3,w3,s3,d3,l3⟩:=p4 (by omega);obtain ⟨_,p6⟩:=jIQ (who:=2) w3 (by omega) (by omega) i3 (sz:=8) (d:=5) (by rw [s3];rfl) (by rw [d3];rfl);obtain ⟨t4,M4,e4,i4,x4,w4,s4,d4,l4⟩:=p6 (by omega);have hg:grow L (yQ 2 (vS (vP qG) (vY (qD L a).1.c (qD L a).1.text)))=(t4,0,L++M2++M3++M4):=by
   unfold yQ vS vP;simp [-List.append_assoc,grow,vG,e2,gd,e3,e4]
  unfold of;rw [hk,if_neg (by simp),hg];simp
 rw [e,eb];obtain ⟨j1,j2,_⟩:=jMK hW ho;exact ⟨ho,rfl,j1,jMF (jOF hW _) j1 (by rw [j2];exact ⟨hx,true,true,fun h=>(by cases h),rfl⟩),jKB hW.ok _⟩
theorem jJE {L:Pool} (hW:Wf L) {a b:Int} (h:xK L a b false≠0):qP L a b=(0,xK L a b false,L):=by rw [jCY hW.ok,if_pos h]
theorem jMC {L M:Pool} (hW:Wf L) (hM:Wf M) {who a b q:Int} (hw:who=0∨who=1) (h:xK L a b true=0) (hq:inP M q=true) (ht:zJ M q=jKT L who a b) :
  qD M q=(⟨4,who,(qD L a).1.c,(qD L a).1.text,(qD L a).1.fake || (qD L b).1.fake⟩,true):=by
 unfold xK at h
 split at h
 ·cases h
 split at h
 ·cases h
 split at h
 ·cases h
 split at h
 ·cases h
 rename_i _ hk _ hp
 have ka:(qD L a).1.kind=1:=Classical.byContradiction fun hn=>hk (.inl hn)
 have kb:(qD L b).1.kind=1:=Classical.byContradiction fun hn=>hk (.inr hn)
 obtain ⟨_,_,_,ta,_,_,la⟩:=jDW hW ka
 obtain ⟨_,_,_,tb,_,_,_⟩:=jDW hW kb
 have p1:(qD L a).1.frm=0:=Classical.byContradiction fun hn=>hp (.inl hn)
 have p2:(qD L b).1.frm=1:=Classical.byContradiction fun hn=>hp (.inr (.inl hn))
 have p3:(qD L a).1.c=(qD L b).1.c:=Classical.byContradiction fun hn=>hp (.inr (.inr (.inl hn)))
 have p4:(qD L a).1.text=(qD L b).1.text:=Classical.byContradiction fun hn=>hp (.inr (.inr (.inr hn)))
 rw [← p3,← p4,p2] at tb
 rw [p1] at ta
 refine jMF hM hq ?_
 rw [ht]
 unfold jKT
 rw [ta,tb]
 generalize (qD L a).1=r at *
 generalize (qD L b).1.fake=g2 at *
 obtain ⟨k,f,c,x,g⟩:=r
 refine ⟨yY ⟨by omega,by omega⟩ hw (fun h=>by cases h) (fun h=>by cases h) (fun _=>.inr rfl) (tD la).2.2.2.2.2,g,g2,fun _=>rfl,?_⟩
 cases g <;> cases g2 <;> rfl
theorem jKU {L:Pool} (who a b:Int):∃M,(tU L who a b).2.2=L++M:=by
 have th:∀{L:Pool} {m:Int×Int×Pool} {f:Int→Pool→Int×Int×Pool},(∃M,m.2.2=L++M)→(∀t N,∃M,(f t N).2.2=N++M)→∃M,(uR m f).2.2=L++M:=by
  intro L m f h hf;obtain ⟨M,e⟩:=h;unfold uR;split
  ·exact ⟨M,e⟩
  ·obtain ⟨M',e'⟩:=hf m.1 m.2.2;exact ⟨M++M',by rw [e',e,List.append_assoc]⟩
 unfold tU;split
 ·exact ⟨[],by simp⟩
 ·split
  ·exact ⟨[],by simp⟩
  ·exact th (jAG _ _) fun t N=>th (jAG _ _) fun d N=>th (jAG _ _) fun t N=>jAG _ _
theorem jKV {L:Pool} (hok:Ok L) (who a b:Int):∃M,(jCU L who a b).2.2=L++M:=by
 unfold jCU;split
 ·exact ⟨[],by simp⟩
 ·split
  ·exact ⟨[],by simp⟩
  ·exact jKB hok _
end Go.Sp
end
section
open Go Go.SE
open Go.IntKind renaming i64 → q6
namespace Go.Proofs
open Tryz
set_option maxRecDepth 100000
set_option maxHeartbeats 4000000
attribute [local irreducible] wpL wpX opE wpE Calls
def m_L1_l1 (bB bH:Sl) (i1:Int) (Hl1:NP) (wl1:World) (Kc1:Int→NP→WP) (K:Bool→WP):Prop :=Br (decide (i1<(bB.len:Int))) (∃C1:WP,C1 wl1.drew∧∀w12,w12=wl1.drew→∃a1:Addr,At bB i1 6 a1∧∃aO aP aQ aR aS bI,(∀w',C1 w'→Row w' a1 (Ab aO aP aQ aR aS bI))∧∃a2:Addr,At bH i1 6 a2∧∃bO bP bQ bR bS bT,(∀w',C1 w'→Row w' a2 (Ab bO bP bQ bR bS bT))∧Calls prog 47 #[(.agg #[(vi aO),(vi aP),(vi aQ),(vu aR),(vs aS),bI.v]),(.agg #[(vi bO),(vi bP),(vi bQ),(vu bR),(vs bS),bT.v])] w12 (fun e w13=>∃r1,e=.returned (vb r1)∧C1 w13∧Kept Hl1 w12 w13∧Br (!r1) (K false w13) (Kc1 (q6.wrap (i1+1)) Hl1 w13))) (K true wl1)
def m_L1 (aX aZ:Int) (bC bF:Int) (bK:ByteArray) (bB:Sl) (aY bA:Int) (bD bG:Int) (bL:ByteArray) (bH:Sl) (w0:World) (K:Bool→WP):Prop :=∀y1:Bool,y1=((((((aX != aY) || (aZ != bA)) || (bC != bD)) || (bF != bG)) || (!(decide (bK=bL)))) || (((bB.len:Int):Int) != (bH.len:Int)))→Br y1 (∀H7 w7,Hst w0 None w0 H7 w7→K false w7) (∀H7 w7,Hst w0 None w0 H7 w7→∃(I1:Int→NP→WP) (mu1:Int→World→Nat),I1 0 H7 w7∧∀(i1:Int) (Hl1:NP) (wl1:World),Hst w0 Hl1 wl1 Hl1 wl1→I1 i1 Hl1 wl1→m_L1_l1 bB bH i1 Hl1 wl1 (fun y'0 H' w'=>I1 y'0 H' w'∧mu1 y'0 w'<mu1 i1 wl1) K)
theorem w_L1 (aX aZ bC bF bK bB aY bA bD bG bL bH w0 K) (h:m_L1 aX aZ bC bF bK bB aY bA bD bG bL bH w0 K):
  Calls prog 47 #[(.agg #[(vi aX),(vi aZ),(vi bC),(vu bF),(vs bK),bB.v]),(.agg #[(vi aY),(vi bA),(vi bD),(vu bG),(vs bL),bH.v])] w0 (fun e w'=>∃r2,e=.returned (vb r2)∧K r2 w'):=by
 refine cw (args:=[(Aa aX aZ bC bF bK bB),(Aa aY bA bD bG bL bH)]) func47 ntmps47 ?_
 obtain ⟨hs,hb⟩:=st0 w0
 refine eg (nw3 (Ab aX aZ bC bF bK bB) 107 hs hb xb fun p1 w1 H1 hs hb=>nw3 (Ab aY bA bD bG bL bH) 107 hs hb xb fun p2 w2 H2 hs hb=>q (ln (zA (zA (vN (fun ρ wJ=>∃b5'0 y1:Bool,∃HJ:NP,((((((aX != aY) || (aZ != bA)) || (bC != bD)) || (bF != bG)) || (!(decide (bK=bL))))=b5'0)∧(y1=(b5'0 || (((bB.len:Int):Int) != (bH.len:Int))))∧Hst w0 None w0 HJ wJ∧HB HJ wJ [(p2,(Ab aY bA bD bG bL bH),107),(p1,(Ab aX aZ bC bF bK bB),107)]∧Has ρ [(2,(vp (some p1))),(3,(vp (some p2))),(47,(vb y1))]) ?_ ?_)))))
 refine rg (q (q3 (xl (isAgg3 _) (hb.d0 1 (gS gZ))) (q (q3 (xl (isAgg3 _) (hb.d0 0 gZ)) (qb (zI 6 (fun ρ wJ=>∃b6'0:Bool,∃HJ:NP,((aX != aY)=b6'0)∧Hst w0 None w0 HJ wJ∧HB HJ wJ [(p2,(Ab aY bA bD bG bL bH),107),(p1,(Ab aX aZ bC bF bK bB),107)]∧Has ρ [(2,(vp (some p1))),(3,(vp (some p2))),(17,(vb (b6'0 || (aZ != bA))))]) ?_ ?_))))))
 rintro ρ w8 ⟨b6'0,H8,he0,hs,hb,hH⟩
 subst he0
 refine zM hH (q (zI 6 (fun ρ wJ=>∃b7'0:Bool,∃HJ:NP,(((aX != aY) || (aZ != bA))=b7'0)∧Hst w0 None w0 HJ wJ∧HB HJ wJ [(p2,(Ab aY bA bD bG bL bH),107),(p1,(Ab aX aZ bC bF bK bB),107)]∧Has ρ [(2,(vp (some p1))),(3,(vp (some p2))),(24,(vb (b7'0 || (bC != bD))))]) ?_ ?_))
 rintro ρ w9 ⟨b7'0,H9,he0,hs,hb,hH⟩
 subst he0
 refine zM hH (q (zI 6 (fun ρ wJ=>∃b8'0:Bool,∃HJ:NP,((((aX != aY) || (aZ != bA)) || (bC != bD))=b8'0)∧Hst w0 None w0 HJ wJ∧HB HJ wJ [(p2,(Ab aY bA bD bG bL bH),107),(p1,(Ab aX aZ bC bF bK bB),107)]∧Has ρ [(2,(vp (some p1))),(3,(vp (some p2))),(31,(vb (b8'0 || (bF != bG))))]) ?_ ?_))
 rintro ρ w10 ⟨b8'0,H10,he0,hs,hb,hH⟩
 subst he0
 refine zM hH (q (zI 6 (fun ρ wJ=>∃b9'0:Bool,∃HJ:NP,(((((aX != aY) || (aZ != bA)) || (bC != bD)) || (bF != bG))=b9'0)∧Hst w0 None w0 HJ wJ∧HB HJ wJ [(p2,(Ab aY bA bD bG bL bH),107),(p1,(Ab aX aZ bC bF bK bB),107)]∧Has ρ [(2,(vp (some p1))),(3,(vp (some p2))),(38,(vb (b9'0 || (!(decide (bK=bL))))))]) ?_ ?_))
 rintro ρ w11 ⟨b9'0,H11,he0,hs,hb,hH⟩
 subst he0
 refine zM hH (q ?_)
 rcases bte (((((aX != aY) || (aZ != bA)) || (bC != bD)) || (bF != bG)) || (!(decide (bK=bL)))) with hg18 | hg18
 refine sj2 39 hg18 (sj5 39 hg18 (q2 (vb true) (xT hg18) (ln ⟨true,_,_,hg18,rfl,hs,hb,hm⟩)))
 refine qk 39 hg18 (q4 39 hg18 (xl (isAgg66 _) (hb.d 1 5 (gS gZ))) (qk 39 hg18 (qk 39 hg18 (q4 39 hg18 (xl (isAgg66 _) (hb.d 0 5 gZ)) (qk 39 hg18 (qk 39 hg18 (q2 (vb (((bB.len:Int):Int) != (bH.len:Int))) (xF hg18) (ln ⟨false,_,_,hg18,rfl,hs,hb,hm⟩))))))))
 rcases bte ((((aX != aY) || (aZ != bA)) || (bC != bD)) || (bF != bG)) with hg17 | hg17
 refine sj5 32 hg17 (q2 (vb true) (xT hg17) (zC ⟨true,_,hg17,hs,hb,hm⟩))
 refine qk 32 hg17 (q4 32 hg17 (xl (isAgg9 _) (hb.d 1 4 (gS gZ))) (qk 32 hg17 (q4 32 hg17 (xl (isAgg9 _) (hb.d 0 4 gZ)) (stq (v:=(vb (!(decide (bK=bL))))) (wy 32 hg17) (uE (by kernel_rfl) (by kernel_rfl)) (q2 (vb (!(decide (bK=bL)))) (xF hg17) (zC ⟨false,_,hg17,hs,hb,hm⟩))))))
 rcases bte (((aX != aY) || (aZ != bA)) || (bC != bD)) with hg15 | hg15
 refine sj5 25 hg15 (q2 (vb true) (xT hg15) (zC ⟨true,_,hg15,hs,hb,hm⟩))
 refine qk 25 hg15 (q4 25 hg15 (xl (isAgg23 _) (hb.d 1 3 (gS gZ))) (qk 25 hg15 (q4 25 hg15 (xl (isAgg23 _) (hb.d 0 3 gZ)) (qk 25 hg15 (q2 (vb (bF != bG)) (xF hg15) (zC ⟨false,_,hg15,hs,hb,hm⟩))))))
 rcases bte ((aX != aY) || (aZ != bA)) with hg13 | hg13
 refine sj5 18 hg13 (q2 (vb true) (xT hg13) (zC ⟨true,_,hg13,hs,hb,hm⟩))
 refine qk 18 hg13 (q4 18 hg13 (xl (isAgg3 _) (hb.d 1 2 (gS gZ))) (qk 18 hg13 (q4 18 hg13 (xl (isAgg3 _) (hb.d 0 2 gZ)) (qk 18 hg13 (q2 (vb (bC != bD)) (xF hg13) (zC ⟨false,_,hg13,hs,hb,hm⟩))))))
 rcases bte (aX != aY) with hg11 | hg11
 refine sj5 11 hg11 (q2 (vb true) (xT hg11) (zC ⟨true,_,hg11,hs,hb,hm⟩))
 refine qk 11 hg11 (q4 11 hg11 (xl (isAgg3 _) (hb.d 1 1 (gS gZ))) (qk 11 hg11 (q4 11 hg11 (xl (isAgg3 _) (hb.d 0 1 gZ)) (qk 11 hg11 (q2 (vb (aZ != bA)) (xF hg11) (zC ⟨false,_,hg11,hs,hb,hm⟩))))))
 rintro ρ w7 ⟨b5'0,y1,H7,he0,hy1,hs,hb,hH⟩
 subst he0
 have h:=h y1 hy1
 refine vE hH (zL (cbr h ?_ ?_))<;>intro h
 refine eg (q (ln (er (zX ?_))))
 have ⟨h,hs⟩:=hs.hr (h H7 w7)
 refine rs1 results47 ⟨false,rfl,h⟩
 refine zB (zL (zA (eg (q (ln (zK ?_))))))
 have ⟨h,hs⟩:=hs.hr (h H7 w7)
 obtain ⟨I1,mu1,h0,hr⟩:=h
 refine vQ (σ:=Int×NP×World) (fun s ρ w=>w=s.2.2∧Has ρ [(2,(vp (some p1))),(3,(vp (some p2))),(5,(vi s.1))]∧Hst w0 s.2.1 w s.2.1 w∧HB s.2.1 w [(p2,(Ab aY bA bD bG bL bH),107),(p1,(Ab aX aZ bC bF bK bB),107)]∧I1 s.1 s.2.1 s.2.2) (fun s=>mu1 s.1 s.2.2) (0,H7,w7) ⟨rfl,hm,hs,hb,h0⟩ ?_
 rintro ⟨i1,Hl1,wl1⟩ ρ w ⟨hw,hH,hs,hb,hI⟩
 dsimp only at hw hH hs hb;subst w
 have h:=hr i1 Hl1 wl1 hs hI
 refine zV hH (zA (eg (qb (q3 (xl (isAgg66 _) (hb.d 1 5 (gS gZ))) (qb (ln (cbr h ?_ ?_)))))))<;>intro h
 refine zB (zL (zA (zK (zA ?_))))
 obtain ⟨C1,hC,h⟩:=h
 refine dr2 (fun x=>C1 x∧HB Hl1 x _) [10] [] ⟨hC,hb.drew⟩ h hs hb fun w12 hs hb h=>?_
 have hs:=hs.here
 refine qx 0 (vp (some (p1.add 5))) Kp0 (qz 1 bB.v Kp1 (fun w' hw'=>(xl (isAgg66 _) (hw'.2.cell 1 5 (gS gZ) (by kernel_rfl)))) (qx 2 (vi i1) Kp2 (qg 3 ?_)))
 obtain ⟨a1,hv4,h⟩:=h
 refine sy Kp3 (fun _ _=>xi (runUnderlying66 _) (sizeOf107 _) hv4) (qg 4 ?_)
 obtain ⟨aO,aP,aQ,aR,aS,bI,hv3,h⟩:=h
 refine sy (v:=(Aa aO aP aQ aR aS bI)) Kp4 (fun w' hw'=>(xa a1 (Ab aO aP aQ aR aS bI) (isAgg107 _) (sizeOf107 _) (hv3 w' hw'.1))) (qx 5 (vp (some (p2.add 5))) Kp5 (qz 6 bH.v Kp6 (fun w' hw'=>(xl (isAgg66 _) (hw'.2.cell 0 5 gZ (by kernel_rfl)))) (qx 7 (vi i1) Kp7 (qg 8 ?_))))
 obtain ⟨a2,hv2,h⟩:=h
 refine sy Kp8 (fun _ _=>xi (runUnderlying66 _) (sizeOf107 _) hv2) (qg 9 ?_)
 obtain ⟨bO,bP,bQ,bR,bS,bT,hv1,h⟩:=h
 refine sy (v:=(Aa bO bP bQ bR bS bT)) Kp9 (fun w' hw'=>(xa a2 (Ab bO bP bQ bR bS bT) (isAgg107 _) (sizeOf107 _) (hv1 w' hw'.1))) (lg 10 (slc (zO (S8 (zG (zG zN)))) call47 (h.mono ?_)))
 rintro e w13 ⟨r1,rfl,hC,hk,h⟩
 refine ⟨_,rfl,.inr ⟨hC,hb.kept hk⟩,?_⟩
 obtain ⟨hs,hb⟩:=hk.hh hs hb
 refine qx 11 (vb (!r1)) (zO (S8 (zG (zG (zG zN))))) (wn (zL (cbr h ?_ ?_)))<;>intro h
 refine eg (q (ln (er (qW (zX (zX (qW (zX (rs1 results47 ⟨false,rfl,h⟩)))))))))
 refine zB (uM (zL (rg (qc (ln ⟨((q6.wrap (i1+1)),Hl1,w13),⟨rfl,hm,hs,hb,h.1⟩,h.2⟩)))))
 refine vO (uI (uI (uD (zL (eg (q0 (vb true) (ln (er (rs1 results47 ⟨true,rfl,h⟩)))))))))
def m_B4 (p1:Option Addr) (t1:Int) (w0:World) (K:Bool→WP):Prop :=Br (decide (t1≥1)) (∃a1,p1=some a1∧∃v1:Sl,w0.cell? a1=some v1.v∧K (decide (t1≤(v1.len:Int))) w0) (K false w0)
theorem w_B4 (p1 t1 w0 K) (h:m_B4 p1 t1 w0 K):
  Calls prog 87 #[(vp p1),(vi t1)] w0 (fun e w'=>∃r1,e=.returned (vb r1)∧K r1 w'):=by
 refine cw (args:=[(vp p1),(vi t1)]) func87 ntmps87 (eg (q0 (vb false) (ln (eg (q0 (vi t1) (q0 (vb (decide (t1≥1))) (q0 (vb (decide (t1≥1))) ?_)))))))
 obtain ⟨hg1,h⟩|⟨hg1,h⟩:=h.br
 refine qk 7 hg1 (qk 7 hg1 ?_)
 obtain ⟨a1,hp1,h⟩:=h
 refine q4 7 hg1 (xn hp1) (qk 7 hg1 ?_)
 obtain ⟨v1,hv1,h⟩:=h
 refine q4 7 hg1 (xl (isAgg41 _) hv1) (qk 7 hg1 (qk 7 hg1 (q2 (vb (decide (t1≤(v1.len:Int)))) (xT hg1) (q (ln (er (rs1 results87 ⟨(decide (t1≤(v1.len:Int))),rfl,h⟩)))))))
 refine sj2 7 hg1 (sj5 7 hg1 (q2 (vb false) (xF hg1) (q (ln (er (rs1 results87 ⟨false,rfl,h⟩))))))
def m_C4 (p1:Option Addr) (t1:Int) (w0:World) (K:Int→Int→Int→Int→ByteArray→Int→Int→Bool→WP):Prop :=∀H1 w1,Hst w0 None w0 H1 w1→Calls prog 87 #[(vp p1),(vi t1)] w1 (fun e w2=>∃r1,e=.returned (vb r1)∧Kept H1 w1 w2∧Br (!r1) (∀w3,Hst w0 H1 w2 H1 w3→K 0 0 0 0 ⟨#[]⟩ 0 0 false w3) (∃a1,p1=some a1∧∃v1:Sl,w2.cell? a1=some v1.v∧∃a2:Addr,At v1 (q6.wrap (t1 - 1)) 7 a2∧∃aO aP aQ aR aS bM bN,Row w2 a2 (Ad aO aP aQ aR aS bM bN)∧∀w4,Hst w0 H1 w2 H1 w4→K aO aP aQ aR aS bM bN true w4))
theorem w_C4 (p1 t1 w0 K) (h:m_C4 p1 t1 w0 K):
  Calls prog 104 #[(vp p1),(vi t1)] w0 (fun e w'=>∃aN aT aU aV aW bJ bE r2,e=.returned (.tuple #[(Ae aN aT aU aV aW bJ bE),(vb r2)])∧K aN aT aU aV aW bJ bE r2 w'):=by
 refine cw (args:=[(vp p1),(vi t1)]) func104 ntmps104 ?_
 obtain ⟨hs,hb⟩:=st0 w0
 refine eg (nw3 (Al 0 0 0 0 0 0) 176 hs hb (zH (zeroValue176 _) rfl) fun p2 w1 H1 hs hb=>q (ln (zA (eg (qb ?_)))))
 have ⟨h,hs⟩:=hs.hr (h H1 w1)
 refine sc call87 (h.mono fun e w2 ⟨r1,k,hk,h⟩=>have ⟨hs,hb⟩:=hk.hh hs hb;⟨_,k,?_⟩)
 refine q (ln (cbr h ?_ ?_))<;>intro h
 refine eg (q (vU (zR rfl) (xo p2 (Al 0 0 0 0 0 0) (sizeOf176 _) (hb.k0 0 7 gZ)) ?_))
 intro w3 hn2
 obtain ⟨hs,hb⟩:=hb.st1 0 hs hn2 gZ
 refine q (ln (er (zX ?_)))
 have ⟨h,hs⟩:=hs.hr (h w3)
 refine tH (.inl rfl) (vs:=[(.agg #[(vi 0),(vi 0),(vi 0),(vu 0),ve,(vi 0),(vi 0)]),(vb false)]) (v:=(.tuple #[(.agg #[(vi 0),(vi 0),(vi 0),(vu 0),ve,(vi 0),(vi 0)]),(vb false)])) results104 ⟨(rva (isAgg176 _) (sizeOf176 _) (hb.r0 0 7 gZ)),(rvT (by kernel_rfl)),trivial⟩ (by kernel_rfl) ⟨0,0,0,0,⟨#[]⟩,0,0,false,rfl,h⟩
 refine zB (zL (eg (q (qm h fun a1 h=>q (ql (isAgg41 _) h fun v1 h=>qb (qi (runUnderlying41 _) (sizeOf176 _) h fun a2 h=>?_))))))
 obtain ⟨aO,aP,aQ,aR,aS,bM,bN,hv1,h⟩:=h
 refine qa (isAgg176 _) (sizeOf176 _) hv1 (vU (zR rfl) (xo p2 (Ad aO aP aQ aR aS bM bN) (sizeOf176 _) (hb.k0 0 7 gZ)) ?_)
 intro w4 hn3
 obtain ⟨hs,hb⟩:=hb.st1 0 hs hn3 gZ
 refine q (ln (er ?_))
 have ⟨h,hs⟩:=hs.hr (h w4)
 refine tH (.inl rfl) (vs:=[(Ae aO aP aQ aR aS bM bN),(vb true)]) (v:=(.tuple #[(Ae aO aP aQ aR aS bM bN),(vb true)])) results104 ⟨(rva (isAgg176 _) (sizeOf176 _) (hb.r0 0 7 gZ)),(rvT (by kernel_rfl)),trivial⟩ (by kernel_rfl) ⟨aO,aP,aQ,aR,aS,bM,bN,true,rfl,h⟩
def s_C (kind1:Int):Int :=(cond (kind1 == 4) 2 (cond (cond (kind1 == 5) (kind1 == 5) (cond (kind1 == 7) (kind1 == 7) (cond (kind1 == 8) (kind1 == 8) (kind1 == 9)))) 1 0))
theorem pw_C (kind1:Int) (w0:World) :
  Calls prog 105 #[(vi kind1)] w0 (fun e w'=>∃b'0 b'1:Bool,((kind1 == 4)=b'0∧(cond (kind1 == 5) (kind1 == 5) (cond (kind1 == 7) (kind1 == 7) (cond (kind1 == 8) (kind1 == 8) (kind1 == 9))))=b'1)∧(e=.returned (vi (cond b'0 2 (cond b'1 1 0))))∧Pure w0 w'):=by
 refine cw (args:=[(vi kind1)]) func105 ntmps105 (eg (q0 (vi 0) (ln (zA (eg (q0 (vi kind1) (ln ?_)))))))
 refine zK (eg (qb (ln (vI (t:=(kind1 == 4)) (by kernel_rfl) (fun hc1=>?_) (fun hc1=>?_)))))
 refine eg (q (ln (er (qW (zX (rs1 results105 (v:=(vi 2)) ⟨true,_,⟨hc1,rfl⟩,by kernel_rfl,Ext.refl _⟩))))))
 refine zA (eg (qb (ln (vN (fun ρ wJ=>∃b1'0 b1'1 b1'2:Bool,((kind1 == 5)=b1'0)∧((kind1 == 7)=b1'1)∧((kind1 == 8)=b1'2)∧w0=wJ∧Has ρ [(6,(vb (cond b1'0 (kind1 == 5) (cond b1'1 (kind1 == 7) (cond b1'2 (kind1 == 8) (kind1 == 9))))))]) ?_ ?_))))
 refine vI (t:=(kind1 == 5)) (by kernel_rfl) (fun hc5=>?_) (fun hc5=>?_)
 refine zB (zL ⟨true,_,_,hc5,rfl,rfl,rfl,hm⟩)
 refine eg (qb (ln (vI (t:=(kind1 == 7)) (by kernel_rfl) (fun hc6=>?_) (fun hc6=>?_))))
 refine zB (zL ⟨false,true,_,hc5,hc6,rfl,rfl,hm⟩)
 refine eg (qb (ln (vI (t:=(kind1 == 8)) (by kernel_rfl) (fun hc7=>?_) (fun hc7=>?_))))
 refine zB (zL ⟨false,false,true,hc5,hc6,hc7,rfl,hm⟩)
 refine rg (qb (ln ⟨false,false,false,hc5,hc6,hc7,rfl,hm⟩))
 rintro ρ w1 ⟨b1'0,b1'1,b1'2,he0,he1,he2,hw,hH⟩
 subst he0
 subst he1
 subst he2
 subst hw
 refine vE hH (zL (vI (t:=(cond (kind1 == 5) (kind1 == 5) (cond (kind1 == 7) (kind1 == 7) (cond (kind1 == 8) (kind1 == 8) (kind1 == 9))))) (by kernel_rfl) (fun hc8=>?_) (fun hc8=>?_)))
 refine eg (q (ln (er (qW (zX (rs1 results105 (v:=(vi 1)) ⟨false,true,⟨hc1,hc8⟩,by kernel_rfl,Ext.refl _⟩))))))
 refine zB (uM (zL (eg (q (ln (er (rs1 results105 (v:=(vi 0)) ⟨false,false,⟨hc1,hc8⟩,by kernel_rfl,Ext.refl _⟩)))))))
theorem p_C (kind1:Int) (w0:World):Calls prog 105 #[(.int .i64 kind1)] w0 (fun e w'=>e=.returned (.int .i64 (s_C kind1))∧Pure w0 w'):=by
 refine (pw_C kind1 w0).mono ?_;rintro e w' ⟨b'0,b'1,⟨e0,e1⟩,h,E⟩;subst e0;subst e1;exact ⟨h,E⟩
def m_A1_j1 (p1:Option Addr) (aN bE:Int) (aE aI:Int) (aJ aK:Int) (aL:ByteArray) (aH:Sl) (w0:World) (H:NP) (w:World) (K:Int→Int→Int→Int→ByteArray→Sl→WP):Prop :=Br (((s_C aN):Int) == 2) (∀w9,Hst w0 H w H w9→∃C1:WP,C1 w9.drew∧∀w10,w10=w9.drew→Calls prog 49 #[(vp p1),(vi bE)] w10 (fun e w11=>∃bU bV bW bX bY bZ,e=.returned (Aa bU bV bW bX bY bZ)∧C1 w11∧Kept H w10 w11∧∀p5 w12,New w11 (.cells #[(vi bU),(vi bV),(vi bW),(vu bX),(vs bY),bZ.v] 107) p5 w12→C1 w12∧∃s1:Sl,∃w13:World,(Builtin.append_ #[66,66] 66 #[aH.v,(Sl.mk (some p5) 1 1).v]).run prog w12=.ok s1.v w13∧C1 w13∧Kept H w12 w13∧∀w15,Hst w0 H w13 H w15→K aE aI aJ aK aL s1 w15)) (∀w16,Hst w0 H w H w16→K aE aI aJ aK aL aH w16)
def m_A1 (p1:Option Addr) (t1:Int) (w0:World) (K:Int→Int→Int→Int→ByteArray→Sl→WP):Prop :=∀H1 w1,Hst w0 None w0 H1 w1→Calls prog 104 #[(vp p1),(vi t1)] w1 (fun e w2=>∃aN aT aU aV aW bJ bE r1,e=.returned (.tuple #[(Ae aN aT aU aV aW bJ bE),(vb r1)])∧Kept H1 w1 w2∧Br (!r1) (∀H2 w5,Hst w0 H1 w2 H2 w5→K 0 0 0 0 ⟨#[]⟩ Sl.nil w5) (Br (decide ((s_C aN)≥1)) (∀H3 w8,Hst w0 H1 w2 H3 w8→∃C2:WP,C2 w8.drew∧∀w17,w17=w8.drew→Calls prog 49 #[(vp p1),(vi bJ)] w17 (fun e w18=>∃cA cB cC cD cE cF,e=.returned (Aa cA cB cC cD cE cF)∧C2 w18∧Kept H3 w17 w18∧∀p6 w19,New w18 (.cells #[(vi cA),(vi cB),(vi cC),(vu cD),(vs cE),cF.v] 107) p6 w19→C2 w19∧∃s2:Sl,∃w20:World,(Builtin.append_ #[66,66] 66 #[Sl.nil.v,(Sl.mk (some p6) 1 1).v]).run prog w19=.ok s2.v w20∧C2 w20∧Kept H3 w19 w20∧∀w21,Hst w0 H3 w20 H3 w21→m_A1_j1 p1 aN bE aN aT aU aV aW s2 w0 H3 w21 K)) (∀H3 w8,Hst w0 H1 w2 H3 w8→m_A1_j1 p1 aN bE aN aT aU aV aW Sl.nil w0 H3 w8 K)))
theorem w_A1 (p1 t1 w0 K) (h:m_A1 p1 t1 w0 K):
  Calls prog 49 #[(vp p1),(vi t1)] w0 (fun e w'=>∃cG cH cI cJ cK cL,e=.returned (Aa cG cH cI cJ cK cL)∧K cG cH cI cJ cK cL w'):=by
 refine cw (args:=[(vp p1),(vi t1)]) func49 ntmps49 ?_
 obtain ⟨hs,hb⟩:=st0 w0
 refine eg (nw3 [(vi 0),(vi 0),(vi 0),(vu 0),ve,Sl.nil.v] 107 hs hb (zH (zeroValue107 _) rfl) fun p2 w1 H1 hs hb=>ln (eg (qb ?_)))
 have ⟨h,hs⟩:=hs.hr (h H1 w1)
 refine sc call104 (h.mono fun e w2 ⟨aN,aT,aU,aV,aW,bJ,bE,r1,k,hk,h⟩=>have ⟨hs,hb⟩:=hk.hh hs hb;⟨_,k,?_⟩)
 refine qc (nw3 (Al 0 0 0 0 0 0) 176 hs hb (zH (zeroValue176 _) rfl) fun p3 w3 H2 hs hb=>sbx 0 (Ad aN aT aU aV aW bJ bE) (sizeOf176 _) hs hb gZ fun w4 hs hb=>q (ln (zA (eg (qb (ln (cbr h ?_ ?_)))))))<;>intro h
 refine eg (q (vU (zR rfl) (xo p2 [(vi 0),(vi 0),(vi 0),(vu 0),ve,Sl.nil.v] (sizeOf107 _) (hb.k0 1 6 (gS gZ))) ?_))
 intro w5 hn4
 obtain ⟨hs,hb⟩:=hb.st1 1 hs hn4 (gS gZ)
 refine ln (er (zX ?_))
 have ⟨h,hs⟩:=hs.hr (h H2 w5)
 refine tH (.inl rfl) (vs:=[(.agg #[(vi 0),(vi 0),(vi 0),(vu 0),ve,Sl.nil.v])]) (v:=(.agg #[(vi 0),(vi 0),(vi 0),(vu 0),ve,Sl.nil.v])) results49 ⟨(rva (isAgg107 _) (sizeOf107 _) (hb.r0 1 6 (gS gZ))),trivial⟩ (by kernel_rfl) ⟨0,0,0,0,⟨#[]⟩,Sl.nil,rfl,h⟩
 refine zB (zL (eg (q (q3 (xl (isAgg3 _) (hb.d0 0 gZ)) (q (q3 (xl (isAgg3 _) (hb.d 0 1 gZ)) (q (q3 (xl (isAgg3 _) (hb.d 0 2 gZ)) (q (q3 (xl (isAgg23 _) (hb.d 0 3 gZ)) (q (q3 (xl (isAgg9 _) (hb.d 0 4 gZ)) (q (nw3 [(vi 0),(vi 0),(vi 0),(vu 0),ve,Sl.nil.v] 107 hs hb (zH (zeroValue107 _) rfl) fun p4 w6 H3 hs hb=>sbx 0 [(vi aN),(vi aT),(vi aU),(vu aV),(vs aW),Sl.nil.v] (sizeOf107 _) hs hb gZ fun w7 hs hb=>ln (zA (eg (q (q3 (xl (isAgg3 _) (hb.d0 1 (gS gZ))) (sc call105 ((p_C aN w7).mono ?_))))))))))))))))))))
 rintro e w8 ⟨he,hE⟩
 refine ⟨_,he,?_⟩
 obtain ⟨hs,hb⟩:=hs.pp hb hE
 refine q (ln (qT (fun ρ w=>∃aE aI aJ aK aL aH,∃H:NP,Has ρ [(0,(vp p1)),(4,(vp (some p2))),(5,(vp (some p3))),(7,(vp (some p4)))]∧Hst w0 H w H w∧HB H w [(p4,(Ab aE aI aJ aK aL aH),107),(p3,(Ad aN aT aU aV aW bJ bE),176),(p2,[(vi 0),(vi 0),(vi 0),(vu 0),ve,Sl.nil.v],107)]∧m_A1_j1 p1 aN bE aE aI aJ aK aL aH w0 H w K) ?_ ?_))
 rintro ρ w ⟨aE,aI,aJ,aK,aL,aH,H,hH,hs,hb,h⟩
 refine zV hH (zA (eg (q (q3 (xl (isAgg3 _) (hb.d0 1 (gS gZ))) (sc call105 ((p_C aN w).mono ?_))))))
 rintro e w9 ⟨he,hE⟩
 refine ⟨_,he,?_⟩
 obtain ⟨hs,hb⟩:=hs.pp hb hE
 refine q (ln (cbr h ?_ ?_))<;>intro h
 have ⟨h,hs⟩:=hs.hr (h w9)
 obtain ⟨C1,hC,h⟩:=h
 refine dr2 (fun x=>C1 x∧HB H x _) [5,6,7,9] [9] ⟨hC,hb.drew⟩ h hs hb fun w10 hs hb h=>?_
 have hs:=hs.here
 refine qx 0 (vp (some (p4.add 5))) Kp0 (qz 1 aH.v Kp1 (fun w' hw'=>(xl (isAgg66 _) (hw'.2.cell 0 5 gZ (by kernel_rfl)))) (qx 2 (vp p1) Kp2 (qx 3 (vp (some (p3.add 6))) Kp3 (qz 4 (vi bE) Kp4 (fun w' hw'=>(xl (isAgg78 _) (hw'.2.cell 1 6 (gS gZ) (by kernel_rfl)))) (lg 5 (slc Kp5 call49 (h.mono ?_)))))))
 rintro e w11 ⟨bU,bV,bW,bX,bY,bZ,rfl,hC,hk,h⟩
 refine ⟨_,rfl,.inr ⟨hC,hb.kept hk⟩,?_⟩
 obtain ⟨hs,hb⟩:=hk.hh hs hb
 refine lg 6 (qL (O:=(.cells #[(vi bU),(vi bV),(vi bW),(vu bX),(vs bY),bZ.v] 107)) (fun p=>(Sl.mk (some p) 1 1).v) Kp6 (zR rfl) (by kernel_rfl) (vL (vs:=#[(0,(Aa bU bV bW bX bY bZ))]) (by kernel_rfl) (by kernel_rfl)) ?_)
 intro p5 w12 hn9
 have h:=h p5 w12 hn9
 refine ⟨.inr ⟨h.1,hb.kept (Ext.new (F:=None) hn9).keptP⟩,?_⟩
 have h:=h.2
 obtain ⟨hs,hb⟩:=hs.nw hb hn9
 refine lg 7 ?_
 obtain ⟨s1,w13,hv1,hC,hk,h⟩:=h
 refine sl (v:=s1.v) Kp7 (zR rfl) (by kernel_rfl) (vT (args:=#[aH.v,(Sl.mk (some p5) 1 1).v]) (by kernel_rfl) (fun _=>rfl) hv1) (.inr ⟨hC,hb.kept hk⟩) ?_
 obtain ⟨hs,hb⟩:=hk.hh hs hb
 refine qx 8 (vp (some (p4.add 5))) Kp8 (lg 9 (jPS Kp9 (xs (v:=s1.v) (sizeOf66 _) (hb.canW 0 5 gZ (by kernel_rfl))) ?_))
 intro w14 hn7
 have hsb:Hst w0 H w13 H w14∧HB H w14 [(p4,(Ab aE aI aJ aK aL s1),107),(p3,(Ad aN aT aU aV aW bJ bE),176),(p2,[(vi 0),(vi 0),(vi 0),(vu 0),ve,Sl.nil.v],107)]:=by
  rw [hn7];exact hb.set (i:=0) 5 (v:=s1.v) hs gZ (by kernel_rfl)
 obtain ⟨hs,hb⟩:=hsb
 refine ⟨.inl (by kernel_rfl),?_⟩
 refine wn (zL (eg (q2 (Aa aE aI aJ aK aL s1) (xa p4 (Ab aE aI aJ aK aL s1) (isAgg107 _) (sizeOf107 _) (hb.r0 0 6 gZ)) (vU (zR rfl) (xo p2 (Ab aE aI aJ aK aL s1) (sizeOf107 _) (hb.k0 2 6 (gS (gS gZ)))) ?_))))
 intro w15 hn8
 obtain ⟨hs,hb⟩:=hb.st1 2 hs hn8 (gS (gS gZ))
 refine ln (er ?_)
 have ⟨h,hs⟩:=hs.hr (h w15)
 refine tH (.inl rfl) (vs:=[(Aa aE aI aJ aK aL s1)]) (v:=(Aa aE aI aJ aK aL s1)) results49 ⟨(rva (isAgg107 _) (sizeOf107 _) (hb.r0 2 6 (gS (gS gZ)))),trivial⟩ (by kernel_rfl) ⟨aE,aI,aJ,aK,aL,s1,rfl,h⟩
 refine zB (zL (eg (q2 (Aa aE aI aJ aK aL aH) (xa p4 (Ab aE aI aJ aK aL aH) (isAgg107 _) (sizeOf107 _) (hb.r0 0 6 gZ)) (vU (zR rfl) (xo p2 (Ab aE aI aJ aK aL aH) (sizeOf107 _) (hb.k0 2 6 (gS (gS gZ)))) ?_))))
 intro w16 hn10
 obtain ⟨hs,hb⟩:=hb.st1 2 hs hn10 (gS (gS gZ))
 refine ln (er ?_)
 have ⟨h,hs⟩:=hs.hr (h w16)
 refine tH (.inl rfl) (vs:=[(Aa aE aI aJ aK aL aH)]) (v:=(Aa aE aI aJ aK aL aH)) results49 ⟨(rva (isAgg107 _) (sizeOf107 _) (hb.r0 2 6 (gS (gS gZ)))),trivial⟩ (by kernel_rfl) ⟨aE,aI,aJ,aK,aL,aH,rfl,h⟩
 refine cbr h ?_ ?_<;>intro h
 have ⟨h,hs⟩:=hs.hr (h H3 w8)
 obtain ⟨C2,hC,h⟩:=h
 refine dr2 (fun x=>C2 x∧HB H3 x _) [5,6,7,9] [9] ⟨hC,hb.drew⟩ h hs hb fun w17 hs hb h=>?_
 have hs:=hs.here
 refine qx 0 (vp (some (p4.add 5))) Kp0 (qz 1 Sl.nil.v Kp1 (fun w' hw'=>(xl (isAgg66 _) (hw'.2.cell 0 5 gZ (by kernel_rfl)))) (qx 2 (vp p1) Kp2 (qx 3 (vp (some (p3.add 5))) Kp3 (qz 4 (vi bJ) Kp4 (fun w' hw'=>(xl (isAgg78 _) (hw'.2.cell 1 5 (gS gZ) (by kernel_rfl)))) (lg 5 (slc Kp5 call49 (h.mono ?_)))))))
 rintro e w18 ⟨cA,cB,cC,cD,cE,cF,rfl,hC,hk,h⟩
 refine ⟨_,rfl,.inr ⟨hC,hb.kept hk⟩,?_⟩
 obtain ⟨hs,hb⟩:=hk.hh hs hb
 refine lg 6 (qL (O:=(.cells #[(vi cA),(vi cB),(vi cC),(vu cD),(vs cE),cF.v] 107)) (fun p=>(Sl.mk (some p) 1 1).v) Kp6 (zR rfl) (by kernel_rfl) (vL (vs:=#[(0,(Aa cA cB cC cD cE cF))]) (by kernel_rfl) (by kernel_rfl)) ?_)
 intro p6 w19 hn12
 have h:=h p6 w19 hn12
 refine ⟨.inr ⟨h.1,hb.kept (Ext.new (F:=None) hn12).keptP⟩,?_⟩
 have h:=h.2
 obtain ⟨hs,hb⟩:=hs.nw hb hn12
 refine lg 7 ?_
 obtain ⟨s2,w20,hv2,hC,hk,h⟩:=h
 refine sl (v:=s2.v) Kp7 (zR rfl) (by kernel_rfl) (vT (args:=#[Sl.nil.v,(Sl.mk (some p6) 1 1).v]) (by kernel_rfl) (fun _=>rfl) hv2) (.inr ⟨hC,hb.kept hk⟩) ?_
 obtain ⟨hs,hb⟩:=hk.hh hs hb
 refine qx 8 (vp (some (p4.add 5))) Kp8 (lg 9 (jPS Kp9 (xs (v:=s2.v) (sizeOf66 _) (hb.canW 0 5 gZ (by kernel_rfl))) ?_))
 intro w21 hn11
 have hsb:Hst w0 H3 w20 H3 w21∧HB H3 w21 [(p4,(Ab aN aT aU aV aW s2),107),(p3,(Ad aN aT aU aV aW bJ bE),176),(p2,[(vi 0),(vi 0),(vi 0),(vu 0),ve,Sl.nil.v],107)]:=by
  rw [hn11];exact hb.set (i:=0) 5 (v:=s2.v) hs gZ (by kernel_rfl)
 obtain ⟨hs,hb⟩:=hsb
 refine ⟨.inl (by kernel_rfl),?_⟩
 refine wn ?_
 have ⟨h,hs⟩:=hs.hr (h w21)
 refine zL ⟨aN,aT,aU,aV,aW,s2,H3,hm,hs,hb,h⟩
 refine zB ?_
 have ⟨h,hs⟩:=hs.hr (h H3 w8)
 refine zL ⟨aN,aT,aU,aV,aW,Sl.nil,H3,hm,hs,hb,h⟩
def m_D4  (w0:World) (K:(Option Addr)→WP):Prop :=∀p1 w1,New w0 (.cells #[Sl.nil.v,Sl.nil.v,Sl.nil.v] 44) p1 w1→K (some p1) w1
theorem w_D4  (w0:World) (K:(Option Addr)→WP) (h:m_D4  w0 K) :
  Calls prog 63 #[] w0 (fun e w'=>∃r1,e=.returned (vp r1)∧K r1 w'):=by
 refine cw (args:=[]) func63 ntmps63 (eg (q0 (vp none) (ln (eg (q0 (.agg #[Sl.nil.v,Sl.nil.v,Sl.nil.v]) (sn (O:=(.cells #[Sl.nil.v,Sl.nil.v,Sl.nil.v] 44)) xb ?_))))))
 intro p1 w1 hn1
 have h:=h p1 w1 hn1
 refine q (ln (er (rs1 results63 ⟨(some p1),rfl,h⟩)))
def m_M1_l1 (aH:Sl) (most1 n1 i1:Int) (w0:World) (Hl1:NP) (wl1:World) (Kc1:Int→Int→NP→WP) (K:Int→WP):Prop :=Br ((decide (i1<(aH.len:Int))) && (decide (n1≤most1))) (∃a1:Addr,At aH i1 6 a1∧∀H2 w2,Hst w0 Hl1 wl1 H2 w2→∃aO aP aQ aR aS bI,Row w2 a1 (Ab aO aP aQ aR aS bI)∧Calls prog 75 #[(.agg #[(vi aO),(vi aP),(vi aQ),(vu aR),(vs aS),bI.v]),(vi (q6.wrap (most1 - n1)))] w2 (fun e w3=>∃r1,e=.returned (vi r1)∧Kept H2 w2 w3∧Kc1 (q6.wrap (n1+r1)) (q6.wrap (i1+1)) H2 w3)) (∀H2 w2,Hst w0 Hl1 wl1 H2 w2→K n1 w2)
def m_M1 (aE aI:Int) (aJ aK:Int) (aL:ByteArray) (aH:Sl) (most1:Int) (w0:World) (K:Int→WP):Prop :=∀H1 w1,Hst w0 None w0 H1 w1→∃(I1:Int→Int→NP→WP) (mu1:Int→Int→World→Nat),I1 1 0 H1 w1∧∀(n1 i1:Int) (Hl1:NP) (wl1:World),Hst w0 Hl1 wl1 Hl1 wl1→I1 n1 i1 Hl1 wl1→m_M1_l1 aH most1 n1 i1 w0 Hl1 wl1 (fun y'0 y'1 H' w'=>I1 y'0 y'1 H' w'∧mu1 y'0 y'1 w'<mu1 n1 i1 wl1) K
theorem w_M1 (aE aI aJ aK aL aH most1 w0 K) (h:m_M1 aE aI aJ aK aL aH most1 w0 K):
  Calls prog 75 #[(.agg #[(vi aE),(vi aI),(vi aJ),(vu aK),(vs aL),aH.v]),(vi most1)] w0 (fun e w'=>∃r2,e=.returned (vi r2)∧K r2 w'):=by
 refine cw (args:=[(Aa aE aI aJ aK aL aH),(vi most1)]) func75 ntmps75 ?_
 obtain ⟨hs,hb⟩:=st0 w0
 refine eg (nw3 (Ab aE aI aJ aK aL aH) 107 hs hb xb fun p1 w1 H1 hs hb=>q (ln (eg (q (ln (zA (eg (q (ln (zK ?_))))))))))
 have ⟨h,hs⟩:=hs.hr (h H1 w1)
 obtain ⟨I1,mu1,h0,hr⟩:=h
 refine vQ (σ:=Int×Int×NP×World) (fun s ρ w=>w=s.2.2.2∧Has ρ [(1,(vi most1)),(2,(vp (some p1))),(5,(vi s.1)),(6,(vi s.2.1))]∧Hst w0 s.2.2.1 w s.2.2.1 w∧HB s.2.2.1 w [(p1,(Ab aE aI aJ aK aL aH),107)]∧I1 s.1 s.2.1 s.2.2.1 s.2.2.2) (fun s=>mu1 s.1 s.2.1 s.2.2.2) (1,0,H1,w1) ⟨rfl,hm,hs,hb,h0⟩ ?_
 rintro ⟨n1,i1,Hl1,wl1⟩ ρ w ⟨hw,hH,hs,hb,hI⟩
 dsimp only at hw hH hs hb;subst w
 have h:=hr n1 i1 Hl1 wl1 hs hI
 refine zV hH (zA (zA (vN (fun ρ wJ=>∃b1'0:Bool,∃HJ:NP,((decide (i1<(aH.len:Int)))=b1'0)∧Hst w0 Hl1 wl1 HJ wJ∧HB HJ wJ [(p1,(Ab aE aI aJ aK aL aH),107)]∧Has ρ [(1,(vi most1)),(2,(vp (some p1))),(5,(vi n1)),(6,(vi i1)),(16,(vb (b1'0 && (decide (n1≤most1)))))]) ?_ ?_)))
 refine rg (qb (q3 (xl (isAgg66 _) (hb.d 0 5 gZ)) (qc ?_)))
 rcases bte (decide (i1<(aH.len:Int))) with hg2 | hg2
 refine qk 12 hg2 (qk 12 hg2 (qk 12 hg2 (q2 (vb (decide (n1≤most1))) (xT hg2) (ln ⟨true,_,hg2,hs,hb,hm⟩))))
 refine sj3 12 hg2 (q2 (vb false) (xF hg2) (ln ⟨false,_,hg2,hs,hb,hm⟩))
 rintro ρ w2 ⟨b1'0,H2,he0,hs,hb,hH⟩
 subst he0
 refine vE hH (zL (cbr h ?_ ?_))<;>intro h
 refine zB (zL (zA (zK (rg (qb (q3 (xl (isAgg66 _) (hb.d 0 5 gZ)) (q (qi (runUnderlying66 _) (sizeOf107 _) h fun a1 h=>?_))))))))
 have ⟨h,hs⟩:=hs.hr (h H2 w2)
 obtain ⟨aO,aP,aQ,aR,aS,bI,hv1,h⟩:=h
 refine qa (isAgg107 _) (sizeOf107 _) hv1 (qc (sc call75 (h.mono fun e w3 ⟨r1,k,hk,h⟩=>have ⟨hs,hb⟩:=hk.hh hs hb;⟨_,k,?_⟩)))
 refine qb (zC (uM (zL (rg (qc (ln ⟨((q6.wrap (n1+r1)),(q6.wrap (i1+1)),H2,w3),⟨rfl,hm,hs,hb,h.1⟩,h.2⟩))))))
 refine vO (uI (uI (uD (zL (eg (q0 (vi n1) (q0 (vi n1) (ln (er ?_)))))))))
 have ⟨h,hs⟩:=hs.hr (h H2 w2)
 refine rs1 results75 ⟨n1,rfl,h⟩
def s_C1 (aE aI:Int) (aJ aK:Int) (aL:ByteArray) (aH:Sl):Int×Int×Int×Int×ByteArray×Int×Int :=(aE,aI,aJ,aK,aL,0,0)
theorem pw_C1 (aE aI:Int) (aJ aK:Int) (aL:ByteArray) (aH:Sl) (w0:World) :
  Calls prog 204 #[(.agg #[(vi aE),(vi aI),(vi aJ),(vu aK),(vs aL),aH.v])] w0 (fun e w'=>(e=.returned (Ae aE aI aJ aK aL 0 0))∧Pure w0 w'):=by
 refine cw (args:=[(Aa aE aI aJ aK aL aH)]) func204 ntmps204 ?_
 obtain ⟨hs,hb⟩:=st0 w0
 refine eg (nw3 (Ab aE aI aJ aK aL aH) 107 hs hb xb fun p1 w1 H1 hs hb=>nw3 (Al 0 0 0 0 0 0) 176 hs hb (zH (zeroValue176 _) rfl) fun p2 w2 H2 hs hb=>ln (eg (q (q3 (xl (isAgg3 _) (hb.d0 1 (gS gZ))) (q (q3 (xl (isAgg3 _) (hb.d 1 1 (gS gZ))) (q (q3 (xl (isAgg3 _) (hb.d 1 2 (gS gZ))) (q (q3 (xl (isAgg23 _) (hb.d 1 3 (gS gZ))) (q (q3 (xl (isAgg9 _) (hb.d 1 4 (gS gZ))) (q (vU (zR rfl) (xo p2 (Ad aE aI aJ aK aL 0 0) (sizeOf176 _) (hb.k0 0 7 gZ)) ?_))))))))))))))
 intro w3 hn3
 obtain ⟨hs,hb⟩:=hb.st1 0 hs hn3 gZ
 refine ln (er (tH (.inl rfl) (vs:=[(Ae aE aI aJ aK aL 0 0)]) (v:=(Ae aE aI aJ aK aL 0 0)) results204 ⟨(rva (isAgg176 _) (sizeOf176 _) (hb.r0 0 7 gZ)),trivial⟩ (by kernel_rfl) ⟨by kernel_rfl,(Ext.refl (F:=None) _).hst hs⟩))
theorem p_C1 (aE aI:Int) (aJ aK:Int) (aL:ByteArray) (aH:Sl) (w0:World):Calls prog 204 #[(.agg #[(.int .i64 aE),(.int .i64 aI),(.int .i64 aJ),(.int .u64 aK),(.string aL),aH.v])] w0 (fun e w'=>e=.returned (.agg #[(.int .i64 (s_C1 aE aI aJ aK aL aH).1),(.int .i64 (s_C1 aE aI aJ aK aL aH).2.1),(.int .i64 (s_C1 aE aI aJ aK aL aH).2.2.1),(.int .u64 (s_C1 aE aI aJ aK aL aH).2.2.2.1),(.string (s_C1 aE aI aJ aK aL aH).2.2.2.2.1),(.int .i64 (s_C1 aE aI aJ aK aL aH).2.2.2.2.2.1),(.int .i64 (s_C1 aE aI aJ aK aL aH).2.2.2.2.2.2)])∧Pure w0 w'):=pw_C1 aE aI aJ aK aL aH w0
def s_W1 (kind1:Int):Bool :=((kind1 == 8) || (kind1 == 9))
theorem pw_W1 (kind1:Int) (w0:World) :
  Calls prog 225 #[(vi kind1)] w0 (fun e w'=>(e=.returned (vb ((kind1 == 8) || (kind1 == 9))))∧Pure w0 w'):=by
 refine cw (args:=[(vi kind1)]) func225 ntmps225 (eg (q0 (vb false) (ln (zA ?_))))
 refine vN (fun ρ wJ=>w0=wJ∧Has ρ [(2,(vb ((kind1 == 8) || (kind1 == 9))))]) ?_ ?_
 refine rg (qc (zI 3 (fun ρ wJ=>∃b3'0:Bool,((kind1 == 8)=b3'0)∧w0=wJ∧Has ρ [(8,(vb (b3'0 || (kind1 == 9))))]) ?_ ?_))
 rintro ρ w3 ⟨b3'0,he0,hw,hH⟩
 subst he0
 subst hw
 refine zM hH (q (ln ⟨rfl,hm⟩))
 rcases bte (kind1 == 8) with hg4 | hg4
 refine sj2 5 hg4 (q2 (vb true) (xT hg4) (zC ⟨true,hg4,rfl,hm⟩))
 refine qk 5 hg4 (qk 5 hg4 (q2 (vb (kind1 == 9)) (xF hg4) (zC ⟨false,hg4,rfl,hm⟩)))
 rintro ρ w2 ⟨hw,hH⟩
 subst hw
 refine vE hH (zL (er (rs1 results225 (v:=(vb ((kind1 == 8) || (kind1 == 9)))) ⟨by kernel_rfl,Ext.refl _⟩)))
theorem p_W1 (kind1:Int) (w0:World):Calls prog 225 #[(.int .i64 kind1)] w0 (fun e w'=>e=.returned (.bool (s_W1 kind1))∧Pure w0 w'):=pw_W1 kind1 w0
def s_D (kind1:Int):Bool :=((((kind1 == 1) || (kind1 == 6)) || (kind1 == 7)) || ((kind1 == 8) || (kind1 == 9)))
theorem pw_D (kind1:Int) (w0:World) :
  Calls prog 223 #[(vi kind1)] w0 (fun e w'=>(e=.returned (vb ((((kind1 == 1) || (kind1 == 6)) || (kind1 == 7)) || ((kind1 == 8) || (kind1 == 9)))))∧Pure w0 w'):=by
 refine cw (args:=[(vi kind1)]) func223 ntmps223 ?_
 obtain ⟨hs,hb⟩:=st0 w0
 refine eg (q (ln (zA (vN (fun ρ wJ=>∃HJ:NP,Hst w0 None w0 HJ wJ∧HB HJ wJ []∧Has ρ [(2,(vb ((((kind1 == 1) || (kind1 == 6)) || (kind1 == 7)) || ((kind1 == 8) || (kind1 == 9)))))]) ?_ ?_))))
 refine rg (qc (zI 3 (fun ρ wJ=>∃b5'0:Bool,∃HJ:NP,((kind1 == 1)=b5'0)∧Hst w0 None w0 HJ wJ∧HB HJ wJ []∧Has ρ [(0,(vi kind1)),(8,(vb (b5'0 || (kind1 == 6))))]) ?_ ?_))
 rintro ρ w7 ⟨b5'0,H5,he0,hs,hb,hH⟩
 subst he0
 refine zM hH (q (zI 3 (fun ρ wJ=>∃b6'0:Bool,∃HJ:NP,(((kind1 == 1) || (kind1 == 6))=b6'0)∧Hst w0 None w0 HJ wJ∧HB HJ wJ []∧Has ρ [(0,(vi kind1)),(12,(vb (b6'0 || (kind1 == 7))))]) ?_ ?_))
 rintro ρ w8 ⟨b6'0,H6,he0,hs,hb,hH⟩
 subst he0
 refine zM hH (q (zI 3 (fun ρ wJ=>∃b7'0:Bool,∃HJ:NP,((((kind1 == 1) || (kind1 == 6)) || (kind1 == 7))=b7'0)∧Hst w0 None w0 HJ wJ∧HB HJ wJ []∧Has ρ [(16,(vb (b7'0 || ((kind1 == 8) || (kind1 == 9)))))]) ?_ ?_))
 rintro ρ w10 ⟨b7'0,H7,he0,hs,hb,hH⟩
 subst he0
 refine zM hH (q (ln ⟨_,hs,hb,hm⟩))
 rcases bte (((kind1 == 1) || (kind1 == 6)) || (kind1 == 7)) with hg12 | hg12
 refine sj2 13 hg12 (q2 (vb true) (xT hg12) (zC ⟨true,_,hg12,hs,hb,hm⟩))
 refine qk 13 hg12 (vA (wy 13 hg12) (xc call225) ((p_W1 kind1 w8).mono ?_))
 rintro e w11 ⟨he,hE⟩
 refine ⟨_,he,?_⟩
 obtain ⟨hs,hb⟩:=hs.pp hb hE
 refine q2 (vb ((kind1 == 8) || (kind1 == 9))) (xF hg12) (zC ⟨false,_,hg12,hs,hb,hm⟩)
 rcases bte ((kind1 == 1) || (kind1 == 6)) with hg10 | hg10
 refine sj2 9 hg10 (q2 (vb true) (xT hg10) (zC ⟨true,_,hg10,hs,hb,hm⟩))
 refine qk 9 hg10 (qk 9 hg10 (q2 (vb (kind1 == 7)) (xF hg10) (zC ⟨false,_,hg10,hs,hb,hm⟩)))
 rcases bte (kind1 == 1) with hg8 | hg8
 refine sj2 5 hg8 (q2 (vb true) (xT hg8) (zC ⟨true,_,hg8,hs,hb,hm⟩))
 refine qk 5 hg8 (qk 5 hg8 (q2 (vb (kind1 == 6)) (xF hg8) (zC ⟨false,_,hg8,hs,hb,hm⟩)))
 rintro ρ w6 ⟨H4,hs,hb,hH⟩
 refine vE hH (zL (er (rs1 results223 (v:=(vb ((((kind1 == 1) || (kind1 == 6)) || (kind1 == 7)) || ((kind1 == 8) || (kind1 == 9))))) ⟨by kernel_rfl,(Ext.refl (F:=None) _).hst hs⟩)))
theorem p_D (kind1:Int) (w0:World):Calls prog 223 #[(.int .i64 kind1)] w0 (fun e w'=>e=.returned (.bool (s_D kind1))∧Pure w0 w'):=pw_D kind1 w0
def s_D1 (aA aB:Int) (aC aF:Int) (aD:ByteArray) (aG aM:Int):Bool :=(!((decide (aA<1)) || (decide (aA>9))) && (((((((s_D aA) || (aB == 0)) && (((aA == 8) || (aA == 9)) || (aC == 0))) && ((aA == 2) || (aF == 0))) && ((aA == 3) || (decide (aD=⟨#[]⟩)))) && ((decide ((s_C aA)≥1)) || (aG == 0))) && ((((s_C aA):Int) == 2) || (aM == 0))))
theorem pw_D1 (aA aB:Int) (aC aF:Int) (aD:ByteArray) (aG aM:Int) (w0:World) :
  Calls prog 222 #[(.agg #[(vi aA),(vi aB),(vi aC),(vu aF),(vs aD),(vi aG),(vi aM)])] w0 (fun e w'=>∃b'0:Bool,(((decide (aA<1)) || (decide (aA>9)))=b'0)∧(e=.returned (vb (!b'0 && (((((((s_D aA) || (aB == 0)) && (((aA == 8) || (aA == 9)) || (aC == 0))) && ((aA == 2) || (aF == 0))) && ((aA == 3) || (decide (aD=⟨#[]⟩)))) && ((decide ((s_C aA)≥1)) || (aG == 0))) && ((((s_C aA):Int) == 2) || (aM == 0))))))∧Pure w0 w'):=by
 refine cw (args:=[(Ae aA aB aC aF aD aG aM)]) func222 ntmps222 ?_
 obtain ⟨hs,hb⟩:=st0 w0
 refine eg (nw3 (Ad aA aB aC aF aD aG aM) 176 hs hb xb fun p1 w1 H1 hs hb=>q (ln (zA (zA (vN (fun ρ wJ=>∃b1'0:Bool,∃HJ:NP,((decide (aA<1))=b1'0)∧Hst w0 None w0 HJ wJ∧HB HJ wJ [(p1,(Ad aA aB aC aF aD aG aM),176)]∧Has ρ [(1,(vp (some p1))),(10,(vb (b1'0 || (decide (aA>9)))))]) ?_ ?_)))))
 refine rg (q (q3 (xl (isAgg3 _) (hb.d0 0 gZ)) (qb ?_)))
 rcases bte (decide (aA<1)) with hg2 | hg2
 refine sj3 6 hg2 (q2 (vb true) (xT hg2) (ln ⟨true,_,hg2,hs,hb,hm⟩))
 refine qk 6 hg2 (q4 6 hg2 (xl (isAgg3 _) (hb.d0 0 gZ)) (qk 6 hg2 (q2 (vb (decide (aA>9))) (xF hg2) (ln ⟨false,_,hg2,hs,hb,hm⟩))))
 rintro ρ w2 ⟨b1'0,H2,he0,hs,hb,hH⟩
 subst he0
 refine vE hH (zL (vI (t:=((decide (aA<1)) || (decide (aA>9)))) (by kernel_rfl) (fun hc1=>?_) (fun hc1=>?_)))
 refine eg (q (ln (er (zX (rs1 results222 (v:=(vb false)) ⟨true,hc1,by kernel_rfl,(Ext.refl (F:=None) _).hst hs⟩)))))
 refine zB (zL (zA (vN (fun ρ wJ=>∃HJ:NP,Hst w0 None w0 HJ wJ∧HB HJ wJ [(p1,(Ad aA aB aC aF aD aG aM),176)]∧Has ρ [(2,(vb (((((((s_D aA) || (aB == 0)) && (((aA == 8) || (aA == 9)) || (aC == 0))) && ((aA == 2) || (aF == 0))) && ((aA == 3) || (decide (aD=⟨#[]⟩)))) && ((decide ((s_C aA)≥1)) || (aG == 0))) && ((((s_C aA):Int) == 2) || (aM == 0)))))]) ?_ ?_)))
 refine rg (q (q3 (xl (isAgg3 _) (hb.d0 0 gZ)) (sc call223 ((p_D aA w2).mono ?_))))
 rintro e w27 ⟨he,hE⟩
 refine ⟨_,he,?_⟩
 obtain ⟨hs,hb⟩:=hs.pp hb hE
 refine q (zI 4 (fun ρ wJ=>∃b19'0:Bool,∃HJ:NP,((s_D aA)=b19'0)∧Hst w0 None w0 HJ wJ∧HB HJ wJ [(p1,(Ad aA aB aC aF aD aG aM),176)]∧Has ρ [(1,(vp (some p1))),(18,(vb (b19'0 || (aB == 0))))]) ?_ ?_)
 rintro ρ w28 ⟨b19'0,H20,he0,hs,hb,hH⟩
 subst he0
 refine zM hH (q (zI 9 (fun ρ wJ=>∃b21'0:Bool,∃HJ:NP,(((s_D aA) || (aB == 0))=b21'0)∧Hst w0 None w0 HJ wJ∧HB HJ wJ [(p1,(Ad aA aB aC aF aD aG aM),176)]∧Has ρ [(1,(vp (some p1))),(28,(vb (b21'0 && (((aA == 8) || (aA == 9)) || (aC == 0)))))]) ?_ ?_))
 rintro ρ w31 ⟨b21'0,H22,he0,hs,hb,hH⟩
 subst he0
 refine zM hH (q (zI 9 (fun ρ wJ=>∃b24'0:Bool,∃HJ:NP,((((s_D aA) || (aB == 0)) && (((aA == 8) || (aA == 9)) || (aC == 0)))=b24'0)∧Hst w0 None w0 HJ wJ∧HB HJ wJ [(p1,(Ad aA aB aC aF aD aG aM),176)]∧Has ρ [(1,(vp (some p1))),(38,(vb (b24'0 && ((aA == 2) || (aF == 0)))))]) ?_ ?_))
 rintro ρ w35 ⟨b24'0,H25,he0,hs,hb,hH⟩
 subst he0
 refine zM hH (q (zI 9 (fun ρ wJ=>∃b27'0:Bool,∃HJ:NP,(((((s_D aA) || (aB == 0)) && (((aA == 8) || (aA == 9)) || (aC == 0))) && ((aA == 2) || (aF == 0)))=b27'0)∧Hst w0 None w0 HJ wJ∧HB HJ wJ [(p1,(Ad aA aB aC aF aD aG aM),176)]∧Has ρ [(1,(vp (some p1))),(48,(vb (b27'0 && ((aA == 3) || (decide (aD=⟨#[]⟩))))))]) ?_ ?_))
 rintro ρ w38 ⟨b27'0,H28,he0,hs,hb,hH⟩
 subst he0
 refine zM hH (q (zI 10 (fun ρ wJ=>∃b30'0:Bool,∃HJ:NP,((((((s_D aA) || (aB == 0)) && (((aA == 8) || (aA == 9)) || (aC == 0))) && ((aA == 2) || (aF == 0))) && ((aA == 3) || (decide (aD=⟨#[]⟩))))=b30'0)∧Hst w0 None w0 HJ wJ∧HB HJ wJ [(p1,(Ad aA aB aC aF aD aG aM),176)]∧Has ρ [(1,(vp (some p1))),(59,(vb (b30'0 && ((decide ((s_C aA)≥1)) || (aG == 0)))))]) ?_ ?_))
 rintro ρ w42 ⟨b30'0,H31,he0,hs,hb,hH⟩
 subst he0
 refine zM hH (q (zI 10 (fun ρ wJ=>∃b33'0:Bool,∃HJ:NP,(((((((s_D aA) || (aB == 0)) && (((aA == 8) || (aA == 9)) || (aC == 0))) && ((aA == 2) || (aF == 0))) && ((aA == 3) || (decide (aD=⟨#[]⟩)))) && ((decide ((s_C aA)≥1)) || (aG == 0)))=b33'0)∧Hst w0 None w0 HJ wJ∧HB HJ wJ [(p1,(Ad aA aB aC aF aD aG aM),176)]∧Has ρ [(70,(vb (b33'0 && ((((s_C aA):Int) == 2) || (aM == 0)))))]) ?_ ?_))
 rintro ρ w47 ⟨b33'0,H34,he0,hs,hb,hH⟩
 subst he0
 refine zM hH (q (ln ⟨_,hs,hb,hm⟩))
 rcases bte ((((((s_D aA) || (aB == 0)) && (((aA == 8) || (aA == 9)) || (aC == 0))) && ((aA == 2) || (aF == 0))) && ((aA == 3) || (decide (aD=⟨#[]⟩)))) && ((decide ((s_C aA)≥1)) || (aG == 0))) with hg64 | hg64
 refine qk 60 hg64 (q4 60 hg64 (xl (isAgg3 _) (hb.d0 0 gZ)) (vA (wy 60 hg64) (xc call105) ((p_C aA w42).mono ?_)))
 rintro e w48 ⟨he,hE⟩
 refine ⟨_,he,?_⟩
 obtain ⟨hs,hb⟩:=hs.pp hb hE
 refine qk 60 hg64 (qk 60 hg64 (zI 4 (fun ρ wJ=>∃b34'0:Bool,∃HJ:NP,((((s_C aA):Int) == 2)=b34'0)∧Hst w0 None w0 HJ wJ∧HB HJ wJ [(p1,(Ad aA aB aC aF aD aG aM),176)]∧Has ρ [(60,(vb ((((((s_D aA) || (aB == 0)) && (((aA == 8) || (aA == 9)) || (aC == 0))) && ((aA == 2) || (aF == 0))) && ((aA == 3) || (decide (aD=⟨#[]⟩)))) && ((decide ((s_C aA)≥1)) || (aG == 0))))),(69,(vb (b34'0 || (aM == 0))))]) ?_ ?_))
 rintro ρ w49 ⟨b34'0,H35,he0,hs,hb,hH⟩
 subst he0
 refine zM hH (q2 (vb ((((s_C aA):Int) == 2) || (aM == 0))) (xT hg64) (zC ⟨true,_,hg64,hs,hb,hm⟩))
 rcases bte (((s_C aA):Int) == 2) with hg66 | hg66
 refine sj3 65 hg66 (stq (v:=(vb true)) (wy 60 hg64) (xT hg66) (zC ⟨true,_,hg66,hs,hb,hm⟩))
 refine qk 65 hg66 (q4 65 hg66 (xl (isAgg78 _) (hb.d 0 6 gZ)) (qk 65 hg66 (stq (v:=(vb (aM == 0))) (wy 60 hg64) (xF hg66) (zC ⟨false,_,hg66,hs,hb,hm⟩))))
 refine sj5 60 hg64 (sm (sm (sm (sj 60 hg64 (q2 (vb false) (xF hg64) (zC ⟨false,_,hg64,hs,hb,hm⟩))))))
 rcases bte (((((s_D aA) || (aB == 0)) && (((aA == 8) || (aA == 9)) || (aC == 0))) && ((aA == 2) || (aF == 0))) && ((aA == 3) || (decide (aD=⟨#[]⟩)))) with hg58 | hg58
 refine qk 49 hg58 (q4 49 hg58 (xl (isAgg3 _) (hb.d0 0 gZ)) (vA (wy 49 hg58) (xc call105) ((p_C aA w38).mono ?_)))
 rintro e w43 ⟨he,hE⟩
 refine ⟨_,he,?_⟩
 obtain ⟨hs,hb⟩:=hs.pp hb hE
 refine qk 49 hg58 (qk 49 hg58 (zI 4 (fun ρ wJ=>∃b31'0:Bool,∃HJ:NP,((decide ((s_C aA)≥1))=b31'0)∧Hst w0 None w0 HJ wJ∧HB HJ wJ [(p1,(Ad aA aB aC aF aD aG aM),176)]∧Has ρ [(1,(vp (some p1))),(49,(vb (((((s_D aA) || (aB == 0)) && (((aA == 8) || (aA == 9)) || (aC == 0))) && ((aA == 2) || (aF == 0))) && ((aA == 3) || (decide (aD=⟨#[]⟩)))))),(58,(vb (b31'0 || (aG == 0))))]) ?_ ?_))
 rintro ρ w44 ⟨b31'0,H32,he0,hs,hb,hH⟩
 subst he0
 refine zM hH (q2 (vb ((decide ((s_C aA)≥1)) || (aG == 0))) (xT hg58) (zC ⟨true,_,hg58,hs,hb,hm⟩))
 rcases bte (decide ((s_C aA)≥1)) with hg60 | hg60
 refine sj3 54 hg60 (stq (v:=(vb true)) (wy 49 hg58) (xT hg60) (zC ⟨true,_,hg60,hs,hb,hm⟩))
 refine qk 54 hg60 (q4 54 hg60 (xl (isAgg78 _) (hb.d 0 5 gZ)) (qk 54 hg60 (stq (v:=(vb (aG == 0))) (wy 49 hg58) (xF hg60) (zC ⟨false,_,hg60,hs,hb,hm⟩))))
 refine sj5 49 hg58 (sm (sm (sm (sj 49 hg58 (q2 (vb false) (xF hg58) (zC ⟨false,_,hg58,hs,hb,hm⟩))))))
 rcases bte ((((s_D aA) || (aB == 0)) && (((aA == 8) || (aA == 9)) || (aC == 0))) && ((aA == 2) || (aF == 0))) with hg52 | hg52
 refine qk 39 hg52 (q4 39 hg52 (xl (isAgg3 _) (hb.d0 0 gZ)) (qk 39 hg52 (qk 39 hg52 (zI 4 (fun ρ wJ=>∃b28'0:Bool,∃HJ:NP,((aA == 3)=b28'0)∧Hst w0 None w0 HJ wJ∧HB HJ wJ [(p1,(Ad aA aB aC aF aD aG aM),176)]∧Has ρ [(1,(vp (some p1))),(39,(vb ((((s_D aA) || (aB == 0)) && (((aA == 8) || (aA == 9)) || (aC == 0))) && ((aA == 2) || (aF == 0))))),(47,(vb (b28'0 || (decide (aD=⟨#[]⟩)))))]) ?_ ?_))))
 rintro ρ w39 ⟨b28'0,H29,he0,hs,hb,hH⟩
 subst he0
 refine zM hH (q2 (vb ((aA == 3) || (decide (aD=⟨#[]⟩)))) (xT hg52) (zC ⟨true,_,hg52,hs,hb,hm⟩))
 rcases bte (aA == 3) with hg54 | hg54
 refine sj3 43 hg54 (stq (v:=(vb true)) (wy 39 hg52) (xT hg54) (zC ⟨true,_,hg54,hs,hb,hm⟩))
 refine qk 43 hg54 (q4 43 hg54 (xl (isAgg9 _) (hb.d 0 4 gZ)) (stq (v:=(vb (decide (aD=⟨#[]⟩)))) (wy 43 hg54) (jBU (by kernel_rfl) (by kernel_rfl)) (stq (v:=(vb (decide (aD=⟨#[]⟩)))) (wy 39 hg52) (xF hg54) (zC ⟨false,_,hg54,hs,hb,hm⟩))))
 refine sj4 39 hg52 (sm (sm (sm (sj 39 hg52 (q2 (vb false) (xF hg52) (zC ⟨false,_,hg52,hs,hb,hm⟩))))))
 rcases bte (((s_D aA) || (aB == 0)) && (((aA == 8) || (aA == 9)) || (aC == 0))) with hg46 | hg46
 refine qk 29 hg46 (q4 29 hg46 (xl (isAgg3 _) (hb.d0 0 gZ)) (qk 29 hg46 (qk 29 hg46 (zI 4 (fun ρ wJ=>∃b25'0:Bool,∃HJ:NP,((aA == 2)=b25'0)∧Hst w0 None w0 HJ wJ∧HB HJ wJ [(p1,(Ad aA aB aC aF aD aG aM),176)]∧Has ρ [(1,(vp (some p1))),(29,(vb (((s_D aA) || (aB == 0)) && (((aA == 8) || (aA == 9)) || (aC == 0))))),(37,(vb (b25'0 || (aF == 0))))]) ?_ ?_))))
 rintro ρ w36 ⟨b25'0,H26,he0,hs,hb,hH⟩
 subst he0
 refine zM hH (q2 (vb ((aA == 2) || (aF == 0))) (xT hg46) (zC ⟨true,_,hg46,hs,hb,hm⟩))
 rcases bte (aA == 2) with hg48 | hg48
 refine sj3 33 hg48 (stq (v:=(vb true)) (wy 29 hg46) (xT hg48) (zC ⟨true,_,hg48,hs,hb,hm⟩))
 refine qk 33 hg48 (q4 33 hg48 (xl (isAgg23 _) (hb.d 0 3 gZ)) (qk 33 hg48 (stq (v:=(vb (aF == 0))) (wy 29 hg46) (xF hg48) (zC ⟨false,_,hg48,hs,hb,hm⟩))))
 refine sj4 29 hg46 (sm (sm (sm (sj 29 hg46 (q2 (vb false) (xF hg46) (zC ⟨false,_,hg46,hs,hb,hm⟩))))))
 rcases bte ((s_D aA) || (aB == 0)) with hg40 | hg40
 refine qk 19 hg40 (q4 19 hg40 (xl (isAgg3 _) (hb.d0 0 gZ)) (vA (wy 19 hg40) (xc call225) ((p_W1 aA w28).mono ?_)))
 rintro e w32 ⟨he,hE⟩
 refine ⟨_,he,?_⟩
 obtain ⟨hs,hb⟩:=hs.pp hb hE
 refine qk 19 hg40 (zI 4 (fun ρ wJ=>∃b22'0:Bool,∃HJ:NP,(((aA == 8) || (aA == 9))=b22'0)∧Hst w0 None w0 HJ wJ∧HB HJ wJ [(p1,(Ad aA aB aC aF aD aG aM),176)]∧Has ρ [(1,(vp (some p1))),(19,(vb ((s_D aA) || (aB == 0)))),(27,(vb (b22'0 || (aC == 0))))]) ?_ ?_)
 rintro ρ w33 ⟨b22'0,H23,he0,hs,hb,hH⟩
 subst he0
 refine zM hH (q2 (vb (((aA == 8) || (aA == 9)) || (aC == 0))) (xT hg40) (zC ⟨true,_,hg40,hs,hb,hm⟩))
 rcases bte ((aA == 8) || (aA == 9)) with hg42 | hg42
 refine sj3 23 hg42 (stq (v:=(vb true)) (wy 19 hg40) (xT hg42) (zC ⟨true,_,hg42,hs,hb,hm⟩))
 refine qk 23 hg42 (q4 23 hg42 (xl (isAgg3 _) (hb.d 0 2 gZ)) (qk 23 hg42 (stq (v:=(vb (aC == 0))) (wy 19 hg40) (xF hg42) (zC ⟨false,_,hg42,hs,hb,hm⟩))))
 refine sj4 19 hg40 (sm (sm (sm (sj 19 hg40 (q2 (vb false) (xF hg40) (zC ⟨false,_,hg40,hs,hb,hm⟩))))))
 rcases bte (s_D aA) with hg36 | hg36
 refine sj3 14 hg36 (q2 (vb true) (xT hg36) (zC ⟨true,_,hg36,hs,hb,hm⟩))
 refine qk 14 hg36 (q4 14 hg36 (xl (isAgg3 _) (hb.d 0 1 gZ)) (qk 14 hg36 (q2 (vb (aB == 0)) (xF hg36) (zC ⟨false,_,hg36,hs,hb,hm⟩))))
 rintro ρ w26 ⟨H19,hs,hb,hH⟩
 refine vE hH (zL (er (rs1 results222 (v:=(vb (((((((s_D aA) || (aB == 0)) && (((aA == 8) || (aA == 9)) || (aC == 0))) && ((aA == 2) || (aF == 0))) && ((aA == 3) || (decide (aD=⟨#[]⟩)))) && ((decide ((s_C aA)≥1)) || (aG == 0))) && ((((s_C aA):Int) == 2) || (aM == 0))))) ⟨false,hc1,by kernel_rfl,(Ext.refl (F:=None) _).hst hs⟩)))
theorem p_D1 (aA aB:Int) (aC aF:Int) (aD:ByteArray) (aG aM:Int) (w0:World):Calls prog 222 #[(.agg #[(.int .i64 aA),(.int .i64 aB),(.int .i64 aC),(.int .u64 aF),(.string aD),(.int .i64 aG),(.int .i64 aM)])] w0 (fun e w'=>e=.returned (.bool (s_D1 aA aB aC aF aD aG aM))∧Pure w0 w'):=by
 refine (pw_D1 aA aB aC aF aD aG aM w0).mono ?_;rintro e w' ⟨b'0,e0,h,E⟩;subst e0;exact ⟨h,E⟩
def s_H2 (n1:Int):Bool :=((decide (n1≥0)) && (decide (n1<16)))
theorem pw_H2 (n1:Int) (w0:World) :
  Calls prog 224 #[(vi n1)] w0 (fun e w'=>(e=.returned (vb ((decide (n1≥0)) && (decide (n1<16)))))∧Pure w0 w'):=by
 refine cw (args:=[(vi n1)]) func224 ntmps224 (eg (q0 (vb false) (ln (zA ?_))))
 refine vN (fun ρ wJ=>w0=wJ∧Has ρ [(2,(vb ((decide (n1≥0)) && (decide (n1<16)))))]) ?_ ?_
 refine rg (qc (zI 3 (fun ρ wJ=>∃b3'0:Bool,((decide (n1≥0))=b3'0)∧w0=wJ∧Has ρ [(8,(vb (b3'0 && (decide (n1<16)))))]) ?_ ?_))
 rintro ρ w3 ⟨b3'0,he0,hw,hH⟩
 subst he0
 subst hw
 refine zM hH (q (ln ⟨rfl,hm⟩))
 rcases bte (decide (n1≥0)) with hg4 | hg4
 refine qk 5 hg4 (qk 5 hg4 (q2 (vb (decide (n1<16))) (xT hg4) (zC ⟨true,hg4,rfl,hm⟩)))
 refine sj2 5 hg4 (q2 (vb false) (xF hg4) (zC ⟨false,hg4,rfl,hm⟩))
 rintro ρ w2 ⟨hw,hH⟩
 subst hw
 refine vE hH (zL (er (rs1 results224 (v:=(vb ((decide (n1≥0)) && (decide (n1<16))))) ⟨by kernel_rfl,Ext.refl _⟩)))
theorem p_H2 (n1:Int) (w0:World):Calls prog 224 #[(.int .i64 n1)] w0 (fun e w'=>e=.returned (.bool (s_H2 n1))∧Pure w0 w'):=pw_H2 n1 w0
def s_H (aA aB:Int) (aC aF:Int) (aD:ByteArray) (aG aM:Int):Int :=(cond (!(s_D1 aA aB aC aF aD aG aM)) 53 (cond (((s_D aA) && (!((decide (aB≥0)) && (decide (aB<16))))) || (((aA == 8) || (aA == 9)) && ((!((decide (aC≥0)) && (decide (aC<16)))) || (aB == aC)))) 50 (cond (decide ((aD.size:Int)>64)) 1 0)))
theorem pw_H (aA aB:Int) (aC aF:Int) (aD:ByteArray) (aG aM:Int) (w0:World) :
  Calls prog 176 #[(.agg #[(vi aA),(vi aB),(vi aC),(vu aF),(vs aD),(vi aG),(vi aM)])] w0 (fun e w'=>∃b'0 b'1 b'2:Bool,((!(s_D1 aA aB aC aF aD aG aM))=b'0∧(((s_D aA) && (!((decide (aB≥0)) && (decide (aB<16))))) || (((aA == 8) || (aA == 9)) && ((!((decide (aC≥0)) && (decide (aC<16)))) || (aB == aC))))=b'1∧(decide ((aD.size:Int)>64))=b'2)∧(e=.returned (vi (cond b'0 53 (cond b'1 50 (cond b'2 1 0)))))∧Pure w0 w'):=by
 refine cw (args:=[(Ae aA aB aC aF aD aG aM)]) func176 ntmps176 ?_
 obtain ⟨hs,hb⟩:=st0 w0
 refine eg (nw3 (Ad aA aB aC aF aD aG aM) 176 hs hb xb fun p1 w1 H1 hs hb=>q (ln (zA (eg (q2 (Ae aA aB aC aF aD aG aM) (xa p1 (Ad aA aB aC aF aD aG aM) (isAgg176 _) (sizeOf176 _) (hb.r0 0 7 gZ)) (sc call222 ((p_D1 aA aB aC aF aD aG aM w1).mono ?_)))))))
 rintro e w2 ⟨he,hE⟩
 refine ⟨_,he,?_⟩
 obtain ⟨hs,hb⟩:=hs.pp hb hE
 refine q (ln (vI (t:=(!(s_D1 aA aB aC aF aD aG aM))) (by kernel_rfl) (fun hc1=>?_) (fun hc1=>?_)))
 refine eg (q (ln (er (zX (rs1 results176 (v:=(vi 53)) ⟨true,_,_,⟨hc1,rfl,rfl⟩,by kernel_rfl,(Ext.refl (F:=None) _).hst hs⟩)))))
 refine zB (zL (zA (zA (vN (fun ρ wJ=>∃b5'0:Bool,∃HJ:NP,(((s_D aA) && (!((decide (aB≥0)) && (decide (aB<16)))))=b5'0)∧Hst w0 None w0 HJ wJ∧HB HJ wJ [(p1,(Ad aA aB aC aF aD aG aM),176)]∧Has ρ [(1,(vp (some p1))),(32,(vb (b5'0 || (((aA == 8) || (aA == 9)) && ((!((decide (aC≥0)) && (decide (aC<16)))) || (aB == aC))))))]) ?_ ?_))))
 refine rg (q (q3 (xl (isAgg3 _) (hb.d0 0 gZ)) (sc call223 ((p_D aA w2).mono ?_))))
 rintro e w14 ⟨he,hE⟩
 refine ⟨_,he,?_⟩
 obtain ⟨hs,hb⟩:=hs.pp hb hE
 refine q (zI 5 (fun ρ wJ=>∃b6'0:Bool,∃HJ:NP,((s_D aA)=b6'0)∧Hst w0 None w0 HJ wJ∧HB HJ wJ [(p1,(Ad aA aB aC aF aD aG aM),176)]∧Has ρ [(1,(vp (some p1))),(14,(vb (b6'0 && (!((decide (aB≥0)) && (decide (aB<16)))))))]) ?_ ?_)
 rintro ρ w16 ⟨b6'0,H7,he0,hs,hb,hH⟩
 subst he0
 refine zM hH (q ?_)
 rcases bte ((s_D aA) && (!((decide (aB≥0)) && (decide (aB<16))))) with hg12 | hg12
 refine sj4 15 hg12 (sm (sm (sm (sm (sm (sm (sm (sm (sm (sm (sm (sj 15 hg12 (q2 (vb true) (xT hg12) (ln ⟨true,_,hg12,hs,hb,hm⟩))))))))))))))
 refine qk 15 hg12 (q4 15 hg12 (xl (isAgg3 _) (hb.d0 0 gZ)) (vA (wy 15 hg12) (xc call225) ((p_W1 aA w16).mono ?_)))
 rintro e w18 ⟨he,hE⟩
 refine ⟨_,he,?_⟩
 obtain ⟨hs,hb⟩:=hs.pp hb hE
 refine qk 15 hg12 (zI 12 (fun ρ wJ=>∃b8'0:Bool,∃HJ:NP,(((aA == 8) || (aA == 9))=b8'0)∧Hst w0 None w0 HJ wJ∧HB HJ wJ [(p1,(Ad aA aB aC aF aD aG aM),176)]∧Has ρ [(1,(vp (some p1))),(15,(vb ((s_D aA) && (!((decide (aB≥0)) && (decide (aB<16))))))),(31,(vb (b8'0 && ((!((decide (aC≥0)) && (decide (aC<16)))) || (aB == aC)))))]) ?_ ?_)
 rintro ρ w21 ⟨b8'0,H9,he0,hs,hb,hH⟩
 subst he0
 refine zM hH (q2 (vb (((aA == 8) || (aA == 9)) && ((!((decide (aC≥0)) && (decide (aC<16)))) || (aB == aC)))) (xF hg12) (ln ⟨false,_,hg12,hs,hb,hm⟩))
 rcases bte ((aA == 8) || (aA == 9)) with hg16 | hg16
 refine qk 19 hg16 (q4 19 hg16 (xl (isAgg3 _) (hb.d 0 2 gZ)) (vA (wy 19 hg16) (xc call224) ((p_H2 aC w18).mono ?_)))
 rintro e w22 ⟨he,hE⟩
 refine ⟨_,he,?_⟩
 obtain ⟨hs,hb⟩:=hs.pp hb hE
 refine qk 19 hg16 (qk 19 hg16 (zI 6 (fun ρ wJ=>∃b9'0:Bool,∃HJ:NP,((!((decide (aC≥0)) && (decide (aC<16))))=b9'0)∧Hst w0 None w0 HJ wJ∧HB HJ wJ [(p1,(Ad aA aB aC aF aD aG aM),176)]∧Has ρ [(1,(vp (some p1))),(15,(vb ((s_D aA) && (!((decide (aB≥0)) && (decide (aB<16))))))),(19,(vb ((aA == 8) || (aA == 9)))),(30,(vb (b9'0 || (aB == aC))))]) ?_ ?_))
 rintro ρ w23 ⟨b9'0,H10,he0,hs,hb,hH⟩
 subst he0
 refine zM hH (stq (v:=(vb ((!((decide (aC≥0)) && (decide (aC<16)))) || (aB == aC)))) (wy 15 hg12) (xT hg16) (zC ⟨true,_,hg16,hs,hb,hm⟩))
 rcases bte (!((decide (aC≥0)) && (decide (aC<16)))) with hg18 | hg18
 refine sj5 24 hg18 (stq (v:=(vb true)) (wy 19 hg16) (xT hg18) (zC ⟨true,_,hg18,hs,hb,hm⟩))
 refine qk 24 hg18 (q4 24 hg18 (xl (isAgg3 _) (hb.d 0 1 gZ)) (qk 24 hg18 (q4 24 hg18 (xl (isAgg3 _) (hb.d 0 2 gZ)) (qk 24 hg18 (stq (v:=(vb (aB == aC))) (wy 19 hg16) (xF hg18) (zC ⟨false,_,hg18,hs,hb,hm⟩))))))
 refine sj5 19 hg16 (sm (sm (sm (sm (sm (sj 19 hg16 (stq (v:=(vb false)) (wy 15 hg12) (xF hg16) (zC ⟨false,_,hg16,hs,hb,hm⟩))))))))
 rcases bte (s_D aA) with hg11 | hg11
 refine qk 9 hg11 (q4 9 hg11 (xl (isAgg3 _) (hb.d 0 1 gZ)) (vA (wy 9 hg11) (xc call224) ((p_H2 aB w14).mono ?_)))
 rintro e w17 ⟨he,hE⟩
 refine ⟨_,he,?_⟩
 obtain ⟨hs,hb⟩:=hs.pp hb hE
 refine qk 9 hg11 (q2 (vb (!((decide (aB≥0)) && (decide (aB<16))))) (xT hg11) (zC ⟨true,_,hg11,hs,hb,hm⟩))
 refine sj4 9 hg11 (q2 (vb false) (xF hg11) (zC ⟨false,_,hg11,hs,hb,hm⟩))
 rintro ρ w13 ⟨b5'0,H6,he0,hs,hb,hH⟩
 subst he0
 refine vE hH (zL (vI (t:=(((s_D aA) && (!((decide (aB≥0)) && (decide (aB<16))))) || (((aA == 8) || (aA == 9)) && ((!((decide (aC≥0)) && (decide (aC<16)))) || (aB == aC))))) (by kernel_rfl) (fun hc2=>?_) (fun hc2=>?_)))
 refine eg (q (ln (er (zX (rs1 results176 (v:=(vi 50)) ⟨false,true,_,⟨hc1,hc2,rfl⟩,by kernel_rfl,(Ext.refl (F:=None) _).hst hs⟩)))))
 refine zB (zL (zA (eg (q (q3 (xl (isAgg9 _) (hb.d 0 4 gZ)) (qb (ln (vI (t:=(decide ((aD.size:Int)>64))) (by kernel_rfl) (fun hc3=>?_) (fun hc3=>?_)))))))))
 refine eg (q (ln (er (zX (rs1 results176 (v:=(vi 1)) ⟨false,false,true,⟨hc1,hc2,hc3⟩,by kernel_rfl,(Ext.refl (F:=None) _).hst hs⟩)))))
 refine zB (zL (eg (q (ln (er (rs1 results176 (v:=(vi 0)) ⟨false,false,false,⟨hc1,hc2,hc3⟩,by kernel_rfl,(Ext.refl (F:=None) _).hst hs⟩))))))
theorem p_H (aA aB:Int) (aC aF:Int) (aD:ByteArray) (aG aM:Int) (w0:World):Calls prog 176 #[(.agg #[(.int .i64 aA),(.int .i64 aB),(.int .i64 aC),(.int .u64 aF),(.string aD),(.int .i64 aG),(.int .i64 aM)])] w0 (fun e w'=>e=.returned (.int .i64 (s_H aA aB aC aF aD aG aM))∧Pure w0 w'):=by
 refine (pw_H aA aB aC aF aD aG aM w0).mono ?_;rintro e w' ⟨b'0,b'1,b'2,⟨e0,e1,e2⟩,h,E⟩;subst e0;subst e1;subst e2;exact ⟨h,E⟩
def m_T_l2 (aH:Sl) (deep1:Int) (seen1:Option Addr) (e1 i1:Int) (w0:World) (Hl1:NP) (wl1:World) (Kc2:Int→Int→NP→WP) (K:Int→WP):Prop :=Br ((e1 == 0) && (decide (i1<(aH.len:Int)))) (∃a3:Addr,At aH i1 6 a3∧∀H4 w11,Hst w0 Hl1 wl1 H4 w11→∃aO aP aQ aR aS bI,Row w11 a3 (Ab aO aP aQ aR aS bI)∧Calls prog 203 #[(.agg #[(vi aO),(vi aP),(vi aQ),(vu aR),(vs aS),bI.v]),(vi (q6.wrap (deep1+1))),(vp seen1)] w11 (fun e w12=>∃r1,e=.returned (vi r1)∧Kept H4 w11 w12∧Kc2 r1 (q6.wrap (i1+1)) H4 w12)) (∀H4 w11,Hst w0 Hl1 wl1 H4 w11→K e1 w11)
def m_T_j1 (aE aI:Int) (aJ aK:Int) (aL:ByteArray) (aH:Sl) (deep1:Int) (seen1:Option Addr) (x1:Bool) (w0:World) (H:NP) (w:World) (K:Int→WP):Prop :=Br x1 (K 52 w) (∃a1,seen1=some a1∧∃v1,w.cell? a1=some (vi v1)∧∃a2,seen1=some a2∧vF w a2∧¬ H a2.block∧∀w2,w2=w.setCell a2 (vi (q6.wrap (v1+1)))→∀y1:Bool,y1=((((s_H aE aI aJ aK aL 0 0):Int) != 53) && (((aH.len:Int):Int) != (s_C aE)))→∀H3 w10,Hst w0 H w2 H3 w10→∃(I1:Int→Int→NP→WP) (mu1:Int→Int→World→Nat),I1 (cond y1 53 (s_H aE aI aJ aK aL 0 0)) 0 H3 w10∧∀(e1 i1:Int) (Hl1:NP) (wl1:World),Hst w0 Hl1 wl1 Hl1 wl1→I1 e1 i1 Hl1 wl1→m_T_l2 aH deep1 seen1 e1 i1 w0 Hl1 wl1 (fun y'0 y'1 H' w'=>I1 y'0 y'1 H' w'∧mu1 y'0 y'1 w'<mu1 e1 i1 wl1) K)
def m_T (aE aI:Int) (aJ aK:Int) (aL:ByteArray) (aH:Sl) (deep1:Int) (seen1:Option Addr) (w0:World) (K:Int→WP):Prop :=∃a4,seen1=some a4∧∀H1 w1,Hst w0 None w0 H1 w1→∃v2,w1.cell? a4=some (vi v2)∧∀H5 w13,Hst w0 H1 w1 H5 w13→m_T_j1 aE aI aJ aK aL aH deep1 seen1 ((decide (v2≥4096)) || (decide (deep1≥64))) w0 H5 w13 K
theorem w_T (aE aI aJ aK aL aH deep1 seen1 w0 K) (h:m_T aE aI aJ aK aL aH deep1 seen1 w0 K):
  Calls prog 203 #[(.agg #[(vi aE),(vi aI),(vi aJ),(vu aK),(vs aL),aH.v]),(vi deep1),(vp seen1)] w0 (fun e w'=>∃r2,e=.returned (vi r2)∧K r2 w'):=by
 refine cw (args:=[(Aa aE aI aJ aK aL aH),(vi deep1),(vp seen1)]) func203 ntmps203 ?_
 obtain ⟨hs,hb⟩:=st0 w0
 refine eg (nw3 (Ab aE aI aJ aK aL aH) 107 hs hb xb fun p1 w1 H1 hs hb=>q (ln (zA (zA (qT (fun ρ w=>∃x1,∃H:NP,Has ρ [(1,(vi deep1)),(2,(vp seen1)),(3,(vp (some p1))),(16,(vb x1))]∧Hst w0 H w H w∧HB H w [(p1,(Ab aE aI aJ aK aL aH),107)]∧m_T_j1 aE aI aJ aK aL aH deep1 seen1 x1 w0 H w K) ?_ ?_)))))
 rintro ρ w ⟨x1,H,hH,hs,hb,h⟩
 refine zV hH (cbr h ?_ ?_)<;>intro h
 refine eg (q (ln (er (zX (rs1 results203 ⟨52,rfl,h⟩)))))
 refine zB (zL (eg (qb (qm h fun a1 h=>ql (isAgg3 _) h fun v1 h=>q (qm h fun a2 h=>st2 (sizeOf3 _) hs hb h fun w2 hs hb h=>ln (eg (q2 (Aa aE aI aJ aK aL aH) (xa p1 (Ab aE aI aJ aK aL aH) (isAgg107 _) (sizeOf107 _) (hb.r0 0 6 gZ)) (sc call204 ((p_C1 aE aI aJ aK aL aH w2).mono ?_)))))))))
 rintro e w3 ⟨he,hE⟩
 refine ⟨_,he,?_⟩
 obtain ⟨hs,hb⟩:=hs.pp hb hE
 refine sc call176 ((p_H aE aI aJ aK aL 0 0 w3).mono ?_)
 rintro e w4 ⟨he,hE⟩
 refine ⟨_,he,?_⟩
 obtain ⟨hs,hb⟩:=hs.pp hb hE
 refine q (ln (zA (zA (vN (fun ρ wJ=>∃b1'0 y1:Bool,∃HJ:NP,((((s_H aE aI aJ aK aL 0 0):Int) != 53)=b1'0)∧(y1=(b1'0 && (((aH.len:Int):Int) != (s_C aE))))∧Hst w0 H w2 HJ wJ∧HB HJ wJ [(p1,(Ab aE aI aJ aK aL aH),107)]∧Has ρ [(1,(vi deep1)),(2,(vp seen1)),(3,(vp (some p1))),(7,(vi (s_H aE aI aJ aK aL 0 0))),(36,(vb y1))]) ?_ ?_))))
 refine jAD (fun x=>∃H',Hst w0 H w2 H' x∧HB H' x [(p1,(Ab aE aI aJ aK aL aH),107)]) [8] [] (by kernel_rfl) (by kernel_rfl) (by kernel_rfl) (by kernel_rfl) ⟨_,hs.drew,hb.drew⟩ ?_
 intro w8 hw8
 have hs:Hst w0 H w2 H w8:=by rw [hw8];exact hs.drew
 have hb:HB H w8 [(p1,(Ab aE aI aJ aK aL aH),107)]:=by rw [hw8];exact hb.drew
 refine qx 0 (vi (s_H aE aI aJ aK aL 0 0)) Kp0 (qx 1 (vb (((s_H aE aI aJ aK aL 0 0):Int) != 53)) Kp1 (qx 2 (vb (((s_H aE aI aJ aK aL 0 0):Int) != 53)) Kp2 (qg 3 ?_)))
 rcases bte (((s_H aE aI aJ aK aL 0 0):Int) != 53) with hg2 | hg2
 refine sz (v:=(vp (some (p1.add 5)))) Kp3 (wy 28 hg2) (fun _ _=>(by kernel_rfl)) (qg 4 (sz (v:=aH.v) Kp4 (wy 28 hg2) (fun w' hw'=>(by obtain ⟨H',hs',hb'⟩:=hw';exact (xl (isAgg66 _) (hb'.cell 0 5 gZ (by kernel_rfl))))) (qw 5 (vi (aH.len:Int)) Kp5 (wy 28 hg2) (qw 6 (vp (some p1)) Kp6 (wy 28 hg2) (qg 7 (sz (v:=(vi aE)) Kp7 (wy 28 hg2) (fun w' hw'=>(by obtain ⟨H',hs',hb'⟩:=hw';exact (xl (isAgg3 _) (hb'.cell0 0 gZ (by kernel_rfl))))) (lg 8 (jBX Kp8 (wy 28 hg2) (by kernel_rfl) (xc call105) ((p_C aE w8).mono ?_)))))))))
 rintro e w9 ⟨he,hE⟩
 obtain ⟨hs,hb⟩:=hs.pp hb hE
 refine ⟨(vi (s_C aE)),he.trans (by kernel_rfl),.inr ⟨_,hs,hb⟩,?_⟩
 refine qw 9 (vb (((aH.len:Int):Int) != (s_C aE))) Kp9 (wy 28 hg2) (qz 10 (vb (((aH.len:Int):Int) != (s_C aE))) (zO (S8 (zG (zG zN)))) (fun _ _=>(xT hg2)) (wn (zL ⟨true,_,_,hg2,rfl,hs,hb,hm⟩)))
 refine xZ Kp3 (qA rfl (yD 28 hg2) rfl) (qn 4 Kp4 (qA rfl (yD 28 hg2) rfl) (qn 5 Kp5 (qA rfl (yD 28 hg2) rfl) (qn 6 Kp6 (qA rfl (yD 28 hg2) rfl) (qn 7 Kp7 (qA rfl (yD 28 hg2) rfl) (lg 8 (xZ Kp8 (qA rfl (yD 28 hg2) rfl) (qn 9 Kp9 (qA rfl (yD 28 hg2) rfl) (qz 10 (vb false) (zO (S8 (zG (zG zN)))) (fun _ _=>(xF hg2)) (wn (zL ⟨false,_,_,hg2,rfl,hs,hb,hm⟩))))))))))
 rintro ρ w7 ⟨b1'0,y1,H2,he0,hy1,hs,hb,hH⟩
 subst he0
 have h:=h y1 hy1
 refine vE hH (zL (vN (fun ρ wJ=>∃b2'0:Bool,∃HJ:NP,(y1=b2'0)∧Hst w0 H w2 HJ wJ∧HB HJ wJ [(p1,(Ab aE aI aJ aK aL aH),107)]∧Has ρ [(1,(vi deep1)),(2,(vp seen1)),(3,(vp (some p1))),(7,(vi (cond b2'0 53 (s_H aE aI aJ aK aL 0 0))))]) ?_ ?_))
 refine vI (t:=y1) (by kernel_rfl) (fun hc3=>?_) (fun hc3=>?_)
 refine rg (q (ln ⟨true,_,hc3,hs,hb,hm⟩))
 refine zB (zL ⟨false,_,hc3,hs,hb,hm⟩)
 rintro ρ w10 ⟨b2'0,H3,he0,hs,hb,hH⟩
 subst he0
 refine vE hH (zL (zA (eg (q (ln (zK ?_))))))
 have ⟨h,hs⟩:=hs.hr (h H3 w10)
 obtain ⟨I1,mu1,h0,hr⟩:=h
 refine vQ (σ:=Int×Int×NP×World) (fun s ρ w=>w=s.2.2.2∧Has ρ [(1,(vi deep1)),(2,(vp seen1)),(3,(vp (some p1))),(7,(vi s.1)),(8,(vi s.2.1))]∧Hst w0 s.2.2.1 w s.2.2.1 w∧HB s.2.2.1 w [(p1,(Ab aE aI aJ aK aL aH),107)]∧I1 s.1 s.2.1 s.2.2.1 s.2.2.2) (fun s=>mu1 s.1 s.2.1 s.2.2.2) ((cond y1 53 (s_H aE aI aJ aK aL 0 0)),0,H3,w10) ⟨rfl,hm,hs,hb,h0⟩ ?_
 rintro ⟨e1,i1,Hl1,wl1⟩ ρ w ⟨hw,hH,hs,hb,hI⟩
 dsimp only at hw hH hs hb;subst w
 have h:=hr e1 i1 Hl1 wl1 hs hI
 refine zV hH (zA (zA (vN (fun ρ wJ=>∃b3'0:Bool,∃HJ:NP,((e1 == 0)=b3'0)∧Hst w0 Hl1 wl1 HJ wJ∧HB HJ wJ [(p1,(Ab aE aI aJ aK aL aH),107)]∧Has ρ [(1,(vi deep1)),(2,(vp seen1)),(3,(vp (some p1))),(7,(vi e1)),(8,(vi i1)),(45,(vb (b3'0 && (decide (i1<(aH.len:Int))))))]) ?_ ?_)))
 refine rg (qc ?_)
 rcases bte (e1 == 0) with hg4 | hg4
 refine qk 39 hg4 (qk 39 hg4 (q4 39 hg4 (xl (isAgg66 _) (hb.d 0 5 gZ)) (qk 39 hg4 (qk 39 hg4 (q2 (vb (decide (i1<(aH.len:Int)))) (xT hg4) (ln ⟨true,_,hg4,hs,hb,hm⟩))))))
 refine sj5 39 hg4 (q2 (vb false) (xF hg4) (ln ⟨false,_,hg4,hs,hb,hm⟩))
 rintro ρ w11 ⟨b3'0,H4,he0,hs,hb,hH⟩
 subst he0
 refine vE hH (zL (cbr h ?_ ?_))<;>intro h
 refine zB (zL (zA (zK (rg (q (q3 (xl (isAgg66 _) (hb.d 0 5 gZ)) (q (qi (runUnderlying66 _) (sizeOf107 _) h fun a3 h=>?_))))))))
 have ⟨h,hs⟩:=hs.hr (h H4 w11)
 obtain ⟨aO,aP,aQ,aR,aS,bI,hv1,h⟩:=h
 refine qa (isAgg107 _) (sizeOf107 _) hv1 (qc (sc call203 (h.mono fun e w12 ⟨r1,k,hk,h⟩=>have ⟨hs,hb⟩:=hk.hh hs hb;⟨_,k,?_⟩)))
 refine q (zC (uM (zL (rg (qc (ln ⟨(r1,(q6.wrap (i1+1)),H4,w12),⟨rfl,hm,hs,hb,h.1⟩,h.2⟩))))))
 refine vO (uI (uI (uD (zL (eg (q0 (vi e1) (q0 (vi e1) (ln (er ?_)))))))))
 have ⟨h,hs⟩:=hs.hr (h H4 w11)
 refine rs1 results203 ⟨e1,rfl,h⟩
 refine rg (q (qm h fun a4 h=>?_))
 have ⟨h,hs⟩:=hs.hr (h H1 w1)
 refine ql (isAgg3 _) h fun v2 h=>qb (zI 3 (fun ρ wJ=>∃b4'0:Bool,∃HJ:NP,((decide (v2≥4096))=b4'0)∧Hst w0 H1 w1 HJ wJ∧HB HJ wJ [(p1,(Ab aE aI aJ aK aL aH),107)]∧Has ρ [(1,(vi deep1)),(2,(vp seen1)),(3,(vp (some p1))),(16,(vb (b4'0 || (decide (deep1≥64)))))]) ?_ ?_)
 rintro ρ w13 ⟨b4'0,H5,he0,hs,hb,hH⟩
 subst he0
 refine zM hH (zC ?_)
 have ⟨h,hs⟩:=hs.hr (h H5 w13)
 refine zL ⟨((decide (v2≥4096)) || (decide (deep1≥64))),H5,hm,hs,hb,h⟩
 rcases bte (decide (v2≥4096)) with hg6 | hg6
 refine sj2 13 hg6 (q2 (vb true) (xT hg6) (zC ⟨true,_,hg6,hs,hb,hm⟩))
 refine qk 13 hg6 (qk 13 hg6 (q2 (vb (decide (deep1≥64))) (xF hg6) (zC ⟨false,_,hg6,hs,hb,hm⟩)))
def m_E4 (aE aI:Int) (aJ aK:Int) (aL:ByteArray) (aH:Sl) (w0:World) (K:Int→WP):Prop :=∀H1 w1,Hst w0 None w0 H1 w1→∀p2 w2,New w1 (.cells #[(vi 0)] 3) p2 w2→vF w2 p2∧¬ H1 p2.block∧∀w3,w3=w2.setCell p2 (vi 0)→Calls prog 203 #[(.agg #[(vi aE),(vi aI),(vi aJ),(vu aK),(vs aL),aH.v]),(vi 0),(vp (some p2))] w3 (fun e w4=>∃r1,e=.returned (vi r1)∧Kept H1 w3 w4∧K r1 w4)
theorem w_E4 (aE aI aJ aK aL aH w0 K) (h:m_E4 aE aI aJ aK aL aH w0 K):
  Calls prog 147 #[(.agg #[(vi aE),(vi aI),(vi aJ),(vu aK),(vs aL),aH.v])] w0 (fun e w'=>∃r2,e=.returned (vi r2)∧K r2 w'):=by
 refine cw (args:=[(Aa aE aI aJ aK aL aH)]) func147 ntmps147 ?_
 obtain ⟨hs,hb⟩:=st0 w0
 refine eg (nw3 (Ab aE aI aJ aK aL aH) 107 hs hb xb fun p1 w1 H1 hs hb=>q (ln (eg ?_)))
 have ⟨h,hs⟩:=hs.hr (h H1 w1)
 refine nw2 hs hb h (zH (zeroValue3 _) rfl) fun p2 w2 hs hb h=>st2 (sizeOf3 _) hs hb h fun w3 hs hb h=>ln (eg (q2 (Aa aE aI aJ aK aL aH) (xa p1 (Ab aE aI aJ aK aL aH) (isAgg107 _) (sizeOf107 _) (hb.r0 0 6 gZ)) (sc call203 (h.mono fun e w4 ⟨r1,k,hk,h⟩=>have ⟨hs,hb⟩:=hk.hh hs hb;⟨_,k,?_⟩))))
 refine q (ln (er (rs1 results147 ⟨r1,rfl,h⟩)))
def m_F4 (p1:Option Addr) (t1:Int) (w0:World) (K:Int→WP):Prop :=Calls prog 87 #[(vp p1),(vi t1)] w0 (fun e w1=>∃r1,e=.returned (vb r1)∧Br (!r1) (K 0 w1) (∃a1,p1=some a1∧∃v1:Sl,w1.cell? (a1.add 1)=some v1.v∧∃a2:Addr,At v1 (q6.wrap (t1 - 1)) 1 a2∧∃v2,w1.cell? a2=some (vi v2)∧K v2 w1))
theorem w_F4 (p1 t1 w0 K) (h:m_F4 p1 t1 w0 K):
  Calls prog 97 #[(vp p1),(vi t1)] w0 (fun e w'=>∃r2,e=.returned (vi r2)∧K r2 w'):=by
 refine cw (args:=[(vp p1),(vi t1)]) func97 ntmps97 (eg (q0 (vi 0) (ln (zA (eg (q0 (vp p1) (q0 (vi t1) ?_)))))))
 refine sc call87 (h.mono fun e w1 ⟨r1,k,h⟩=>⟨_,k,?_⟩)
 refine q (ln (cbr h ?_ ?_))<;>intro h
 refine eg (q (ln (er (zX (rs1 results97 ⟨0,rfl,h⟩)))))
 refine zB (zL (eg (q (qm h fun a1 h=>q (ql (isAgg42 _) h fun v1 h=>qb (qi (runUnderlying42 _) (sizeOf3 _) h fun a2 h=>ql (isAgg3 _) h fun v2 h=>q (ln (er (rs1 results97 ⟨v2,rfl,h⟩)))))))))
def m_G4 (p1:Option Addr) (t1:Int) (w0:World) (K:Int→WP):Prop :=Calls prog 87 #[(vp p1),(vi t1)] w0 (fun e w1=>∃r1,e=.returned (vb r1)∧Br (!r1) (K 0 w1) (∃a1,p1=some a1∧∃v1:Sl,w1.cell? (a1.add 2)=some v1.v∧∃a2:Addr,At v1 (q6.wrap (t1 - 1)) 1 a2∧∃v2,w1.cell? a2=some (vi v2)∧K v2 w1))
theorem w_G4 (p1 t1 w0 K) (h:m_G4 p1 t1 w0 K):
  Calls prog 177 #[(vp p1),(vi t1)] w0 (fun e w'=>∃r2,e=.returned (vi r2)∧K r2 w'):=by
 refine cw (args:=[(vp p1),(vi t1)]) func177 ntmps177 (eg (q0 (vi 0) (ln (zA (eg (q0 (vp p1) (q0 (vi t1) ?_)))))))
 refine sc call87 (h.mono fun e w1 ⟨r1,k,h⟩=>⟨_,k,?_⟩)
 refine q (ln (cbr h ?_ ?_))<;>intro h
 refine eg (q (ln (er (zX (rs1 results177 ⟨0,rfl,h⟩)))))
 refine zB (zL (eg (q (qm h fun a1 h=>q (ql (isAgg42 _) h fun v1 h=>qb (qi (runUnderlying42 _) (sizeOf3 _) h fun a2 h=>ql (isAgg3 _) h fun v2 h=>q (ln (er (rs1 results177 ⟨v2,rfl,h⟩)))))))))
theorem xI (a0 a1:Int) (a2 a3:Int) (a4:ByteArray) (a5 a6:Int) (b0 b1:Int) (b2 b3:Int) (b4:ByteArray) (b5 b6:Int) (w:World):(Go.binOp .eql 176 (.agg #[(.int .i64 a0),(.int .i64 a1),(.int .i64 a2),(.int .u64 a3),(.string a4),(.int .i64 a5),(.int .i64 a6)]) (.agg #[(.int .i64 b0),(.int .i64 b1),(.int .i64 b2),(.int .u64 b3),(.string b4),(.int .i64 b5),(.int .i64 b6)])).run prog w=.ok (.bool ((a0 == b0) && ((a1 == b1) && ((a2 == b2) && ((a3 == b3) && ((decide (a4=b4)) && ((a5 == b5) && (a6 == b6)))))))) w:=by
 simp [Go.binOp,Op.equal,Op.maxDepth,go_sem,jGR,bne]
 repeat' split
 all_goals simp_all
def m_N1_l1 (p1:Option Addr) (aA aB:Int) (aC aF:Int) (aD:ByteArray) (aG aM i1:Int) (w0:World) (Hl1:NP) (wl1:World) (Kc1:Int→NP→WP) (K:Int→Bool→WP):Prop :=∃a1,p1=some a1∧∃v1:Sl,wl1.cell? a1=some v1.v∧Br (decide (i1<(v1.len:Int))) (∃a2,p1=some a2∧∀w2,Hst w0 Hl1 wl1 Hl1 w2→∃v2:Sl,w2.cell? a2=some v2.v∧∃a3:Addr,At v2 i1 7 a3∧∃aO aP aQ aR aS bM bN,Row w2 a3 (Ad aO aP aQ aR aS bM bN)∧Br ((aO == aA) && ((aP == aB) && ((aQ == aC) && ((aR == aF) && ((decide (aS=aD)) && ((bM == aG) && (bN == aM))))))) (K (q6.wrap (i1+1)) true w2) (Kc1 (q6.wrap (i1+1)) Hl1 w2)) (K 0 false wl1)
def m_N1 (p1:Option Addr) (aA aB:Int) (aC aF:Int) (aD:ByteArray) (aG aM:Int) (w0:World) (K:Int→Bool→WP):Prop :=∀H1 w1,Hst w0 None w0 H1 w1→∃(I1:Int→NP→WP) (mu1:Int→World→Nat),I1 0 H1 w1∧∀(i1:Int) (Hl1:NP) (wl1:World),Hst w0 Hl1 wl1 Hl1 wl1→I1 i1 Hl1 wl1→m_N1_l1 p1 aA aB aC aF aD aG aM i1 w0 Hl1 wl1 (fun y'0 H' w'=>I1 y'0 H' w'∧mu1 y'0 w'<mu1 i1 wl1) K
theorem w_N1 (p1 aA aB aC aF aD aG aM w0 K) (h:m_N1 p1 aA aB aC aF aD aG aM w0 K):
  Calls prog 178 #[(vp p1),(.agg #[(vi aA),(vi aB),(vi aC),(vu aF),(vs aD),(vi aG),(vi aM)])] w0 (fun e w'=>∃r1 r2,e=.returned (.tuple #[(vi r1),(vb r2)])∧K r1 r2 w'):=by
 refine cw (args:=[(vp p1),(Ae aA aB aC aF aD aG aM)]) func178 ntmps178 ?_
 obtain ⟨hs,hb⟩:=st0 w0
 refine eg (nw3 (Ad aA aB aC aF aD aG aM) 176 hs hb xb fun p2 w1 H1 hs hb=>qb (ln (zA (eg (q (ln (zK ?_)))))))
 have ⟨h,hs⟩:=hs.hr (h H1 w1)
 obtain ⟨I1,mu1,h0,hr⟩:=h
 refine vQ (σ:=Int×NP×World) (fun s ρ w=>w=s.2.2∧Has ρ [(0,(vp p1)),(3,(vp (some p2))),(6,(vi s.1))]∧Hst w0 s.2.1 w s.2.1 w∧HB s.2.1 w [(p2,(Ad aA aB aC aF aD aG aM),176)]∧I1 s.1 s.2.1 s.2.2) (fun s=>mu1 s.1 s.2.2) (0,H1,w1) ⟨rfl,hm,hs,hb,h0⟩ ?_
 rintro ⟨i1,Hl1,wl1⟩ ρ w ⟨hw,hH,hs,hb,hI⟩
 dsimp only at hw hH hs hb;subst w
 have h:=hr i1 Hl1 wl1 hs hI
 refine zV hH (zA (eg (qb (qm h fun a1 h=>q (ql (isAgg41 _) h fun v1 h=>qb (ln (cbr h ?_ ?_)))))))<;>intro h
 refine zB (zL (zA (zK (zA (uU (by kernel_rfl) (by kernel_rfl) (by kernel_rfl) (by kernel_rfl) ?_)))))
 intro w2 hw2
 have hs:Hst w0 Hl1 wl1 Hl1 w2:=by rw [hw2];exact hs.drew
 have hb:HB Hl1 w2 [(p2,(Ad aA aB aC aF aD aG aM),176)]:=by rw [hw2];exact hb.drew
 refine qq 0 (vp p1) Kp0 (qg 1 ?_)
 obtain ⟨a2,hp2,h⟩:=h
 refine sxQ Kp1 (zR rfl) rfl (xn hp2) (qq 2 (vp (some a2)) Kp2 (qg 3 ?_))
 have ⟨h,hs⟩:=hs.hr (h w2)
 obtain ⟨v2,hv3,h⟩:=h
 refine sxQ Kp3 (zR rfl) rfl (xl (isAgg41 _) hv3) (qq 4 (vi i1) Kp4 (qg 5 ?_))
 obtain ⟨a3,hv2,h⟩:=h
 refine sxQ Kp5 (zR rfl) rfl (xi (runUnderlying41 _) (sizeOf176 _) hv2) (qg 6 ?_)
 obtain ⟨aO,aP,aQ,aR,aS,bM,bN,hv1,h⟩:=h
 refine sxQ (v:=(Ae aO aP aQ aR aS bM bN)) Kp6 (zR rfl) rfl (xa a3 (Ad aO aP aQ aR aS bM bN) (isAgg176 _) (sizeOf176 _) hv1) (qr 7 (Ae aA aB aC aF aD aG aM) Kp7 (xa p2 (Ad aA aB aC aF aD aG aM) (isAgg176 _) (sizeOf176 _) (hb.r0 0 7 gZ)) (qr 8 (vb ((aO == aA) && ((aP == aB) && ((aQ == aC) && ((aR == aF) && ((decide (aS=aD)) && ((bM == aG) && (bN == aM)))))))) Kp8 (jFI (by kernel_rfl) (by kernel_rfl) (by kernel_rfl) (xI aO aP aQ aR aS bM bN aA aB aC aF aD aG aM _)) (wn (zL (cbr h ?_ ?_)))))<;>intro h
 refine eg (qd (ln (er (qW (zX (zX (qW (zX (xA (.inl rfl) results178 (v:=(vi (q6.wrap (i1+1)))) (by kernel_rfl) (v':=(vb true)) (by kernel_rfl) ⟨(q6.wrap (i1+1)),true,rfl,h⟩)))))))))
 refine zB (uM (zL (rg (qc (ln ⟨((q6.wrap (i1+1)),Hl1,w2),⟨rfl,hm,hs,hb,h.1⟩,h.2⟩)))))
 refine vO (uI (uI (uD (zL (eg (q0 (vi 0) (q0 (vb false) (ln (er (xA (.inl rfl) results178 (v:=(vi 0)) (by kernel_rfl) (v':=(vb false)) (by kernel_rfl) ⟨0,false,rfl,h⟩))))))))))
def m_O_j1 (p1:Option Addr) (aA aB:Int) (aC aF:Int) (aD:ByteArray) (aG aM:Int) (x1:Bool) (w0:World) (H:NP) (w:World) (K:Int→Int→WP):Prop :=Br x1 (K 0 51 w) (∃C1:WP,C1 w.drew∧∀w4,w4=w.drew→Calls prog 97 #[(vp p1),(vi aG)] w4 (fun e w5=>∃r1,e=.returned (vi r1)∧C1 w5∧Kept H w4 w5∧Calls prog 97 #[(vp p1),(vi aM)] w5 (fun e w6=>∃r2,e=.returned (vi r2)∧C1 w6∧Kept H w5 w6∧∃C2:WP,C2 w6.drew∧∀w7,w7=w6.drew→Calls prog 177 #[(vp p1),(vi aG)] w7 (fun e w8=>∃r3,e=.returned (vi r3)∧C2 w8∧Kept H w7 w8∧Calls prog 177 #[(vp p1),(vi aM)] w8 (fun e w9=>∃r4,e=.returned (vi r4)∧C2 w9∧Kept H w8 w9∧∃z1,(∀w',C2 w'→(Builtin.max_ #[3,3] 3 #[(vi r3),(vi r4)]).run prog w'=.ok (vi z1) w')∧∀y1:Bool,y1=((decide ((q6.wrap ((q6.wrap (1+r1))+r2))>4096)) || (decide ((q6.wrap (1+z1))>64)))→Br y1 (∀H2 w10,Hst w0 H w9 H2 w10→K 0 52 w10) (∀H2 w10,Hst w0 H w9 H2 w10→Calls prog 178 #[(vp p1),(.agg #[(vi aA),(vi aB),(vi aC),(vu aF),(vs aD),(vi aG),(vi aM)])] w10 (fun e w11=>∃r5 r6,e=.returned (.tuple #[(vi r5),(vb r6)])∧Kept H2 w10 w11∧Br r6 (K r5 0 w11) (∃a1,p1=some a1∧∃v1:Sl,w11.cell? a1=some v1.v∧Br (decide ((v1.len:Int)≥65536)) (K 0 6 w11) (∃C3:WP,C3 w11.drew∧∀w12,w12=w11.drew→∃a2,p1=some a2∧∃v2:Sl,(∀w',C3 w'→w'.cell? a2=some v2.v)∧∀p3 w13,New w12 (.cells #[(vi aA),(vi aB),(vi aC),(vu aF),(vs aD),(vi aG),(vi aM)] 176) p3 w13→C3 w13∧∃s1:Sl,∃w14:World,(Builtin.append_ #[41,41] 41 #[v2.v,(Sl.mk (some p3) 1 1).v]).run prog w13=.ok s1.v w14∧C3 w14∧Kept H2 w13 w14∧∃a3,p1=some a3∧vF w14 a3∧¬ H2 a3.block∧∀w15,w15=w14.setCell a3 s1.v→∃a4,p1=some a4∧∃v3:Sl,w15.cell? (a4.add 1)=some v3.v∧∀p4 w16,New w15 (.cells #[(vi (q6.wrap ((q6.wrap (1+r1))+r2)))] 3) p4 w16→∃s2:Sl,∃w17:World,(Builtin.append_ #[42,42] 42 #[v3.v,(Sl.mk (some p4) 1 1).v]).run prog w16=.ok s2.v w17∧Kept H2 w16 w17∧∃a5,p1=some a5∧vF w17 (a5.add 1)∧¬ H2 (a5.add 1).block∧∀w18,w18=w17.setCell (a5.add 1) s2.v→∃a6,p1=some a6∧∃v4:Sl,w18.cell? (a6.add 2)=some v4.v∧∀p5 w19,New w18 (.cells #[(vi (q6.wrap (1+z1)))] 3) p5 w19→∃s3:Sl,∃w20:World,(Builtin.append_ #[42,42] 42 #[v4.v,(Sl.mk (some p5) 1 1).v]).run prog w19=.ok s3.v w20∧Kept H2 w19 w20∧∃a7,p1=some a7∧vF w20 (a7.add 2)∧¬ H2 (a7.add 2).block∧∀w21,w21=w20.setCell (a7.add 2) s3.v→∃a8,p1=some a8∧∃v5:Sl,w21.cell? a8=some v5.v∧K (v5.len:Int) 0 w21)))))))))
def m_O_j2 (p1:Option Addr) (aA aB:Int) (aC aF:Int) (aD:ByteArray) (aG aM:Int) (x2:Bool) (w0:World) (H:NP) (w:World) (K:Int→Int→WP):Prop :=Br x2 (m_O_j1 p1 aA aB aC aF aD aG aM true w0 H w K) (Br (((s_C aA):Int) == 2) (Calls prog 87 #[(vp p1),(vi aM)] w (fun e w22=>∃r7,e=.returned (vb r7)∧Kept H w w22∧m_O_j1 p1 aA aB aC aF aD aG aM (!r7) w0 H w22 K)) (m_O_j1 p1 aA aB aC aF aD aG aM false w0 H w K))
def m_O (p1:Option Addr) (aA aB:Int) (aC aF:Int) (aD:ByteArray) (aG aM:Int) (w0:World) (K:Int→Int→WP):Prop :=Br (((s_H aA aB aC aF aD aG aM):Int) != 0) (∀H1 w2,Hst w0 None w0 H1 w2→K 0 (s_H aA aB aC aF aD aG aM) w2) (Br (decide ((s_C aA)≥1)) (∀H1 w3,Hst w0 None w0 H1 w3→Calls prog 87 #[(vp p1),(vi aG)] w3 (fun e w23=>∃r8,e=.returned (vb r8)∧Kept H1 w3 w23∧m_O_j2 p1 aA aB aC aF aD aG aM (!r8) w0 H1 w23 K)) (∀H1 w3,Hst w0 None w0 H1 w3→m_O_j2 p1 aA aB aC aF aD aG aM false w0 H1 w3 K))
theorem w_O (p1 aA aB aC aF aD aG aM w0 K) (h:m_O p1 aA aB aC aF aD aG aM w0 K):
  Calls prog 113 #[(vp p1),(.agg #[(vi aA),(vi aB),(vi aC),(vu aF),(vs aD),(vi aG),(vi aM)])] w0 (fun e w'=>∃r9 r10,e=.returned (.tuple #[(vi r9),(vi r10)])∧K r9 r10 w'):=by
 refine cw (args:=[(vp p1),(Ae aA aB aC aF aD aG aM)]) func113 ntmps113 ?_
 obtain ⟨hs,hb⟩:=st0 w0
 refine eg (nw3 (Ad aA aB aC aF aD aG aM) 176 hs hb xb fun p2 w1 H1 hs hb=>qb (ln (eg (q2 (Ae aA aB aC aF aD aG aM) (xa p2 (Ad aA aB aC aF aD aG aM) (isAgg176 _) (sizeOf176 _) (hb.r0 0 7 gZ)) (sc call176 ((p_H aA aB aC aF aD aG aM w1).mono ?_))))))
 rintro e w2 ⟨he,hE⟩
 refine ⟨_,he,?_⟩
 obtain ⟨hs,hb⟩:=hs.pp hb hE
 refine q (ln (zA (eg (qb (ln (cbr h ?_ ?_))))))<;>intro h
 refine eg (qc (ln (er (zX ?_))))
 have ⟨h,hs⟩:=hs.hr (h H1 w2)
 refine xA (.inl rfl) results113 (v:=(vi 0)) (by kernel_rfl) (v':=(vi (s_H aA aB aC aF aD aG aM))) (by kernel_rfl) ⟨0,(s_H aA aB aC aF aD aG aM),rfl,h⟩
 refine zB (zL (eg (q (q3 (xl (isAgg3 _) (hb.d0 0 gZ)) (sc call105 ((p_C aA w2).mono ?_))))))
 rintro e w3 ⟨he,hE⟩
 refine ⟨_,he,?_⟩
 obtain ⟨hs,hb⟩:=hs.pp hb hE
 refine q (ln (zA (zA (qT (fun ρ w=>∃x1,∃H:NP,Has ρ [(0,(vp p1)),(3,(vp (some p2))),(39,(vb x1))]∧Hst w0 H w H w∧HB H w [(p2,(Ad aA aB aC aF aD aG aM),176)]∧m_O_j1 p1 aA aB aC aF aD aG aM x1 w0 H w K) ?_ ?_))))
 rintro ρ w ⟨x1,H,hH,hs,hb,h⟩
 refine zV hH (cbr h ?_ ?_)<;>intro h
 refine eg (qb (ln (er (zX (xA (.inl rfl) results113 (v:=(vi 0)) (by kernel_rfl) (v':=(vi 51)) (by kernel_rfl) ⟨0,51,rfl,h⟩)))))
 refine zB (zL (zA ?_))
 obtain ⟨C1,hC,h⟩:=h
 refine dr2 (fun x=>C1 x∧HB H x _) [3,8] [] ⟨hC,hb.drew⟩ h hs hb fun w4 hs hb h=>?_
 have hs:=hs.here
 refine qx 0 (vp p1) Kp0 (qx 1 (vp (some (p2.add 5))) Kp1 (qz 2 (vi aG) Kp2 (fun w' hw'=>(xl (isAgg78 _) (hw'.2.cell 0 5 gZ (by kernel_rfl)))) (qx 5 (vp p1) Kp5 (qx 6 (vp (some (p2.add 6))) Kp6 (qz 7 (vi aM) Kp7 (fun w' hw'=>(xl (isAgg78 _) (hw'.2.cell 0 6 gZ (by kernel_rfl)))) (lg 3 (slc Kp3 call97 (h.mono ?_))))))))
 rintro e w5 ⟨r1,rfl,hC,hk,h⟩
 refine ⟨_,rfl,.inr ⟨hC,hb.kept hk⟩,?_⟩
 obtain ⟨hs,hb⟩:=hk.hh hs hb
 refine qx 4 (vi (q6.wrap (1+r1))) Kp4 (lg 8 (slc Kp8 call97 (h.mono ?_)))
 rintro e w6 ⟨r2,rfl,hC,hk,h⟩
 refine ⟨_,rfl,.inr ⟨hC,hb.kept hk⟩,?_⟩
 obtain ⟨hs,hb⟩:=hk.hh hs hb
 refine qx 9 (vi (q6.wrap ((q6.wrap (1+r1))+r2))) Kp9 (qx 10 (vi (q6.wrap ((q6.wrap (1+r1))+r2))) (zO (S8 (zG (zG zN)))) (wn (zL (zA ?_))))
 obtain ⟨C2,hC,h⟩:=h
 refine dr2 (fun x=>C2 x∧HB H x _) [3,7] [] ⟨hC,hb.drew⟩ h hs hb fun w7 hs hb h=>?_
 have hs:=hs.here
 refine qx 0 (vp p1) Kp0 (qx 1 (vp (some (p2.add 5))) Kp1 (qz 2 (vi aG) Kp2 (fun w' hw'=>(xl (isAgg78 _) (hw'.2.cell 0 5 gZ (by kernel_rfl)))) (qx 4 (vp p1) Kp4 (qx 5 (vp (some (p2.add 6))) Kp5 (qz 6 (vi aM) Kp6 (fun w' hw'=>(xl (isAgg78 _) (hw'.2.cell 0 6 gZ (by kernel_rfl)))) (lg 3 (slc Kp3 call177 (h.mono ?_))))))))
 rintro e w8 ⟨r3,rfl,hC,hk,h⟩
 refine ⟨_,rfl,.inr ⟨hC,hb.kept hk⟩,?_⟩
 obtain ⟨hs,hb⟩:=hk.hh hs hb
 refine lg 7 (slc Kp7 call177 (h.mono ?_))
 rintro e w9 ⟨r4,rfl,hC,hk,h⟩
 refine ⟨_,rfl,.inr ⟨hC,hb.kept hk⟩,?_⟩
 obtain ⟨hs,hb⟩:=hk.hh hs hb
 refine qg 8 ?_
 obtain ⟨z1,hv9,h⟩:=h
 refine sy (v:=(vi z1)) Kp8 (fun w' hw'=>(vT (args:=#[(vi r3),(vi r4)]) (by kernel_rfl) (fun _=>rfl) (hv9 w' hw'.1))) (qx 9 (vi (q6.wrap (1+z1))) Kp9 (qx 10 (vi (q6.wrap (1+z1))) (zO (S8 (zG (zG zN)))) (wn (zL (zA (zA (vN (fun ρ wJ=>∃b1'0 y1:Bool,∃HJ:NP,((decide ((q6.wrap ((q6.wrap (1+r1))+r2))>4096))=b1'0)∧(y1=(b1'0 || (decide ((q6.wrap (1+z1))>64))))∧Hst w0 H w9 HJ wJ∧HB HJ wJ [(p2,(Ad aA aB aC aF aD aG aM),176)]∧Has ρ [(0,(vp p1)),(3,(vp (some p2))),(8,(vi (q6.wrap ((q6.wrap (1+r1))+r2)))),(9,(vi (q6.wrap (1+z1)))),(65,(vb y1))]) ?_ ?_)))))))
 refine rg (qc ?_)
 rcases bte (decide ((q6.wrap ((q6.wrap (1+r1))+r2))>4096)) with hg2 | hg2
 refine sj2 62 hg2 (q2 (vb true) (xT hg2) (ln ⟨true,_,_,hg2,rfl,hs,hb,hm⟩))
 refine qk 62 hg2 (qk 62 hg2 (q2 (vb (decide ((q6.wrap (1+z1))>64))) (xF hg2) (ln ⟨false,_,_,hg2,rfl,hs,hb,hm⟩)))
 rintro ρ w10 ⟨b1'0,y1,H2,he0,hy1,hs,hb,hH⟩
 subst he0
 have h:=h y1 hy1
 refine vE hH (zL (cbr h ?_ ?_))<;>intro h
 refine eg (qb (ln (er (zX ?_))))
 have ⟨h,hs⟩:=hs.hr (h H2 w10)
 refine xA (.inl rfl) results113 (v:=(vi 0)) (by kernel_rfl) (v':=(vi 52)) (by kernel_rfl) ⟨0,52,rfl,h⟩
 refine zB (zL (eg (q (q2 (Ae aA aB aC aF aD aG aM) (xa p2 (Ad aA aB aC aF aD aG aM) (isAgg176 _) (sizeOf176 _) (hb.r0 0 7 gZ)) ?_))))
 have ⟨h,hs⟩:=hs.hr (h H2 w10)
 refine sc call178 (h.mono fun e w11 ⟨r5,r6,k,hk,h⟩=>have ⟨hs,hb⟩:=hk.hh hs hb;⟨_,k,?_⟩)
 refine q (qd (ln (zA (eg (q (zC (zL (cbr h ?_ ?_))))))))<;>intro h
 refine eg (qc (ln (er (zX (xA (.inl rfl) results113 (v:=(vi r5)) (by kernel_rfl) (v':=(vi 0)) (by kernel_rfl) ⟨r5,0,rfl,h⟩)))))
 refine zB (zL (zA (eg (q (qm h fun a1 h=>q (ql (isAgg41 _) h fun v1 h=>qb (ln (cbr h ?_ ?_))))))))<;>intro h
 refine eg (qb (ln (er (zX (xA (.inl rfl) results113 (v:=(vi 0)) (by kernel_rfl) (v':=(vi 6)) (by kernel_rfl) ⟨0,6,rfl,h⟩)))))
 refine zB (zL (zA ?_))
 obtain ⟨C3,hC,h⟩:=h
 refine dr2 (fun x=>C3 x∧HB H2 x _) [6,7,10] [10] ⟨hC,hb.drew⟩ h hs hb fun w12 hs hb h=>?_
 have hs:=hs.here
 refine qx 0 (vp p1) Kp0 (qx 1 (vp p1) Kp1 (qg 2 ?_))
 obtain ⟨a2,hp2,h⟩:=h
 refine sy Kp2 (fun _ _=>xn hp2) (qx 3 (vp (some a2)) Kp3 (qg 4 ?_))
 obtain ⟨v2,hv7,h⟩:=h
 refine sy Kp4 (fun _ k=>xl (isAgg41 _) (hv7 _ k.1)) (qz 5 (Ae aA aB aC aF aD aG aM) Kp5 (fun w' hw'=>(xa p2 (Ad aA aB aC aF aD aG aM) (isAgg176 _) (sizeOf176 _) (hw'.2.r0 0 7 gZ))) (lg 6 (qL (O:=(.cells #[(vi aA),(vi aB),(vi aC),(vu aF),(vs aD),(vi aG),(vi aM)] 176)) (fun p=>(Sl.mk (some p) 1 1).v) Kp6 (zR rfl) (by kernel_rfl) (vL (vs:=#[(0,(Ae aA aB aC aF aD aG aM))]) (by kernel_rfl) (by kernel_rfl)) ?_)))
 intro p3 w13 hn7
 have h:=h p3 w13 hn7
 refine ⟨.inr ⟨h.1,hb.kept (Ext.new (F:=None) hn7).keptP⟩,?_⟩
 have h:=h.2
 obtain ⟨hs,hb⟩:=hs.nw hb hn7
 refine lg 7 ?_
 obtain ⟨s1,w14,hv6,hC,hk,h⟩:=h
 refine sl (v:=s1.v) Kp7 (zR rfl) (by kernel_rfl) (vT (args:=#[v2.v,(Sl.mk (some p3) 1 1).v]) (by kernel_rfl) (fun _=>rfl) hv6) (.inr ⟨hC,hb.kept hk⟩) ?_
 obtain ⟨hs,hb⟩:=hk.hh hs hb
 refine qg 8 ?_
 obtain ⟨a3,hp3,h⟩:=h
 refine sy Kp8 (fun _ _=>xn hp3) (qx 9 (vp (some a3)) Kp9 (lg 10 ?_))
 obtain ⟨hp4,hnh,h⟩:=h
 refine jPS (zO (S8 (zG (zG zN)))) (xs (v:=s1.v) (sizeOf41 _) hp4) ?_
 intro w15 hn2
 have h:=h w15 hn2
 refine ⟨.inl (by kernel_rfl),?_⟩
 have hk:=Kept.sc hnh hn2
 obtain ⟨hs,hb⟩:=hk.hh hs hb
 refine wn (zL (eg (qb (qm h fun a4 h=>q (ql (isAgg42 _) h fun v3 h=>q (tR (O:=(.cells #[(vi (q6.wrap ((q6.wrap (1+r1))+r2)))] 3)) (fun p=>(Sl.mk (some p) 1 1).v) (zR rfl) (vL (vs:=#[(0,(vi (q6.wrap ((q6.wrap (1+r1))+r2))))]) (by kernel_rfl) (by kernel_rfl)) ?_))))))
 intro p4 w16 hn6
 have h:=h p4 w16 hn6
 obtain ⟨hs,hb⟩:=hs.nw hb hn6
 obtain ⟨s2,w17,hv4,hk,h⟩:=h
 refine st (v:=s2.v) (zR rfl) (vT (args:=#[v3.v,(Sl.mk (some p4) 1 1).v]) (by kernel_rfl) (fun _=>rfl) hv4) ?_
 obtain ⟨hs,hb⟩:=hk.hh hs hb
 refine qm h fun a5 h=>q (st2 (sizeOf42 _) hs hb h fun w18 hs hb h=>ln (eg (qb (qm h fun a6 h=>q (ql (isAgg42 _) h fun v4 h=>q (tR (O:=(.cells #[(vi (q6.wrap (1+z1)))] 3)) (fun p=>(Sl.mk (some p) 1 1).v) (zR rfl) (vL (vs:=#[(0,(vi (q6.wrap (1+z1))))]) (by kernel_rfl) (by kernel_rfl)) ?_))))))
 intro p5 w19 hn5
 have h:=h p5 w19 hn5
 obtain ⟨hs,hb⟩:=hs.nw hb hn5
 obtain ⟨s3,w20,hv2,hk,h⟩:=h
 refine st (v:=s3.v) (zR rfl) (vT (args:=#[v4.v,(Sl.mk (some p5) 1 1).v]) (by kernel_rfl) (fun _=>rfl) hv2) ?_
 obtain ⟨hs,hb⟩:=hk.hh hs hb
 refine qm h fun a7 h=>q (st2 (sizeOf42 _) hs hb h fun w21 hs hb h=>ln (eg (q (qm h fun a8 h=>q (ql (isAgg41 _) h fun v5 h=>qc (ln (er (xA (.inl rfl) results113 (v:=(vi (v5.len:Int))) (by kernel_rfl) (v':=(vi 0)) (by kernel_rfl) ⟨(v5.len:Int),0,rfl,h⟩))))))))
 refine rg (qc (zI 6 (fun ρ w=>∃x2,∃H:NP,Has ρ [(0,(vp p1)),(3,(vp (some p2))),(7,(vi (s_C aA))),(28,(vb x2))]∧Hst w0 H w H w∧HB H w [(p2,(Ad aA aB aC aF aD aG aM),176)]∧m_O_j2 p1 aA aB aC aF aD aG aM x2 w0 H w K) ?_ ?_))
 rintro ρ w ⟨x2,H,hH,hs,hb,h⟩
 refine zM hH (q ?_)
 obtain ⟨hg3,h⟩|⟨hg3,h⟩:=h.br
 refine sj3 29 hg3 (sm (sm (sm (sm (sm (sj 29 hg3 (q2 (vb true) (xT hg3) (ln ⟨true,H,hm,hs,hb,h⟩))))))))
 refine qk 29 hg3 (qk 29 hg3 (qk 29 hg3 ?_))
 obtain ⟨hg4,h⟩|⟨hg4,h⟩:=h.br
 refine qk 32 hg4 (qk 32 hg4 (q4 32 hg4 (xl (isAgg78 _) (hb.d 0 6 gZ)) (vA (wy 32 hg4) (xc call87) (h.mono ?_))))
 rintro e w22 ⟨r7,rfl,hk,h⟩
 refine ⟨_,rfl,?_⟩
 obtain ⟨hs,hb⟩:=hk.hh hs hb
 refine qk 32 hg4 (stq (v:=(vb (!r7))) (wy 29 hg3) (xT hg4) (q2 (vb (!r7)) (xF hg3) (ln ⟨(!r7),H,hm,hs,hb,h⟩)))
 refine sj5 32 hg4 (stq (v:=(vb false)) (wy 29 hg3) (xF hg4) (q2 (vb false) (xF hg3) (ln ⟨false,H,hm,hs,hb,h⟩)))
 obtain ⟨hg5,h⟩|⟨hg5,h⟩:=h.br
 refine qk 22 hg5 (qk 22 hg5 (q4 22 hg5 (xl (isAgg78 _) (hb.d 0 5 gZ)) ?_))
 have ⟨h,hs⟩:=hs.hr (h H1 w3)
 refine vA (wy 22 hg5) (xc call87) (h.mono ?_)
 rintro e w23 ⟨r8,rfl,hk,h⟩
 refine ⟨_,rfl,?_⟩
 obtain ⟨hs,hb⟩:=hk.hh hs hb
 refine qk 22 hg5 (q2 (vb (!r8)) (xT hg5) (zC ⟨(!r8),H1,hm,hs,hb,h⟩))
 refine sj5 22 hg5 (q2 (vb false) (xF hg5) (zC ?_))
 have ⟨h,hs⟩:=hs.hr (h H1 w3)
 exact ⟨false,H1,hm,hs,hb,h⟩
def m_O1_l1 (p1:Option Addr) (aH:Sl) (i1 aA:Int) (aB aC aF:Int) (aD:ByteArray) (aG aM:Int) (w0:World) (Hl1:NP) (wl1:World) (Kc1:Int→Int→Int→Int→Int→ByteArray→Int→Int→NP→WP) (K:Int→Int→WP):Prop :=Br (decide (i1<(aH.len:Int))) (∃a1:Addr,At aH i1 6 a1∧∃aO aP aQ aR aS bI,Row wl1 a1 (Ab aO aP aQ aR aS bI)∧Calls prog 148 #[(vp p1),(.agg #[(vi aO),(vi aP),(vi aQ),(vu aR),(vs aS),bI.v])] wl1 (fun e w5=>∃r1 r2,e=.returned (.tuple #[(vi r1),(vi r2)])∧Kept Hl1 wl1 w5∧Br (r2 != 0) (K 0 r2 w5) (∀H3 w8,Hst w0 Hl1 w5 H3 w8→Kc1 (q6.wrap (i1+1)) aA aB aC aF aD (cond (i1 == 0) r1 aG) (cond (i1 == 0) aM r1) H3 w8))) (Calls prog 113 #[(vp p1),(.agg #[(vi aA),(vi aB),(vi aC),(vu aF),(vs aD),(vi aG),(vi aM)])] wl1 (fun e w11=>∃r3 r4,e=.returned (.tuple #[(vi r3),(vi r4)])∧Kept Hl1 wl1 w11∧K r3 r4 w11))
def m_O1 (p1:Option Addr) (aE aI:Int) (aJ aK:Int) (aL:ByteArray) (aH:Sl) (w0:World) (K:Int→Int→WP):Prop :=∀H2 w4,Hst w0 None w0 H2 w4→∃(I1:Int→Int→Int→Int→Int→ByteArray→Int→Int→NP→WP) (mu1:Int→Int→Int→Int→Int→ByteArray→Int→Int→World→Nat),I1 0 aE aI aJ aK aL 0 0 H2 w4∧∀(i1 aA:Int) (aB aC aF:Int) (aD:ByteArray) (aG aM:Int) (Hl1:NP) (wl1:World),Hst w0 Hl1 wl1 Hl1 wl1→I1 i1 aA aB aC aF aD aG aM Hl1 wl1→m_O1_l1 p1 aH i1 aA aB aC aF aD aG aM w0 Hl1 wl1 (fun y'0 y'1 y'2 y'3 y'4 y'5 y'6 y'7 H' w'=>I1 y'0 y'1 y'2 y'3 y'4 y'5 y'6 y'7 H' w'∧mu1 y'0 y'1 y'2 y'3 y'4 y'5 y'6 y'7 w'<mu1 i1 aA aB aC aF aD aG aM wl1) K
theorem w_O1 (p1 aE aI aJ aK aL aH w0 K) (h:m_O1 p1 aE aI aJ aK aL aH w0 K):
  Calls prog 148 #[(vp p1),(.agg #[(vi aE),(vi aI),(vi aJ),(vu aK),(vs aL),aH.v])] w0 (fun e w'=>∃r5 r6,e=.returned (.tuple #[(vi r5),(vi r6)])∧K r5 r6 w'):=by
 refine cw (args:=[(vp p1),(Aa aE aI aJ aK aL aH)]) func148 ntmps148 ?_
 obtain ⟨hs,hb⟩:=st0 w0
 refine eg (nw3 (Ab aE aI aJ aK aL aH) 107 hs hb xb fun p2 w1 H1 hs hb=>qb (ln (eg (q2 (Aa aE aI aJ aK aL aH) (xa p2 (Ab aE aI aJ aK aL aH) (isAgg107 _) (sizeOf107 _) (hb.r0 0 6 gZ)) (sc call204 ((p_C1 aE aI aJ aK aL aH w1).mono ?_))))))
 rintro e w2 ⟨he,hE⟩
 refine ⟨_,he,?_⟩
 obtain ⟨hs,hb⟩:=hs.pp hb hE
 refine nw3 (Al 0 0 0 0 0 0) 176 hs hb (zH (zeroValue176 _) rfl) fun p3 w3 H2 hs hb=>sbx 0 (Ad aE aI aJ aK aL 0 0) (sizeOf176 _) hs hb gZ fun w4 hs hb=>ln (zA (eg (q (ln (zK ?_)))))
 have ⟨h,hs⟩:=hs.hr (h H2 w4)
 obtain ⟨I1,mu1,h0,hr⟩:=h
 refine vQ (σ:=Int×Int×Int×Int×Int×ByteArray×Int×Int×NP×World) (fun s ρ w=>w=s.2.2.2.2.2.2.2.2.2∧Has ρ [(0,(vp p1)),(3,(vp (some p2))),(6,(vp (some p3))),(7,(vi s.1))]∧Hst w0 s.2.2.2.2.2.2.2.2.1 w s.2.2.2.2.2.2.2.2.1 w∧HB s.2.2.2.2.2.2.2.2.1 w [(p3,(Ad (s.2.1) (s.2.2.1) (s.2.2.2.1) (s.2.2.2.2.1) (s.2.2.2.2.2.1) (s.2.2.2.2.2.2.1) (s.2.2.2.2.2.2.2.1)),176),(p2,(Ab aE aI aJ aK aL aH),107)]∧I1 s.1 s.2.1 s.2.2.1 s.2.2.2.1 s.2.2.2.2.1 s.2.2.2.2.2.1 s.2.2.2.2.2.2.1 s.2.2.2.2.2.2.2.1 s.2.2.2.2.2.2.2.2.1 s.2.2.2.2.2.2.2.2.2) (fun s=>mu1 s.1 s.2.1 s.2.2.1 s.2.2.2.1 s.2.2.2.2.1 s.2.2.2.2.2.1 s.2.2.2.2.2.2.1 s.2.2.2.2.2.2.2.1 s.2.2.2.2.2.2.2.2.2) (0,aE,aI,aJ,aK,aL,0,0,H2,w4) ⟨rfl,hm,hs,hb,h0⟩ ?_
 rintro ⟨i1,aA,aB,aC,aF,aD,aG,aM,Hl1,wl1⟩ ρ w ⟨hw,hH,hs,hb,hI⟩
 dsimp only at hw hH hs hb;subst w
 have h:=hr i1 aA aB aC aF aD aG aM Hl1 wl1 hs hI
 refine zV hH (zA (eg (qb (q3 (xl (isAgg66 _) (hb.d 1 5 (gS gZ))) (qb (ln (cbr h ?_ ?_)))))))<;>intro h
 refine zB (zL (zA (zK (eg (qb (q3 (xl (isAgg66 _) (hb.d 1 5 (gS gZ))) (q (qi (runUnderlying66 _) (sizeOf107 _) h fun a1 h=>?_))))))))
 obtain ⟨aO,aP,aQ,aR,aS,bI,hv1,h⟩:=h
 refine qa (isAgg107 _) (sizeOf107 _) hv1 (sc call148 (h.mono fun e w5 ⟨r1,r2,k,hk,h⟩=>have ⟨hs,hb⟩:=hk.hh hs hb;⟨_,k,?_⟩))
 refine q (qd (ln (zA (eg (qb (ln (cbr h ?_ ?_)))))))<;>intro h
 refine eg (qc (ln (er (zX (qW (zX (zX (qW (zX (xA (.inl rfl) results148 (v:=(vi 0)) (by kernel_rfl) (v':=(vi r2)) (by kernel_rfl) ⟨0,r2,rfl,h⟩))))))))))
 refine zB (zL (eg (qb (ln (vN (fun ρ wJ=>∃b1'0:Bool,∃HJ:NP,((i1 == 0)=b1'0)∧Hst w0 Hl1 w5 HJ wJ∧HB HJ wJ [(p3,(Ad aA aB aC aF aD (cond b1'0 r1 aG) (cond b1'0 aM r1)),176),(p2,(Ab aE aI aJ aK aL aH),107)]∧Has ρ [(0,(vp p1)),(3,(vp (some p2))),(6,(vp (some p3))),(7,(vi i1))]) ?_ ?_)))))
 refine vI (t:=(i1 == 0)) (by kernel_rfl) (fun hc4=>?_) (fun hc4=>?_)
 refine rg (qb (vU (zR rfl) (uZ (a:=(p3.add 5)) (v:=(vi r1)) (by kernel_rfl) (by kernel_rfl) rfl (sizeOf78 _) (hb.canW 0 5 gZ (by kernel_rfl))) ?_))
 intro w9 hn6
 have hsb:Hst w0 Hl1 w5 Hl1 w9∧HB Hl1 w9 [(p3,(Ad aA aB aC aF aD r1 aM),176),(p2,(Ab aE aI aJ aK aL aH),107)]:=by
  rw [hn6];exact hb.set (i:=0) 5 (v:=(vi r1)) hs gZ (by kernel_rfl)
 obtain ⟨hs,hb⟩:=hsb
 refine ln ⟨true,_,hc4,hs,hb,hm⟩
 refine rg (qb (vU (zR rfl) (uZ (a:=(p3.add 6)) (v:=(vi r1)) (by kernel_rfl) (by kernel_rfl) rfl (sizeOf78 _) (hb.canW 0 6 gZ (by kernel_rfl))) ?_))
 intro w10 hn7
 have hsb:Hst w0 Hl1 w5 Hl1 w10∧HB Hl1 w10 [(p3,(Ad aA aB aC aF aD aG r1),176),(p2,(Ab aE aI aJ aK aL aH),107)]:=by
  rw [hn7];exact hb.set (i:=0) 6 (v:=(vi r1)) hs gZ (by kernel_rfl)
 obtain ⟨hs,hb⟩:=hsb
 refine ln ⟨false,_,hc4,hs,hb,hm⟩
 rintro ρ w8 ⟨b1'0,H3,he0,hs,hb,hH⟩
 subst he0
 refine vE hH (uM (zL (rg (qc (zC ?_)))))
 have ⟨h,hs⟩:=hs.hr (h H3 w8)
 refine zL ⟨((q6.wrap (i1+1)),aA,aB,aC,aF,aD,(cond (i1 == 0) r1 aG),(cond (i1 == 0) aM r1),H3,w8),⟨rfl,hm,hs,hb,h.1⟩,h.2⟩
 refine vO (uI (uI (uD (zL (eg (q0 (vp p1) (q2 (Ae aA aB aC aF aD aG aM) (xa p3 (Ad aA aB aC aF aD aG aM) (isAgg176 _) (sizeOf176 _) (hb.r0 0 7 gZ)) (sc call113 (h.mono fun e w11 ⟨r3,r4,k,hk,h⟩=>have ⟨hs,hb⟩:=hk.hh hs hb;⟨_,k,?_⟩)))))))))
 refine qd (ln (er (xA (.inl rfl) results148 (v:=(vi r3)) (by kernel_rfl) (v':=(vi r4)) (by kernel_rfl) ⟨r3,r4,rfl,h⟩)))
def m_I2 (p1:Option Addr) (n1:Int) (w0:World) (K:WP):Prop :=∃a1,p1=some a1∧∃v1:Sl,w0.cell? a1=some v1.v∧∃s1:Sl,(Instr.sliceAt 41 v1.v none (some (vi n1)) none).run prog w0=.ok s1.v w0∧∃a2,p1=some a2∧vF w0 a2∧∀w1,w1=w0.setCell a2 s1.v→∃a3,p1=some a3∧∃v2:Sl,w1.cell? (a3.add 1)=some v2.v∧∃s2:Sl,(Instr.sliceAt 42 v2.v none (some (vi n1)) none).run prog w1=.ok s2.v w1∧∃a4,p1=some a4∧vF w1 (a4.add 1)∧∀w2,w2=w1.setCell (a4.add 1) s2.v→∃a5,p1=some a5∧∃v3:Sl,w2.cell? (a5.add 2)=some v3.v∧∃s3:Sl,(Instr.sliceAt 42 v3.v none (some (vi n1)) none).run prog w2=.ok s3.v w2∧∃a6,p1=some a6∧vF w2 (a6.add 2)∧∀w3,w3=w2.setCell (a6.add 2) s3.v→K w3
theorem w_I2 (p1 n1 w0 K) (h:m_I2 p1 n1 w0 K):
  Calls prog 149 #[(vp p1),(vi n1)] w0 (fun e w'=>e=.returned (.tuple #[])∧K  w'):=by
 refine cw (args:=[(vp p1),(vi n1)]) func149 ntmps149 (eg (q0 (vp p1) (q0 (vp p1) ?_)))
 refine qm h fun a1 h=>q (ql (isAgg41 _) h fun v1 h=>q ?_)
 obtain ⟨s1,hv5,h⟩:=h
 refine q2 s1.v (xR (by kernel_rfl) (by kernel_rfl) (by kernel_rfl) (by kernel_rfl) hv5) (qm h fun a2 h=>q (st1 (sizeOf41 _) h fun w1 h=>ln (eg (qb (qm h fun a3 h=>q (ql (isAgg42 _) h fun v2 h=>q ?_))))))
 obtain ⟨s2,hv3,h⟩:=h
 refine q2 s2.v (xR (by kernel_rfl) (by kernel_rfl) (by kernel_rfl) (by kernel_rfl) hv3) (qm h fun a4 h=>q (st1 (sizeOf42 _) h fun w2 h=>ln (rg (qb (qm h fun a5 h=>q (ql (isAgg42 _) h fun v3 h=>q ?_))))))
 obtain ⟨s3,hv1,h⟩:=h
 refine q2 s3.v (xR (by kernel_rfl) (by kernel_rfl) (by kernel_rfl) (by kernel_rfl) hv1) (qm h fun a6 h=>q (st1 (sizeOf42 _) h fun w3 h=>zC (jPD (.inr rfl) results149 ⟨rfl,h⟩)))
def m_J2 (p1:Option Addr) (aE aI:Int) (aJ aK:Int) (aL:ByteArray) (aH:Sl) (w0:World) (K:Int→Int→WP):Prop :=∀H1 w1,Hst w0 None w0 H1 w1→Calls prog 147 #[(.agg #[(vi aE),(vi aI),(vi aJ),(vu aK),(vs aL),aH.v])] w1 (fun e w2=>∃r1,e=.returned (vi r1)∧Kept H1 w1 w2∧Br (r1 != 0) (K 0 r1 w2) (∃a1,p1=some a1∧∃v1:Sl,w2.cell? a1=some v1.v∧Calls prog 148 #[(vp p1),(.agg #[(vi aE),(vi aI),(vi aJ),(vu aK),(vs aL),aH.v])] w2 (fun e w3=>∃r2 r3,e=.returned (.tuple #[(vi r2),(vi r3)])∧Kept H1 w2 w3∧Br (r3 != 0) (Calls prog 149 #[(vp p1),(vi (v1.len:Int))] w3 (fun e w4=>e=.returned (.tuple #[])∧Kept H1 w3 w4∧K r2 r3 w4)) (K r2 r3 w3))))
theorem w_J2 (p1 aE aI aJ aK aL aH w0 K) (h:m_J2 p1 aE aI aJ aK aL aH w0 K):
  Calls prog 78 #[(vp p1),(.agg #[(vi aE),(vi aI),(vi aJ),(vu aK),(vs aL),aH.v])] w0 (fun e w'=>∃r4 r5,e=.returned (.tuple #[(vi r4),(vi r5)])∧K r4 r5 w'):=by
 refine cw (args:=[(vp p1),(Aa aE aI aJ aK aL aH)]) func78 ntmps78 ?_
 obtain ⟨hs,hb⟩:=st0 w0
 refine eg (nw3 (Ab aE aI aJ aK aL aH) 107 hs hb xb fun p2 w1 H1 hs hb=>qb (ln (eg (q2 (Aa aE aI aJ aK aL aH) (xa p2 (Ab aE aI aJ aK aL aH) (isAgg107 _) (sizeOf107 _) (hb.r0 0 6 gZ)) ?_))))
 have ⟨h,hs⟩:=hs.hr (h H1 w1)
 refine sc call147 (h.mono fun e w2 ⟨r1,k,hk,h⟩=>have ⟨hs,hb⟩:=hk.hh hs hb;⟨_,k,?_⟩)
 refine q (ln (zA (eg (qb (ln (cbr h ?_ ?_))))))<;>intro h
 refine eg (qc (ln (er (zX (xA (.inl rfl) results78 (v:=(vi 0)) (by kernel_rfl) (v':=(vi r1)) (by kernel_rfl) ⟨0,r1,rfl,h⟩)))))
 refine zB (zL (eg (q (qm h fun a1 h=>q (ql (isAgg41 _) h fun v1 h=>qb (ln (eg (q (q2 (Aa aE aI aJ aK aL aH) (xa p2 (Ab aE aI aJ aK aL aH) (isAgg107 _) (sizeOf107 _) (hb.r0 0 6 gZ)) (sc call148 (h.mono fun e w3 ⟨r2,r3,k,hk,h⟩=>have ⟨hs,hb⟩:=hk.hh hs hb;⟨_,k,?_⟩)))))))))))
 refine q (qd (ln (zA (eg (qb (ln (cbr h ?_ ?_)))))))<;>intro h
 refine rg (qb (sc call149 (h.mono fun e w4 ⟨k,hk,h⟩=>have ⟨hs,hb⟩:=hk.hh hs hb;⟨_,k,?_⟩)))
 refine ln (eg (qd (ln (er (xA (.inl rfl) results78 (v:=(vi r2)) (by kernel_rfl) (v':=(vi r3)) (by kernel_rfl) ⟨r2,r3,rfl,h⟩)))))
 refine zB (zL (eg (qd (ln (er (xA (.inl rfl) results78 (v:=(vi r2)) (by kernel_rfl) (v':=(vi r3)) (by kernel_rfl) ⟨r2,r3,rfl,h⟩))))))
end Go.Proofs
end
section
open Go Go.SE
namespace Go.Proofs
attribute [local irreducible] Calls
theorem uX (k:Int):(k=1∨k=2∨k=3∨k=4∨k=5∨k=6∨k=7∨k=8∨k=9)∨(Sp.shapeOf k=Sp.noShape∧Sp.isKind k=false∧∀m:Int,1≤m→m≤9→(k == m)=false):=by
 by_cases h:k=1∨k=2∨k=3∨k=4∨k=5∨k=6∨k=7∨k=8∨k=9
 ·exact .inl h
 ·right;refine ⟨?_,?_,fun m h1 h2=>?_⟩
  ·unfold Sp.shapeOf;repeat rw [if_neg (by omega)]
  ·unfold Sp.isKind;apply Bool.eq_false_iff.2;intro h3;simp at h3;omega
  ·rw [beq_eq_false_iff_ne];omega
theorem tC (k:Int):s_C k=(Sp.shapeOf k).kids:=by
 rcases uX k with h | ⟨h,_,hm⟩
 ·rcases h with rfl | rfl | rfl | rfl | rfl | rfl | rfl | rfl | rfl <;> decide
 ·rw [h];unfold s_C;simp [hm,Sp.noShape]
theorem jDR (k:Int):s_D k=(Sp.shapeOf k).frm:=by
 rcases uX k with h | ⟨h,_,hm⟩
 ·rcases h with rfl | rfl | rfl | rfl | rfl | rfl | rfl | rfl | rfl <;> decide
 ·rw [h];unfold s_D;simp [hm,Sp.noShape]
theorem jGV (k:Int):((k == 8) || (k == 9))=(Sp.shapeOf k).to:=by
 rcases uX k with h | ⟨h,_,hm⟩
 ·rcases h with rfl | rfl | rfl | rfl | rfl | rfl | rfl | rfl | rfl <;> decide
 ·rw [h];simp [hm,Sp.noShape]
theorem jMA (k:Int):(k == 2)=(Sp.shapeOf k).num:=by
 rcases uX k with h | ⟨h,_,hm⟩
 ·rcases h with rfl | rfl | rfl | rfl | rfl | rfl | rfl | rfl | rfl <;> decide
 ·rw [h];simp [hm,Sp.noShape]
theorem jKR (k:Int):(k == 3)=(Sp.shapeOf k).text:=by
 rcases uX k with h | ⟨h,_,hm⟩
 ·rcases h with rfl | rfl | rfl | rfl | rfl | rfl | rfl | rfl | rfl <;> decide
 ·rw [h];simp [hm,Sp.noShape]
theorem jKS (k:Int):(!(decide (k<1) || decide (k>9)))=Sp.isKind k:=by
 unfold Sp.isKind;by_cases h1:k<1 <;> by_cases h2:k>9 <;> simp [h1,h2] <;> omega
theorem ite53 (q:Bool):decide ((if q=true then (53:Int) else 0)=0)=!q:=by cases q <;> rfl
def Sp.nodeErr (n:Sp.Node):Int :=
 if Sp.vC n≠0 then 53 else if (decide ((Sp.shapeOf n.kind).kids<1) && n.a != 0) || (decide ((Sp.shapeOf n.kind).kids<2) && n.b != 0) then 53 else Sp.vB (Sp.shapeOf n.kind) n
theorem jIU (n:Sp.Node):s_D1 n.kind n.frm n.to n.num n.text n.a n.b=(decide (Sp.vC n=0) && !((decide ((Sp.shapeOf n.kind).kids<1) && n.a != 0) || (decide ((Sp.shapeOf n.kind).kids<2) && n.b != 0))):=by
 obtain ⟨k,f,t,u,x,a,b⟩:=n;unfold s_D1 Sp.vC;simp only [tC,jDR,jGV k,jMA k,jKR k,jKS];have hk:=Sp.tM k;generalize Sp.shapeOf k=s at *;obtain ⟨s1,s2,s3,s4,s5⟩:=s;generalize Sp.isKind k=i;have e1:decide (s5≥1)=!decide (s5<1):=by by_cases h:s5<1 <;> simp [h] <;> omega
 have e2:(s5 == 2)=!decide (s5<2):=by
  by_cases h:s5<2
  ·simp [h];omega
  ·simp [h];simp at hk;omega
 simp only [e1,e2,bne,ite53];generalize (f == 0)=c1;generalize (t == 0)=c2;generalize (u == 0)=c3;generalize decide (x=⟨#[]⟩)=c4;generalize (a == 0)=c5;generalize (b == 0)=c6;generalize decide (s5<1)=c7;generalize decide (s5<2)=c8;cases i <;> cases s1 <;> cases s2 <;> cases s3 <;> cases s4 <;> cases c1 <;> cases c2 <;> cases c3 <;> cases c4 <;> simp
theorem jDQ (n:Sp.Node):s_H n.kind n.frm n.to n.num n.text n.a n.b=Sp.nodeErr n:=by
 unfold s_H Sp.nodeErr;rw [jIU,jDR,jGV];by_cases h1:Sp.vC n=0
 ·by_cases h2:((decide ((Sp.shapeOf n.kind).kids<1) && n.a != 0) || (decide ((Sp.shapeOf n.kind).kids<2) && n.b != 0))=true
  ·rw [h2];simp [h1]
  ·have h2:((decide ((Sp.shapeOf n.kind).kids<1) && n.a != 0) || (decide ((Sp.shapeOf n.kind).kids<2) && n.b != 0))=false:=by simpa using h2
   rw [h2];simp only [h1,ne_eq,not_true_eq_false,if_false,Bool.false_eq_true,decide_true,Bool.not_false,Bool.and_true,Bool.not_true,cond_false];unfold Sp.vB Sp.jAM;have e1:(decide (n.frm≥0) && decide (n.frm<16))=(decide (0≤n.frm) && decide (n.frm<16)):=rfl;have e2:(decide (n.to≥0) && decide (n.to<16))=(decide (0≤n.to) && decide (n.to<16)):=rfl;have e3:(n.frm == n.to)=(n.to == n.frm):=by rw [Bool.eq_iff_iff];simp only [beq_iff_eq];exact eq_comm
   rw [e1,e2,e3];have e4:decide (((n.text.size:Int))>64)=decide (n.text.size>64):=decide_eq_decide.2 (by omega);rw [e4];generalize ((Sp.shapeOf n.kind).frm && !(decide (0≤n.frm) && decide (n.frm<16)) || (Sp.shapeOf n.kind).to && (!(decide (0≤n.to) && decide (n.to<16)) || n.to == n.frm))=c;cases c
   ·by_cases h:n.text.size>64 <;> simp [h]
   ·rfl
 ·simp [h1]
end Go.Proofs
end
section
open Go Go.SE
namespace Go.Proofs
open Tryz
attribute [local irreducible] Calls
theorem jJT:SlType prog 41 176 7 64:=by
 refine ⟨underlying41,⟨t176,_,by kernel_rfl,(by kernel_rfl:t176.zero=some (.agg #[.int .i64 0,.int .i64 0,.int .i64 0,.int .u64 0,.string ⟨#[]⟩,.int .i64 0,.int .i64 0])),by kernel_rfl,by kernel_rfl,rfl⟩,by omega⟩
theorem jFR:SlType prog 42 3 1 8:=by
 refine ⟨underlying42,⟨t3,_,by kernel_rfl,(by kernel_rfl:t3.zero=some (.int .i64 0)),by kernel_rfl,by kernel_rfl,rfl⟩,by omega⟩
def jPU (e:Sp.Ent):List Value:=jBR e.node
def jPT (e:Sp.Ent):List Value:=[.int .i64 e.size]
def jMG (e:Sp.Ent):List Value:=[.int .i64 e.depth]
structure PoolRS (w:World) (p:Addr) (L:Sp.Pool) (s1 s2 s3:Sl):Prop where
 box:Box w p [s1.v,s2.v,s3.v] 44
 r1:Rws w 176 7 s1 (L.map jPU)
 r2:Rws w 3 1 s2 (L.map jPT)
 r3:Rws w 3 1 s3 (L.map jMG)
 n1:¬ s1.blk p.block
 n2:¬ s2.blk p.block
 n3:¬ s3.blk p.block
 d12:∀b,s1.blk b→¬ s2.blk b
 d13:∀b,s1.blk b→¬ s3.blk b
 d23:∀b,s2.blk b→¬ s3.blk b
def yA (w:World) (p:Addr) (L:Sp.Pool) (F:NP):Prop:=∃s1 s2 s3,PoolRS w p L s1 s2 s3∧∀b,F b↔(b=p.block∨s1.blk b∨s2.blk b∨s3.blk b)
theorem yA.ext {G:NP} {w w':World} {p:Addr} {L:Sp.Pool} {F:NP} (h:yA w p L F) (hE:Ext G w w') (hd:∀b,F b→¬ G b):yA w' p L F:=by
 obtain ⟨s1,s2,s3,h,hF⟩:=h;exact ⟨s1,s2,s3,⟨h.box.ext hE (hd _ ((hF _).2 (.inl rfl))),h.r1.ext hE (fun b hb=>hd _ ((hF _).2 (.inr (.inl hb)))),h.r2.ext hE (fun b hb=>hd _ ((hF _).2 (.inr (.inr (.inl hb))))),h.r3.ext hE (fun b hb=>hd _ ((hF _).2 (.inr (.inr (.inr hb))))),h.n1,h.n2,h.n3,h.d12,h.d13,h.d23⟩,hF⟩
theorem yA.pure {w w':World} {p:Addr} {L:Sp.Pool} {F:NP} (h:yA w p L F) (hE:Pure w w'):yA w' p L F:=h.ext hE (fun _ _ h=>h)
theorem yA.lt {w:World} {p:Addr} {L:Sp.Pool} {F:NP} (h:yA w p L F) {b:Nat} (hb:F b):b<w.heap.size:=by
 obtain ⟨s1,s2,s3,h,hF⟩:=h;rcases (hF b).1 hb with rfl | hb | hb | hb
 ·exact h.box.lt
 ·exact h.r1.lt hb
 ·exact h.r2.lt hb
 ·exact h.r3.lt hb
theorem jJH (w0:World):Calls prog 63 #[] w0 (fun e w'=>∃r:Option Addr,e=.returned (.pointer r)∧∃p F,r=some p∧yA w' p [] F∧Pure w0 w'∧∀b,F b→w0.heap.size≤b):=by
 refine w_D4 w0 (fun r w'=>∃p F,r=some p∧yA w' p [] F∧Pure w0 w'∧∀b,F b→w0.heap.size≤b) ?_;unfold m_D4;have hnil:∀b,¬ Sl.nil.blk b:=fun b hb=>by obtain ⟨a,h,_⟩:=hb;cases h
 intro p w1 h1;have b1:=Box.of_new h1;have E1:Pure w0 w1:=Ext.new h1
 first
  | exact ⟨p,(·=p.block),rfl,⟨Sl.nil,Sl.nil,Sl.nil,⟨b1,Rws.nil _ _ _,Rws.nil _ _ _,Rws.nil _ _ _,hnil _,hnil _,hnil _,fun b h=>(hnil b h).elim,fun b h=>(hnil b h).elim,fun b h=>(hnil b h).elim⟩,fun b=>by simp [hnil]⟩,E1,fun b hb=>by subst hb;exact New.own (Ext.refl w0) h1⟩
  | skip
theorem yT (p:Addr) (t:Int) (w0:World) {L:Sp.Pool} {F:NP} (hP:yA w0 p L F):Calls prog 87 #[.pointer (some p),.int .i64 t] w0 (fun e w'=>∃r:Bool,e=.returned (.bool r)∧(r=Sp.inP L t∧w'=w0)):=by
 refine w_B4 _ _ w0 (fun r w'=>r=Sp.inP L t∧w'=w0) ?_;unfold m_B4;obtain ⟨s1,s2,s3,h,hF⟩:=hP;have hl:s1.len=L.length:=by rw [h.r1.len];simp
 refine ⟨fun hc=>⟨p,rfl,s1,h.box.cell0,?_,rfl⟩,fun hc=>⟨?_,rfl⟩⟩
 ·have:=of_decide_eq_true hc;rw [hl];simp [Sp.inP,this]
 ·have:=of_decide_eq_false hc;simp [Sp.inP];omega
theorem PoolRS.at1 {w:World} {p:Addr} {L:Sp.Pool} {s1 s2 s3:Sl} (h:PoolRS w p L s1 s2 s3) {t:Int} (ht:Sp.inP L t=true) (hok:Sp.Ok L):∃e,Sp.get L t=some e ∧
  (∃a,At s1 (IntKind.i64.wrap (t - 1)) 7 a∧Row w a (jPU e))∧(∃a,At s2 (IntKind.i64.wrap (t - 1)) 1 a∧Row w a (jPT e))∧(∃a,At s3 (IntKind.i64.wrap (t - 1)) 1 a∧Row w a (jMG e)):=by
 obtain ⟨e,he,_,hi,hLe⟩:=Sp.jCW ht
 have hin:=Sp.qC.1 ht
 have hf:=hok.few
 have hw:IntKind.i64.wrap (t - 1)=((t - 1).toNat:Int):=by rw [i64 (by omega) (by omega)];omega
 obtain ⟨a1,h1,g1⟩:=h.r1.nth (j:=(t - 1).toNat) hi
 obtain ⟨a2,h2,g2⟩:=h.r2.nth (j:=(t - 1).toNat) hi
 obtain ⟨a3,h3,g3⟩:=h.r3.nth (j:=(t - 1).toNat) hi
 rw [hLe] at g1 g2 g3
 rw [hw]
 exact ⟨e,he,⟨a1,h1,g1⟩,⟨a2,h2,g2⟩,⟨a3,h3,g3⟩⟩
theorem jAA (p:Addr) (t:Int) (w0:World) {L:Sp.Pool} {F:NP} (hP:yA w0 p L F) (hok:Sp.Ok L):Calls prog 97 #[.pointer (some p),.int .i64 t] w0 (fun e w'=>∃r:Int,e=.returned (.int .i64 r)∧(r=Sp.sizeOf L t∧w'=w0)):=by
 refine w_F4 _ _ w0 (fun r w'=>r=Sp.sizeOf L t∧w'=w0) ?_;unfold m_F4;refine (yT p t w0 hP).mono ?_;rintro _ _ ⟨_,rfl,rfl,rfl⟩;refine ⟨_,rfl,fun h=>⟨?_,rfl⟩,fun h=>?_⟩
 ·have h:Sp.inP L t=false:=by simpa using h
  simp [Sp.sizeOf,Sp.uS h]
 ·have h:Sp.inP L t=true:=by simpa using h
  obtain ⟨s1,s2,s3,hS,hF⟩:=hP;obtain ⟨e,he,_,⟨a,hat,hr⟩,_⟩:=hS.at1 h hok;exact ⟨p,rfl,s2,hS.box.cell rfl,a,hat,_,jCT hr,by simp [Sp.sizeOf,he],rfl⟩
theorem jBN (p:Addr) (t:Int) (w0:World) {L:Sp.Pool} {F:NP} (hP:yA w0 p L F) (hok:Sp.Ok L):Calls prog 177 #[.pointer (some p),.int .i64 t] w0 (fun e w'=>∃r:Int,e=.returned (.int .i64 r)∧(r=Sp.depthOf L t∧w'=w0)):=by
 refine w_G4 _ _ w0 (fun r w'=>r=Sp.depthOf L t∧w'=w0) ?_;unfold m_G4;refine (yT p t w0 hP).mono ?_;rintro _ _ ⟨_,rfl,rfl,rfl⟩;refine ⟨_,rfl,fun h=>⟨?_,rfl⟩,fun h=>?_⟩
 ·have h:Sp.inP L t=false:=by simpa using h
  simp [Sp.depthOf,Sp.uS h]
 ·have h:Sp.inP L t=true:=by simpa using h
  obtain ⟨s1,s2,s3,hS,hF⟩:=hP;obtain ⟨e,he,_,_,⟨a,hat,hr⟩⟩:=hS.at1 h hok;exact ⟨p,rfl,s3,hS.box.cell rfl,a,hat,_,jCT hr,by simp [Sp.depthOf,he],rfl⟩
theorem jHW (p:Addr) (t:Int) (w0:World) {L:Sp.Pool} {F:NP} (hP:yA w0 p L F) (hok:Sp.Ok L):Calls prog 104 #[.pointer (some p),.int .i64 t] w0
  (fun e w'=>∃k f t' u:Int,∃x:ByteArray,∃a b:Int,∃r:Bool,e=.returned (.tuple #[.agg #[.int .i64 k,.int .i64 f,.int .i64 t',.int .u64 u,.string x,.int .i64 a,.int .i64 b],.bool r])∧(((⟨k,f,t',u,x,a,b⟩:Sp.Node)=Sp.zD L t∧r=Sp.inP L t)∧Pure w0 w')):=by
 refine w_C4 _ _ w0 (fun k f t' u x a b r w'=>((⟨k,f,t',u,x,a,b⟩:Sp.Node)=Sp.zD L t∧r=Sp.inP L t)∧Pure w0 w') ?_
 unfold m_C4
 intro H1 w1 hs1
 have hP1:=hP.pure hs1.first
 refine (yT p t w1 hP1).mono ?_
 rintro _ _ ⟨_,rfl,rfl,rfl⟩
 refine ⟨_,rfl,Kept.refl _,fun h=>?_,fun h=>?_⟩
 ·intro w3 hs3
  have h:Sp.inP L t=false:=by simpa using h
  exact ⟨⟨by simp [Sp.zD,Sp.uS h,Sp.jCG],h.symm⟩,hs1.first.hst hs3⟩
 ·have h:Sp.inP L t=true:=by simpa using h
  obtain ⟨s1,s2,s3,hS,hF⟩:=hP1
  obtain ⟨e,he,⟨a,hat,hr⟩,_,_⟩:=hS.at1 h hok
  refine ⟨p,rfl,s1,hS.box.cell0,a,hat,_,_,_,_,_,_,_,hr,?_⟩
  intro w4 hs4
  exact ⟨⟨by simp [Sp.zD,he],h.symm⟩,hs1.first.hst hs4⟩
theorem jOG (m n:Sp.Node):((m.kind == n.kind) && ((m.frm == n.frm) && ((m.to == n.to) && ((m.num == n.num) && ((decide (m.text=n.text)) && ((m.a == n.a) && (m.b == n.b)))))))=decide (m=n):=by
 obtain ⟨k,f,t,u,x,a,b⟩:=m;obtain ⟨k',f',t',u',x',a',b'⟩:=n;rw [Bool.eq_iff_iff];simp
theorem jJI (p:Addr) (n:Sp.Node) (w0:World) {L:Sp.Pool} {F:NP} (hP:yA w0 p L F) (hok:Sp.Ok L):Calls prog 178 #[.pointer (some p),jEB n] w0
  (fun e w'=>∃r:Int,∃ok:Bool,e=.returned (.tuple #[.int .i64 r,.bool ok])∧((match Sp.find L n with | some i=>r=(i:Int)+1∧ok=true | none=>r=0∧ok=false)∧Pure w0 w')):=by
 obtain ⟨k,f,t,u,x,a,b⟩:=n
 generalize hn:(⟨k,f,t,u,x,a,b⟩:Sp.Node)=n
 have hnk:jEB n=.agg #[.int .i64 k,.int .i64 f,.int .i64 t,.int .u64 u,.string x,.int .i64 a,.int .i64 b]:=by rw [← hn];rfl
 rw [hnk]
 suffices key:∀K:Int→Bool→WP,(∀r ok w',((match Sp.find L n with | some i=>r=(i:Int)+1∧ok=true | none=>r=0∧ok=false)∧Pure w0 w')→K r ok w')→m_N1 (some p) k f t u x a b w0 K from
  w_N1 _ _ _ _ _ _ _ _ w0 _ (key _ (fun _ _ _ h=>h))
 intro K hK
 unfold m_N1
 intro H1 w1 hs1
 refine ⟨fun i H w'=>∃j:Nat,i=j∧j≤L.length∧Pure w0 w'∧∀q,q<j→∀e,L[q]?=some e→e.node≠n,fun i _=>((L.length:Int) - i).toNat,⟨0,rfl,Nat.zero_le _,hs1.first,fun q hq=>absurd hq (by omega)⟩,?_⟩
 rintro _ Hl wl hl ⟨j,rfl,hj,El,hno⟩
 unfold m_N1_l1
 obtain ⟨s1,s2,s3,hS,hF⟩:=hP.pure El
 have hf:=hok.few
 have hlen:s1.len=L.length:=by rw [hS.r1.len];simp
 refine ⟨p,rfl,s1,hS.box.cell0,fun h=>?_,fun h=>?_⟩
 ·have hlt:=qI hlen h
  refine ⟨p,rfl,?_⟩
  intro w2 hs2
  have E2:=El.hst hs2
  obtain ⟨s1',s2',s3',hS',_⟩:=hP.pure E2
  obtain ⟨a',hat,hr⟩:=hS'.r1.nth hlt
  refine ⟨s1',hS'.box.cell0,a',hat,_,_,_,_,_,_,_,hr,?_⟩
  have hB:=jOG L[j].node n
  rw [← hn] at hB
  simp only at hB
  rw [hB,hn]
  refine ⟨fun h=>?_,fun h=>?_⟩
  ·have h:=of_decide_eq_true h
   rw [vM hlt (by omega)]
   refine hK _ _ _ ⟨?_,E2⟩
   have hfd:Sp.find L n=some j:=by
    unfold Sp.find;rw [List.findIdx?_eq_some_iff_getElem];exact ⟨hlt,by simp [h],fun q hq=>by simpa using hno q hq _ (List.getElem?_eq_getElem (by omega))⟩
   rw [hfd];exact ⟨by omega,rfl⟩
  ·have h:=of_decide_eq_false h
   rw [vM hlt (by omega)]
   refine ⟨⟨j+1,rfl,hlt,E2,fun q hq e he=>?_⟩,uA hlt⟩
   by_cases hqj:q=j
   ·subst hqj;rw [List.getElem?_eq_getElem hlt] at he;cases he;exact h
   ·exact hno q (by omega) e he
 ·have hge:=qK hlen hj h
  subst hge
  refine hK _ _ _ ⟨?_,El⟩
  have hfd:Sp.find L n=none:=jHN (fun e he=>by
   obtain ⟨q,hq,rfl⟩:=List.mem_iff_getElem.1 he;exact hno q hq _ (List.getElem?_eq_getElem hq))
  rw [hfd];exact ⟨rfl,rfl⟩
theorem jEI {P:Program} {t ty e:TypeId} {sz bytes:Nat} (T:SlType P t e sz bytes) {w:World} {p:Addr} {c:List Value} {Tp:TypeId} (hB:Box w p c Tp) {s:Sl} {rs:List (List Value)} (hR:Rws w e sz s rs) (hp:¬ s.blk p.block) {a:Addr} {r:List Value} (hr:Row w a r) (hl:r.length=sz) (h1:r.all qE=true) (hb:(rs.length+1)*bytes≤140737488355328) (hm:rs.length+1≤maxLen) :
  ∃s' w',(Builtin.append_ #[t,t] ty #[s.v,(Sl.mk (some a) 1 1).v]).run P w=.ok s'.v w'∧Rws w' e sz s' (rs++[r])∧Box w' p c Tp∧¬ s'.blk p.block∧Ext s.blk w w'∧(∀b,s'.blk b→s.blk b∨w.heap.size≤b):=by
 obtain ⟨s',w',hr',hR',hE,hb'⟩:=hR.append T (ty:=ty) (c:=1) hr hl h1 hb hm
 exact ⟨s',w',hr',hR',hB.ext hE hp,fun h=>(hb' _ h).elim hp (fun h=>by have:=hB.lt;omega),hE,hb'⟩
theorem jCF (n:Sp.Node):Sp.vC n=53∨Sp.vC n=0:=by
 unfold Sp.vC;simp only;split
 ·exact .inl rfl
 ·exact .inr rfl
theorem jHX (p:Addr) (n:Sp.Node) (w0:World) {L:Sp.Pool} {F:NP} (hP:yA w0 p L F) (hok:Sp.Ok L):Calls prog 113 #[.pointer (some p),jEB n] w0
  (fun e w'=>∃r1 r2:Int,e=.returned (.tuple #[.int .i64 r1,.int .i64 r2])∧((r1,r2)=((Sp.make L n).1,(Sp.make L n).2.1)∧∃F',yA w' p (Sp.make L n).2.2 F'∧Ext F w0 w'∧∀b,F' b→F b∨w0.heap.size≤b)):=by
 obtain ⟨k,f,t,u,x,a,b⟩:=n
 generalize hn:(⟨k,f,t,u,x,a,b⟩:Sp.Node)=n
 have hnk:jEB n=.agg #[.int .i64 k,.int .i64 f,.int .i64 t,.int .u64 u,.string x,.int .i64 a,.int .i64 b]:=by rw [← hn];rfl
 rw [hnk]
 suffices key:∀K:Int→Int→WP,(∀r1 r2 w',((r1,r2)=((Sp.make L n).1,(Sp.make L n).2.1)∧∃F',yA w' p (Sp.make L n).2.2 F'∧Ext F w0 w'∧∀b,F' b→F b∨w0.heap.size≤b)→K r1 r2 w')→m_O (some p) k f t u x a b w0 K from
  w_O _ _ _ _ _ _ _ _ w0 _ (key _ (fun _ _ _ h=>h))
 intro K hK
 have hsh:=jDQ n
 have hkd:=tC k
 rw [← hn] at hsh
 simp only at hsh
 rw [hn] at hsh
 have hna:n.a=a:=by rw [← hn]
 have hnb:n.b=b:=by rw [← hn]
 have hnkk:n.kind=k:=by rw [← hn]
 have hk:=Sp.tM k
 have jDM:∀(r1 r2:Int) (w':World),Pure w0 w'→Sp.make L n=(r1,r2,L)→K r1 r2 w':=fun r1 r2 w' E h=>hK _ _ _ ⟨by rw [h],F,by rw [h];exact hP.pure E,E.pure,fun b h=>.inl h⟩
 have bad:∀(er:Int) (w':World),er≠0→Pure w0 w'→Sp.check L n=(0,0,er)→K 0 er w':=fun er w' h0 E h=>jDM 0 er w' E (by unfold Sp.make;simp [h,h0])
 unfold m_O
 rw [hsh,hkd]
 have good:Sp.nodeErr n=0→Sp.check L n=(if (Sp.zS n).any (fun t=>!Sp.inP L t) then (0,0,51) else if 1+((Sp.zS n).map (Sp.sizeOf L)).sum>4096∨(Sp.zS n).foldl (fun d t=>max d (Sp.depthOf L t)) 0+1>64 then (0,0,52) else (1+((Sp.zS n).map (Sp.sizeOf L)).sum,(Sp.zS n).foldl (fun d t=>max d (Sp.depthOf L t)) 0+1,0)):=by
  intro h;unfold Sp.nodeErr at h;unfold Sp.check;split at h
  ·cases h
  ·rename_i h1;simp only;rw [if_neg h1];split at h
   ·cases h
   ·rename_i h2;rw [if_neg h2,if_neg (by simpa using h)]
 refine ⟨fun h=>?_,fun h=>?_⟩
 ·intro H1 w2 hs2
  have h:Sp.nodeErr n≠0:=by simpa using h
  refine bad _ _ h hs2.first ?_
  unfold Sp.nodeErr at h ⊢
  unfold Sp.check
  by_cases h1:Sp.vC n≠0
  ·rw [if_pos h1,if_pos h1]
   have:Sp.vC n=53:=(jCF n).resolve_right h1
   rw [this]
  ·rw [if_neg h1] at h ⊢
   simp only
   rw [if_neg h1]
   by_cases h2:((decide ((Sp.shapeOf n.kind).kids<1) && n.a != 0) || (decide ((Sp.shapeOf n.kind).kids<2) && n.b != 0))=true
   ·rw [if_pos h2,if_pos h2]
   ·rw [if_neg h2] at h ⊢;rw [if_neg h2,if_pos h]
 have h0:Sp.nodeErr n=0:=by simpa using h
 have hchk:=good h0
 have hzero:((Sp.shapeOf k).kids<1→a=0)∧((Sp.shapeOf k).kids<2→b=0):=by
  unfold Sp.nodeErr at h0;split at h0
  ·cases h0
  ·split at h0
   ·cases h0
   ·rename_i _ h2;rw [hnkk,hna,hnb] at h2;simp at h2;exact h2
 have hz0:Sp.inP L 0=false:=by simp [Sp.inP]
 have hs0:Sp.sizeOf L 0=0:=by simp [Sp.sizeOf,Sp.get,hz0]
 have hd0:Sp.depthOf L 0=0:=by simp [Sp.depthOf,Sp.get,hz0]
 have hsa:=hok.sizeOf a
 have hsb:=hok.sizeOf b
 have hda:=hok.depthOf a
 have hdb:=hok.depthOf b
 have hany:(Sp.zS n).any (fun t=>!Sp.inP L t)=((decide (1≤(Sp.shapeOf k).kids) && !Sp.inP L a) || (decide ((Sp.shapeOf k).kids=2) && !Sp.inP L b)):=by
  unfold Sp.zS;rw [hnkk,hna,hnb];rcases hk with h | h | h <;> rw [h] <;> simp
 have hsum:((Sp.zS n).map (Sp.sizeOf L)).sum=Sp.sizeOf L a+Sp.sizeOf L b:=by
  unfold Sp.zS;rw [hnkk,hna,hnb];rcases hk with h | h | h <;> rw [h] <;> simp
  ·rw [hzero.1 (by omega),hzero.2 (by omega),hs0];rfl
  ·rw [hzero.2 (by omega),hs0];omega
 have hmax:(Sp.zS n).foldl (fun d t=>max d (Sp.depthOf L t)) 0=max (Sp.depthOf L a) (Sp.depthOf L b):=by
  unfold Sp.zS;rw [hnkk,hna,hnb];rcases hk with h | h | h <;> rw [h] <;> simp
  ·rw [hzero.1 (by omega),hzero.2 (by omega),hd0];omega
  ·rw [hzero.2 (by omega),hd0];omega
  ·omega
 rw [hany,hsum,hmax] at hchk
 have J1:∀(x1:Bool) (H:NP) (w:World),Hst w0 H w H w→Pure w0 w→x1=((decide (1≤(Sp.shapeOf k).kids) && !Sp.inP L a) || (decide ((Sp.shapeOf k).kids=2) && !Sp.inP L b))→m_O_j1 (some p) k f t u x a b x1 w0 H w K:=by
  intro x1 H w hs E hx;rw [← hx] at hchk;unfold m_O_j1;refine ⟨fun h=>bad 51 w (by omega) E (by rw [hchk,h];rfl),fun h=>?_⟩;rw [h,if_neg (by simp)] at hchk;refine ⟨fun _=>True,trivial,?_⟩;rintro _ rfl;have Ed:Pure w0 w.drew:=E.trans (Ext.drew w);refine (jAA p a w.drew (hP.pure Ed) hok).mono ?_;rintro _ _ ⟨_,rfl,rfl,rfl⟩;refine ⟨_,rfl,trivial,Kept.refl _,?_⟩;refine (jAA p b w.drew (hP.pure Ed) hok).mono ?_;rintro _ _ ⟨_,rfl,rfl,rfl⟩;refine ⟨_,rfl,trivial,Kept.refl _,fun _=>True,trivial,?_⟩;rintro _ rfl;have Ed2:Pure w0 w.drew.drew:=Ed.trans (Ext.drew w.drew);refine (jBN p a w.drew.drew (hP.pure Ed2) hok).mono ?_;rintro _ _ ⟨_,rfl,rfl,rfl⟩;refine ⟨_,rfl,trivial,Kept.refl _,?_⟩;refine (jBN p b w.drew.drew (hP.pure Ed2) hok).mono ?_;rintro _ _ ⟨_,rfl,rfl,rfl⟩;refine ⟨_,rfl,trivial,Kept.refl _,_,fun w' _=>run_max_int2 _ _ _ _ _ _ _,?_⟩;have hmx:(if Sp.depthOf L b>Sp.depthOf L a then Sp.depthOf L b else Sp.depthOf L a)=max (Sp.depthOf L a) (Sp.depthOf L b):=by
   split <;> omega
  generalize hz:(if Sp.depthOf L b>Sp.depthOf L a then Sp.depthOf L b else Sp.depthOf L a)=z at *;have hz64:0≤z∧z≤64:=by rw [hmx];omega
  have e1:IntKind.i64.wrap (IntKind.i64.wrap (1+Sp.sizeOf L a)+Sp.sizeOf L b)=1+(Sp.sizeOf L a+Sp.sizeOf L b):=by
   rw [i64 (n:=1+Sp.sizeOf L a) (by omega) (by omega),i64 (by omega) (by omega)];omega
  have e2:IntKind.i64.wrap (1+z)=z+1:=by rw [i64 (by omega) (by omega)];omega
  rw [e1,e2];rw [← hmx] at hchk;rintro y1 rfl;have hsx:Hst w0 H w.drew.drew H w.drew.drew:=(hs.drew.here.drew).here;refine ⟨fun h=>?_,fun h=>?_⟩
  ·intro H2 w10 hs10;refine bad 52 w10 (by omega) (Ed2.hst hs10) ?_;rw [hchk,if_pos (by simpa using h)]
  ·intro H2 w10 hs10;have hck:Sp.check L n=(1+(Sp.sizeOf L a+Sp.sizeOf L b),z+1,0):=by rw [hchk,if_neg (by simp at h;omega)]
   have E10:=Ed2.hst hs10;rw [← hnk];refine (jJI p n w10 (hP.pure E10) hok).mono ?_;rintro _ w11 ⟨r,ok,rfl,hfd,E11⟩;refine ⟨_,_,rfl,E11.keptP,?_⟩;have E11':=E10.trans E11;have hs11:Hst w0 H2 w11 H2 w11:=hs10.again E11.keptP;cases hf:Sp.find L n with
   | some i =>
    rw [hf] at hfd
    obtain ⟨rfl,rfl⟩:=hfd
    exact Br.t rfl (jDM _ _ _ E11' (by unfold Sp.make;simp [hck,hf]))
   | none =>
    rw [hf] at hfd
    obtain ⟨rfl,rfl⟩:=hfd
    refine Br.f rfl ?_
    obtain ⟨s1,s2,s3,hS,hF⟩:=hP.pure E11'
    have hlen:s1.len=L.length:=by rw [hS.r1.len];simp
    refine ⟨p,rfl,s1,hS.box.cell0,fun h=>?_,fun h=>?_⟩
    ·have h2:65536≤L.length:=by have h:=of_decide_eq_true h;omega
     exact jDM _ _ _ E11' (by unfold Sp.make;simp [hck,hf,h2])
    ·have h2:¬ 65536≤L.length:=by have h:=of_decide_eq_false h;omega
     have hmk:Sp.make L n=((L.length:Int)+1,0,L++[⟨n,1+(Sp.sizeOf L a+Sp.sizeOf L b),z+1⟩]):=by unfold Sp.make;simp [hck,hf,h2]
     have hvis:∀b,F b→¬ H2 b:=fun b hb h2=>by have:=hP.lt hb;have:=hs11.old b h2;omega
     have hpF:F p.block:=(hF _).2 (.inl rfl)
     refine ⟨fun w'=>w'.cell? p=some s1.v,hS.box.cell0,?_⟩
     rintro _ rfl
     have E12:Pure w11 w11.drew:=Ext.drew w11
     refine ⟨p,rfl,s1,fun w' h'=>h',?_⟩
     intro p3 w13 h13
     have E13:Pure w11 w13:=E12.trans (Ext.new h13)
     have B13:=hS.box.pure E13
     refine ⟨B13.cell0,?_⟩
     obtain ⟨t1,w14,hr14,R14,B14,np1,X14,nb1⟩:=jEI (P:=prog) (ty:=41) jJT B13 (hS.r1.pure E13) hS.n1 (a:=p3) (r:=jBR n) (by rw [← hn];exact (Box.of_new h13).row) rfl rfl (by simp;omega) (by simp [maxLen];omega)
     refine ⟨t1,w14,hr14,B14.cell0,X14.kept (fun b hb h=>hvis b ((hF b).2 (.inr (.inl h))) hb),p,rfl,B14.canW0 (by simp),hvis _ hpF,?_⟩
     rintro w15 hw15
     have B15:Box w15 p [t1.v,s2.v,s3.v] 44:=by rw [hw15];exact B14.set0
     have X15:Ext (·=p.block) w14 w15:=by rw [hw15];exact Ext.setCell p _
     clear hw15
     have R15:=R14.ext X15 (fun b hb e=>np1 (e▸hb))
     have R2:=((hS.r2.pure E13).ext X14 (fun b h2 h1=>hS.d12 b h1 h2)).ext X15 (fun b hb e=>hS.n2 (e▸hb))
     have R3:=((hS.r3.pure E13).ext X14 (fun b h2 h1=>hS.d13 b h1 h2)).ext X15 (fun b hb e=>hS.n3 (e▸hb))
     have d12':∀b,t1.blk b→¬ s2.blk b:=fun b hb h2=>(nb1 b hb).elim (fun h=>hS.d12 b h h2) (fun h=>by have:=hS.r2.lt h2;have:=E13.size;omega)
     have d13':∀b,t1.blk b→¬ s3.blk b:=fun b hb h2=>(nb1 b hb).elim (fun h=>hS.d13 b h h2) (fun h=>by have:=hS.r3.lt h2;have:=E13.size;omega)
     refine ⟨p,rfl,s2,B15.cell rfl,?_⟩
     intro p4 w16 h16
     have E16:Pure w15 w16:=Ext.new h16
     have B16:=B15.pure E16
     obtain ⟨t2,w17,hr17,R17,B17,np2,X17,nb2⟩:=jEI (P:=prog) (ty:=42) jFR B16 (R2.pure E16) hS.n2 (a:=p4) (r:=[.int .i64 (1+(Sp.sizeOf L a+Sp.sizeOf L b))]) (Box.of_new h16).row rfl rfl (by simp;omega) (by simp [maxLen];omega)
     refine ⟨t2,w17,hr17,X17.kept (fun b hb h=>hvis b ((hF b).2 (.inr (.inr (.inl h)))) hb),p,rfl,B17.canW (by simp),by rw [zW];exact hvis _ hpF,?_⟩
     rintro w18 hw18
     have B18:Box w18 p [t1.v,t2.v,s3.v] 44:=by rw [hw18];exact B17.set 1 _
     have X18:Ext (·=p.block) w17 w18:=by rw [hw18];have:=Ext.setCell (w:=w17) (p.add 1) t2.v;rw [zW] at this;exact this
     clear hw18
     have Q1:=((R15.pure E16).ext X17 (fun b h1 h2=>d12' b h1 h2)).ext X18 (fun b hb e=>np1 (e▸hb))
     have Q2:=R17.ext X18 (fun b hb e=>np2 (e▸hb))
     have Q3:=((R3.pure E16).ext X17 (fun b h3 h2=>hS.d23 b h2 h3)).ext X18 (fun b hb e=>hS.n3 (e▸hb))
     have d12'':∀b,t1.blk b→¬ t2.blk b:=fun b hb h2=>(nb2 b h2).elim (fun h=>d12' b hb h) (fun h=>by have:=(R15.pure E16).lt hb;omega)
     have d23':∀b,t2.blk b→¬ s3.blk b:=fun b hb h2=>(nb2 b hb).elim (fun h=>hS.d23 b h h2) (fun h=>by have:=(R3.pure E16).lt h2;omega)
     refine ⟨p,rfl,s3,B18.cell rfl,?_⟩
     intro p5 w19 h19
     have E19:Pure w18 w19:=Ext.new h19
     have B19:=B18.pure E19
     obtain ⟨t3,w20,hr20,R20,B20,np3,X20,nb3⟩:=jEI (P:=prog) (ty:=42) jFR B19 (Q3.pure E19) hS.n3 (a:=p5) (r:=[.int .i64 (z+1)]) (Box.of_new h19).row rfl rfl (by simp;omega) (by simp [maxLen];omega)
     refine ⟨t3,w20,hr20,X20.kept (fun b hb h=>hvis b ((hF b).2 (.inr (.inr (.inr h)))) hb),p,rfl,B20.canW (by simp),by rw [zW];exact hvis _ hpF,?_⟩
     rintro w21 hw21
     have B21:Box w21 p [t1.v,t2.v,t3.v] 44:=by rw [hw21];exact B20.set 2 _
     have X21:Ext (·=p.block) w20 w21:=by rw [hw21];have:=Ext.setCell (w:=w20) (p.add 2) t3.v;rw [zW] at this;exact this
     clear hw21
     have d13'':∀b,t1.blk b→¬ t3.blk b:=fun b hb h2=>(nb3 b h2).elim (fun h=>d13' b hb h) (fun h=>by have:=(Q1.pure E19).lt hb;omega)
     have d23'':∀b,t2.blk b→¬ t3.blk b:=fun b hb h2=>(nb3 b h2).elim (fun h=>d23' b hb h) (fun h=>by have:=(Q2.pure E19).lt hb;omega)
     have Z1:=((Q1.pure E19).ext X20 (fun b h1 h2=>d13' b h1 h2)).ext X21 (fun b hb e=>np1 (e▸hb))
     have Z2:=((Q2.pure E19).ext X20 (fun b h1 h2=>d23' b h1 h2)).ext X21 (fun b hb e=>np2 (e▸hb))
     have Z3:=R20.ext X21 (fun b hb e=>np3 (e▸hb))
     have hl1:(t1.len:Int)=L.length+1:=by rw [R14.len];simp
     refine ⟨p,rfl,t1,B21.cell0,?_⟩
     rw [hl1]
     refine hK _ _ _ ⟨by rw [hmk],fun b=>b=p.block∨t1.blk b∨t2.blk b∨t3.blk b,?_,?_,?_⟩
     ·rw [hmk]
      exact ⟨t1,t2,t3,⟨B21,by simpa [jPU] using Z1,by simpa [jPT] using Z2,by simpa [jMG] using Z3,np1,np2,np3,d12'',d13'',d23''⟩,fun _=>Iff.rfl⟩
     ·have a1:Ext F w0 w14:=(E11'.trans E13).pure.trans' X14 (fun i _ h=>(hF i).2 (.inr (.inl h)))
      have a2:Ext F w0 w15:=a1.trans' X15 (fun i _ h=>(hF i).2 (.inl h))
      have a3:Ext F w0 w17:=(a2.thenPure E16).trans' X17 (fun i _ h=>(hF i).2 (.inr (.inr (.inl h))))
      have a4:Ext F w0 w18:=a3.trans' X18 (fun i _ h=>(hF i).2 (.inl h))
      have a5:Ext F w0 w20:=(a4.thenPure E19).trans' X20 (fun i _ h=>(hF i).2 (.inr (.inr (.inr h))))
      exact a5.trans' X21 (fun i _ h=>(hF i).2 (.inl h))
     ·have z13:w0.heap.size≤w13.heap.size:=(E11'.trans E13).size
      have z16:w0.heap.size≤w16.heap.size:=by have:=X14.size;have:=X15.size;have:=E16.size;omega
      have z19:w0.heap.size≤w19.heap.size:=by have:=X17.size;have:=X18.size;have:=E19.size;omega
      rintro b (rfl | hb | hb | hb)
      ·exact .inl hpF
      ·exact (nb1 b hb).imp (fun h=>(hF b).2 (.inr (.inl h))) (fun h=>by omega)
      ·exact (nb2 b hb).imp (fun h=>(hF b).2 (.inr (.inr (.inl h)))) (fun h=>by omega)
      ·exact (nb3 b hb).imp (fun h=>(hF b).2 (.inr (.inr (.inr h)))) (fun h=>by omega)
 have J2:∀(x2:Bool) (H:NP) (w:World),Hst w0 H w H w→Pure w0 w→x2=(decide (1≤(Sp.shapeOf k).kids) && !Sp.inP L a)→m_O_j2 (some p) k f t u x a b x2 w0 H w K:=by
  intro x2 H w hs E hx;unfold m_O_j2;rw [hkd];refine ⟨fun h=>J1 true H w hs E (by rw [← hx,h];rfl),fun h=>⟨fun h2=>?_,fun h2=>J1 false H w hs E ?_⟩⟩
  ·refine (yT p b w (hP.pure E)).mono ?_;rintro _ _ ⟨_,rfl,rfl,rfl⟩;refine ⟨_,rfl,Kept.refl _,J1 _ H _ hs E ?_⟩;have h2:(Sp.shapeOf k).kids=2:=by simpa using h2
   rw [← hx,h];simp [h2]
  ·have h2:(Sp.shapeOf k).kids≠2:=by simpa using h2
   rw [← hx,h];simp [h2]
 refine ⟨fun h=>?_,fun h=>?_⟩
 ·intro H1 w3 hs3
  refine (yT p a w3 (hP.pure hs3.first)).mono ?_
  rintro _ _ ⟨_,rfl,rfl,rfl⟩
  refine ⟨_,rfl,Kept.refl _,J2 _ H1 _ hs3.here hs3.first ?_⟩
  have:1≤(Sp.shapeOf k).kids:=by have:=of_decide_eq_true h;omega
  simp [this]
 ·intro H1 w3 hs3
  refine J2 _ H1 _ hs3.here hs3.first ?_
  have:¬ 1≤(Sp.shapeOf k).kids:=by have:=of_decide_eq_false h;omega
  simp [this]
theorem jHO (s:Sp.Shape) (n:Sp.Node):Sp.vB s n≠53:=by
 unfold Sp.vB;split
 ·omega
 ·split <;> omega
theorem jMJ (k f t u:Int) (x:ByteArray) (len:Nat):Sp.yX ⟨k,f,t,u,x,0,0⟩ len=(if (Sp.nodeErr ⟨k,f,t,u,x,0,0⟩≠53∧(len:Int)≠(Sp.shapeOf k).kids) then 53 else Sp.nodeErr ⟨k,f,t,u,x,0,0⟩):=by
 unfold Sp.yX Sp.nodeErr;simp only;rcases jCF ⟨k,f,t,u,x,0,0⟩ with h | h
 ·rw [h];simp
 ·rw [h];have:=jHO (Sp.shapeOf k) ⟨k,f,t,u,x,0,0⟩;by_cases h2:(len:Int)=(Sp.shapeOf k).kids <;> simp [h2,this]
theorem jEM {S:NP} (q:Addr) (hq:¬ S q.block) (T:TypeId) (t:Sp.Tree):∀(s:Sl) (inside seen:Int) (w0:World),0≤inside→0≤seen→TreeAt S w0 s t→(∀b,S b→b<w0.heap.size)→Box w0 q [.int .i64 seen] T →
  Calls prog 203 #[.agg (qU t s).toArray,.int .i64 inside,.pointer (some q)] w0
   (fun e w'=>∃r:Int,e=.returned (.int .i64 r)∧(r=(Sp.qJ inside seen t).1∧Box w' q [.int .i64 (Sp.qJ inside seen t).2] T∧Ext (·=q.block) w0 w')):=by
 induction t using Sp.Tree.ind with
 | h k f t u x ks ih =>
 intro s inside seen w0 hi0 hn0 hT hSw hB
 suffices key:∀K:Int→WP,(∀r w',(r=(Sp.qJ inside seen (.mk k f t u x ks)).1∧Box w' q [.int .i64 (Sp.qJ inside seen (.mk k f t u x ks)).2] T∧Ext (·=q.block) w0 w')→K r w')→m_T k f t u x s inside (some q) w0 K from
  w_T _ _ _ _ _ _ _ _ w0 _ (key _ (fun _ _ h=>h))
 intro K hK
 have hql:=hB.lt
 unfold m_T
 refine ⟨q,rfl,?_⟩
 intro H1 w1 hs1
 have hB1:=hB.pure hs1.first
 refine ⟨seen,hB1.cell0,?_⟩
 intro H5 w13 hs5
 have E13:=hs1.first.hst hs5
 have hB13:=hB.pure E13
 have hq0:∀{H w' H' w''},Hst w0 H w' H' w''→¬ H' q.block:=fun h hh=>by have:=h.old _ hh;omega
 unfold m_T_j1
 refine ⟨fun h=>?_,fun h=>?_⟩
 ·have : Sp.qJ inside seen (.mk k f t u x ks) = (52, seen) := by
   rw [Sp.qJ];simp only [Bool.or_eq_true,decide_eq_true_eq] at h;by_cases h1:4096≤seen
   ·rw [if_pos h1]
   ·rw [if_neg h1,if_pos (by omega)]
  rw [this] at hK;exact hK _ _ ⟨rfl,hB13,E13.pure⟩
 ·have h1 : ¬ 4096 ≤ seen ∧ ¬ 64 ≤ inside := by
   simp only [Bool.or_eq_false_iff,decide_eq_false_iff_not] at h;omega
  have hsp:Sp.qJ inside seen (.mk k f t u x ks)=Sp.vJ (inside+1) (Sp.yX ⟨k,f,t,u,x,0,0⟩ ks.length) (seen+1) ks:=by rw [Sp.qJ,if_neg h1.1,if_neg h1.2]
  rw [hsp] at hK
  have hlen:s.len=ks.length:=by cases hT;assumption
  have hfit:ks.length≤9223372036854775807:=by cases hT;assumption
  refine ⟨q,rfl,seen,hB13.cell0,q,rfl,hB13.canW0 (by simp),hq0 hs5,?_⟩
  rw [i64 (n:=seen+1) (by omega) (by omega)]
  rintro w2 hw2
  have hB2:Box w2 q [.int .i64 (seen+1)] T:=by rw [hw2];exact hB13.set0
  have E2:Ext (·=q.block) w0 w2:=by rw [hw2];exact E13.pure.trans (Ext.setCell q _)
  clear hw2
  rintro y1 rfl
  have hsh:=jDQ ⟨k,f,t,u,x,0,0⟩
  simp only at hsh
  rw [hsh,tC,hlen]
  have hown:cond ((Sp.nodeErr ⟨k,f,t,u,x,0,0⟩ != 53) && ((ks.length:Int) != (Sp.shapeOf k).kids)) 53 (Sp.nodeErr ⟨k,f,t,u,x,0,0⟩)=Sp.yX ⟨k,f,t,u,x,0,0⟩ ks.length:=by
   rw [jMJ];by_cases h2:Sp.nodeErr ⟨k,f,t,u,x,0,0⟩=53
   ·simp [h2]
   ·by_cases h3:(ks.length:Int)=(Sp.shapeOf k).kids
    ·simp [h3]
    ·have e1:(Sp.nodeErr ⟨k,f,t,u,x,0,0⟩ != 53)=true:=by simpa using h2
     have e2:((ks.length:Int) != (Sp.shapeOf k).kids)=true:=by simpa using h3
     rw [e1,e2,if_pos ⟨h2,h3⟩];rfl
  rw [hown]
  intro H3 w10 hs3
  have E10:Ext (·=q.block) w0 w10:=E2.hst hs3
  have hB10:=hB2.ext hs3.ext (hq0 hs3)
  refine ⟨fun e i H w'=>∃j:Nat,i=j∧j≤ks.length∧∃n:Int,0≤n∧Ext (·=q.block) w0 w'∧Box w' q [.int .i64 n] T∧Sp.vJ (inside+1) e n (ks.drop j)=Sp.vJ (inside+1) (Sp.yX ⟨k,f,t,u,x,0,0⟩ ks.length) (seen+1) ks,fun _ i _=>((ks.length:Int) - i).toNat,⟨0,rfl,Nat.zero_le _,seen+1,by omega,E10,hB10,rfl⟩,?_⟩
  rintro e1 _ Hl wl hl ⟨j,rfl,hj,n,hn,El,hBl,heq⟩
  unfold m_T_l2
  have hTl:=hT.ext El (fun b hb e=>hq (e▸hb))
  refine ⟨fun hc=>?_,fun hc=>?_⟩
  ·simp only [Bool.and_eq_true,beq_iff_eq] at hc
   obtain ⟨he,hlt⟩:=hc
   have hlt:=qI hlen hlt
   subst he
   cases hTl with
   | mk _ _ _ _ _ _ _ rs len fit row kid =>
   obtain ⟨a,hat,ha,hr⟩:=row j hlt
   refine ⟨a,hat,?_⟩
   intro H4 w11 hs4
   have E11:=El.hst hs4
   have hT11:=hT.ext E11 (fun b hb e=>hq (e▸hb))
   have hr11:Row w11 a (qU ks[j] (rs j)):=hs4.ext.row hr (fun hh=>by have:=hs4.old _ hh;have:=hSw _ ha;omega)
   have hk11:TreeAt S w11 (rs j) ks[j]:=(kid j hlt).ext hs4.ext (fun b hb hh=>by have:=hs4.old _ hh;have:=hSw _ hb;omega)
   have hB11:=hBl.ext hs4.ext (hq0 hs4)
   refine ⟨_,_,_,_,_,rs j,hr11,?_⟩
   rw [i64 (n:=inside+1) (by omega) (by omega)]
   refine (ih j hlt (rs j) (inside+1) n w11 (by omega) hn hk11 (fun b hb=>by have:=hSw b hb;have:=E11.size;omega) hB11).mono ?_
   rintro _ w12 ⟨r,rfl,rfl,hB12,E12⟩
   refine ⟨_,rfl,E12.kept (fun b hb e=>hq0 hs4 (e▸hb)),?_⟩
   rw [vM hlt (by omega)]
   refine ⟨⟨j+1,rfl,hlt,_,jEW ks[j] (inside+1) n hn,E11.trans E12,hB12,?_⟩,uA hlt⟩
   rw [← heq];exact (jBL hlt (inside+1) n).symm
  ·intro H4 w11 hs4
   have hfin:Sp.vJ (inside+1) e1 n (ks.drop j)=(e1,n):=by
    by_cases he:e1=0
    ·have hge : j = ks.length := by
      rw [he] at hc;have hc:decide ((j:Int)<(s.len:Int))=false:=by simpa using hc
      exact qK hlen hj hc
     rw [hge,List.drop_length];rfl
    ·exact jCH he _ _
   rw [hfin] at heq
   refine hK _ _ ⟨by rw [← heq],?_,El.hst hs4⟩
   rw [← heq];exact hBl.ext hs4.ext (hq0 hs4)
theorem jGI {S:NP} (t:Sp.Tree) (s:Sl) (w0:World) (hT:TreeAt S w0 s t) (hSw:∀b,S b→b<w0.heap.size) :
  Calls prog 147 #[.agg (qU t s).toArray] w0 (fun e w'=>∃r:Int,e=.returned (.int .i64 r)∧(r=(Sp.qJ 0 0 t).1∧Pure w0 w')):=by
 obtain ⟨k,f,to,u,x,ks⟩:=t
 refine w_E4 _ _ _ _ _ _ w0 (fun r w'=>r=(Sp.qJ 0 0 (.mk k f to u x ks)).1∧Pure w0 w') ?_
 unfold m_E4
 intro H1 w1 hs1 p w2 h2
 have b2:=Box.of_new h2
 have E2:Pure w0 w2:=hs1.first.trans (Ext.new h2)
 have o2:=New.own hs1.first h2
 have hpH:¬ H1 p.block:=fun hh=>by have:=hs1.lt _ hh;have:=h2.at_size;omega
 refine ⟨b2.canW0 (by simp),hpH,?_⟩
 rintro w3 hw3
 have b3:Box w3 p [.int .i64 0] 3:=by rw [hw3];exact b2.set0
 have E3:Pure w0 w3:=by rw [hw3];exact E2.own o2 (Ext.setCell p _)
 clear hw3
 refine (jEM p (fun h=>by have:=hSw _ h;omega) _ _ s 0 0 w3 (Int.le_refl _) (Int.le_refl _) (hT.pure E3) (fun b hb=>by have:=hSw b hb;have:=E3.size;omega) b3).mono ?_
 rintro _ w4 ⟨r,rfl,rfl,_,E4⟩
 exact ⟨_,rfl,E4.kept (fun b hb e=>hpH (e▸hb)),rfl,E3.own o2 E4⟩
theorem jJG (p:Addr) (n:Nat) (w0:World) {L:Sp.Pool} {F:NP} (hP:yA w0 p L F) (hn:n≤L.length) :
  Calls prog 149 #[.pointer (some p),.int .i64 n] w0 (fun e w'=>e=.returned (.tuple #[])∧yA w' p (L.take n) F∧Ext F w0 w'):=by
 suffices key:∀K:WP,(∀w',yA w' p (L.take n) F∧Ext F w0 w'→K w')→m_I2 (some p) n w0 K from
  w_I2 _ _ w0 _ (key _ (fun _ h=>h))
 intro K hK
 unfold m_I2
 obtain ⟨s1,s2,s3,hS,hF⟩:=hP
 obtain ⟨t1,hr1,R1,hb1⟩:=Rws.hi (P:=prog) jJT hS.r1 (k:=.i64) (n:=n) (by omega) (by simpa using hn)
 refine ⟨p,rfl,s1,hS.box.cell0,t1,hr1,p,rfl,hS.box.canW0 (by simp),?_⟩
 rintro w1 hw1
 have B1:Box w1 p [t1.v,s2.v,s3.v] 44:=by rw [hw1];exact hS.box.set0
 have X1:Ext (·=p.block) w0 w1:=by rw [hw1];exact Ext.setCell p _
 clear hw1
 obtain ⟨t2,hr2,R2,hb2⟩:=Rws.hi (P:=prog) jFR (hS.r2.ext X1 (fun b hb e=>hS.n2 (e▸hb))) (k:=.i64) (n:=n) (by omega) (by simpa using hn)
 refine ⟨p,rfl,s2,B1.cell rfl,t2,hr2,p,rfl,B1.canW (by simp),?_⟩
 rintro w2 hw2
 have B2:Box w2 p [t1.v,t2.v,s3.v] 44:=by rw [hw2];exact B1.set 1 _
 have X2:Ext (·=p.block) w1 w2:=by rw [hw2];have:=Ext.setCell (w:=w1) (p.add 1) t2.v;rw [zW] at this;exact this
 clear hw2
 obtain ⟨t3,hr3,R3,hb3⟩:=Rws.hi (P:=prog) jFR (hS.r3.ext (X1.trans X2) (fun b hb e=>hS.n3 (e▸hb))) (k:=.i64) (n:=n) (by omega) (by simpa using hn)
 refine ⟨p,rfl,s3,B2.cell rfl,t3,hr3,p,rfl,B2.canW (by simp),?_⟩
 rintro w3 hw3
 have B3:Box w3 p [t1.v,t2.v,t3.v] 44:=by rw [hw3];exact B2.set 2 _
 have X3:Ext (·=p.block) w2 w3:=by rw [hw3];have:=Ext.setCell (w:=w2) (p.add 2) t3.v;rw [zW] at this;exact this
 clear hw3
 have E:=(X1.trans X2).trans X3
 refine hK _ ⟨⟨t1,t2,t3,⟨B3,?_,?_,?_,fun h=>hS.n1 ((hb1 _).1 h),fun h=>hS.n2 ((hb2 _).1 h),fun h=>hS.n3 ((hb3 _).1 h),fun b h1 h2=>hS.d12 b ((hb1 b).1 h1) ((hb2 b).1 h2),fun b h1 h2=>hS.d13 b ((hb1 b).1 h1) ((hb3 b).1 h2),fun b h1 h2=>hS.d23 b ((hb2 b).1 h1) ((hb3 b).1 h2)⟩,fun b=>by rw [hF b,hb1 b,hb2 b,hb3 b]⟩,E.mono (fun i _ h=>(hF i).2 (.inl h))⟩
 ·have:=R1.ext E (fun b hb e=>hS.n1 ((hb1 _).1 (e▸hb)))
  rw [List.map_take];simpa using this
 ·have:=R2.ext (X2.trans X3) (fun b hb e=>hS.n2 ((hb2 _).1 (e▸hb)))
  rw [List.map_take];simpa using this
 ·have:=R3.ext X3 (fun b hb e=>hS.n3 ((hb3 _).1 (e▸hb)))
  rw [List.map_take];simpa using this
theorem jHV {S:NP} (p:Addr) (t:Sp.Tree):∀(s:Sl) (w0:World) (L:Sp.Pool) (F:NP),Sp.Tree.two t→TreeAt S w0 s t→yA w0 p L F→Sp.Ok L→(∀b,F b→¬ S b)→(∀b,S b→b<w0.heap.size) →
  Calls prog 148 #[.pointer (some p),.agg (qU t s).toArray] w0
   (fun e w'=>∃r1:Int,∃r2:Int,e=.returned (.tuple #[.int .i64 r1,.int .i64 r2])∧((r1,r2)=((Sp.grow L t).1,(Sp.grow L t).2.1)∧∃F',yA w' p (Sp.grow L t).2.2 F'∧Ext F w0 w'∧∀b,F' b→F b∨w0.heap.size≤b)):=by
 induction t using Sp.Tree.ind with
 | h k f t u x ks ih =>
 intro s w0 L F h2 hT hP hok hFS hSw
 suffices key:∀K:Int→Int→WP,(∀r1 r2 w',((r1,r2)=((Sp.grow L (.mk k f t u x ks)).1,(Sp.grow L (.mk k f t u x ks)).2.1)∧∃F',yA w' p (Sp.grow L (.mk k f t u x ks)).2.2 F'∧Ext F w0 w'∧∀b,F' b→F b∨w0.heap.size≤b)→K r1 r2 w')→m_O1 (some p) k f t u x s w0 K from
  w_O1 _ _ _ _ _ _ _ w0 _ (key _ (fun _ _ _ h=>h))
 intro K hK
 obtain ⟨hk2,hall⟩:=jLP.1 h2
 have hsp:Sp.grow L (.mk k f t u x ks)=Sp.vG ⟨k,f,t,u,x,0,0⟩ 0 L ks:=by rw [Sp.grow]
 rw [hsp] at hK
 have hlen:s.len=ks.length:=by cases hT;assumption
 unfold m_O1
 intro H2 w4 hs4
 refine ⟨fun i a1 a2 a3 a4 a5 a6 a7 H w'=>∃j:Nat,i=j∧j≤ks.length∧∃(L':Sp.Pool) (F':NP),Sp.vG ⟨k,f,t,u,x,0,0⟩ 0 L ks=Sp.vG ⟨a1,a2,a3,a4,a5,a6,a7⟩ j L' (ks.drop j)∧Sp.Ok L'∧yA w' p L' F'∧(∀b,F' b→F b∨w0.heap.size≤b)∧(∀b,F' b→¬ H b)∧Ext F w0 w',fun i _ _ _ _ _ _ _ _=>((ks.length:Int) - i).toNat,
  ⟨0,rfl,Nat.zero_le _,L,F,by simp,hok,hP.pure hs4.first,fun b h=>.inl h,hs4.disj0 (fun b hb=>hP.lt hb),hs4.first.pure⟩,?_⟩
 rintro _ a1 a2 a3 a4 a5 a6 a7 Hl wl hl ⟨j,rfl,hj,L',F',heq,hok',hPl,hF',hv,El⟩
 unfold m_O1_l1
 refine ⟨fun h=>?_,fun h=>?_⟩
 ·have hlt:=qI hlen h
  have hTl:TreeAt S wl s (.mk k f t u x ks):=hT.ext El (fun b hs hf=>hFS b hf hs)
  have hkid:∃a r,At s j 6 a∧Row wl a (qU ks[j] r)∧TreeAt S wl r ks[j]:=by
   cases hTl with
   | mk _ _ _ _ _ _ _ rs len fit row kid=>exact let ⟨a,h1,_,h3⟩:=row j hlt;⟨a,rs j,h1,h3,kid j hlt⟩
  obtain ⟨a,r,hat,hrow,hTk⟩:=hkid
  refine ⟨a,hat,_,_,_,_,_,r,hrow,?_⟩
  have hsz:w0.heap.size≤wl.heap.size:=El.size
  refine (ih j hlt r wl L' F' (jER hall hlt) hTk hPl hok' (fun b hb hs=>(hF' b hb).elim (fun h=>hFS b h hs) (fun h=>by have:=hSw b hs;omega)) (fun b hs=>by have:=hSw b hs;omega)).mono ?_
  rintro _ w8 ⟨r1,r2,rfl,hr,F8,hP8,E8,hF8⟩
  have e1:r1=(Sp.grow L' ks[j]).1:=congrArg Prod.fst hr
  have e2:r2=(Sp.grow L' ks[j]).2.1:=congrArg Prod.snd hr
  rw [List.drop_eq_getElem_cons hlt] at heq
  have hF8':∀b,F8 b→F b∨w0.heap.size≤b:=fun b hb=>(hF8 b hb).elim (hF' b) (fun h=>by right;omega)
  have Ew8:Ext F w0 w8:=El.trans' E8 (fun i hi h=>(hF' i h).elim id (fun h=>by omega))
  refine ⟨_,_,rfl,E8.kept (fun b hH hF=>hv b hF hH),fun h=>?_,fun h=>?_⟩
  ·have h:(Sp.grow L' ks[j]).2.1≠0:=by rw [← e2];simpa using h
   rw [jEE h] at heq
   refine hK _ _ _ ?_
   rw [heq];exact ⟨by rw [e2],F8,hP8,Ew8,hF8'⟩
  ·have h:(Sp.grow L' ks[j]).2.1=0:=by rw [← e2];simpa using h
   rw [jCI h] at heq
   intro H3 w9 hs9
   have hv8:∀b,F8 b→¬ Hl b:=fun b hb hH=>(hF8 b hb).elim (fun h=>hv b h hH) (fun h=>by have:=hl.lt b hH;omega)
   have hv9:∀b,F8 b→¬ H3 b:=hs9.disj (fun b hb=>⟨hP8.lt hb,hv8 b hb⟩)
   rw [vM hlt (by omega)]
   refine ⟨⟨j+1,rfl,hlt,_,F8,?_,(Sp.uY ks[j] L' hok').1,hP8.ext hs9.ext hv9,hF8',hv9,Ew8.hst hs9⟩,uA hlt⟩
   rw [heq,e1]
   have hj0:(((j:Int)) == 0)=decide (j=0):=by rw [Bool.eq_iff_iff];simp
   rw [hj0]
   by_cases hj0':j=0
   ·subst hj0';rfl
   ·simp [hj0']
 ·have hge:=qK hlen hj h
  rw [hge,List.drop_length,Sp.vG] at heq
  refine (jHX p ⟨a1,a2,a3,a4,a5,a6,a7⟩ wl hPl hok').mono ?_
  rintro _ w9 ⟨r1,r2,rfl,hr,F9,hP9,E9,hF9⟩
  have hsz:w0.heap.size≤wl.heap.size:=El.size
  refine ⟨_,_,rfl,E9.kept (fun b hH hF=>hv b hF hH),hK _ _ _ ?_⟩
  rw [heq]
  exact ⟨hr,F9,hP9,El.trans' E9 (fun i hi h=>(hF' i h).elim id (fun h=>by omega)),fun b hb=>(hF9 b hb).elim (hF' b) (fun h=>by right;omega)⟩
theorem jGC (t:Sp.Tree):∀L,(Sp.grow L t).2.1≠0→(Sp.grow L t).1=0:=by
 induction t using Sp.Tree.ind with
 | h k f t u x ks ih =>
  have hmk:∀L n,(Sp.make L n).2.1≠0→(Sp.make L n).1=0:=by
   intro L n h;unfold Sp.make at h ⊢;simp only at h ⊢;split at h
   ·rename_i h1;rw [if_pos h1]
   ·rename_i h1;rw [if_neg h1];split at h
    ·rename_i hf;exact absurd rfl h
    ·split at h
     ·rename_i h2;simp [h2]
     ·exact absurd rfl h
  have:∀(ks:List Sp.Tree),(∀i (hi:i<ks.length),∀L,(Sp.grow L ks[i]).2.1≠0→(Sp.grow L ks[i]).1=0)→∀n i L,(Sp.vG n i L ks).2.1≠0→(Sp.vG n i L ks).1=0:=by
   intro ks;induction ks with
   | nil=>intro _ n i L h;unfold Sp.vG at h ⊢;exact hmk L n h
   | cons t ts iht =>
    intro hh n i L h
    unfold Sp.vG at h ⊢
    split at h
    ·rename_i h1;rw [if_pos h1]
    ·rename_i h1;rw [if_neg h1];exact iht (fun i hi=>hh (i+1) (by simpa using hi)) _ _ _ h
  intro L h
  unfold Sp.grow at h ⊢
  exact this ks ih _ _ L h
theorem jCB {S:NP} (p:Addr) (t:Sp.Tree) (s:Sl) (w0:World) {L:Sp.Pool} {F:NP} (hT:TreeAt S w0 s t) (hP:yA w0 p L F) (hok:Sp.Ok L) (hFS:∀b,F b→¬ S b) (hSw:∀b,S b→b<w0.heap.size) :
  Calls prog 78 #[.pointer (some p),.agg (qU t s).toArray] w0
   (fun e w'=>∃r1:Int,∃r2:Int,e=.returned (.tuple #[.int .i64 r1,.int .i64 r2])∧((r1,r2)=((Sp.of L t).1,(Sp.of L t).2.1)∧∃F',yA w' p (Sp.of L t).2.2 F'∧Ext F w0 w'∧∀b,F' b→F b∨w0.heap.size≤b)):=by
 obtain ⟨k,f,to,u,x,ks⟩:=t
 suffices key:∀K:Int→Int→WP,(∀r1 r2 w',((r1,r2)=((Sp.of L (.mk k f to u x ks)).1,(Sp.of L (.mk k f to u x ks)).2.1)∧∃F',yA w' p (Sp.of L (.mk k f to u x ks)).2.2 F'∧Ext F w0 w'∧∀b,F' b→F b∨w0.heap.size≤b)→K r1 r2 w')→m_J2 (some p) k f to u x s w0 K from
  w_J2 _ _ _ _ _ _ _ w0 _ (key _ (fun _ _ _ h=>h))
 intro K hK
 unfold m_J2
 intro H1 w1 hs1
 have E1:=hs1.first
 generalize ht:Sp.Tree.mk k f to u x ks=t at *
 have htr:(Value.agg #[.int .i64 k,.int .i64 f,.int .i64 to,.int .u64 u,.string x,s.v])=.agg (qU t s).toArray:=by rw [← ht];rfl
 rw [htr]
 refine (jGI t s w1 (hT.pure E1) (fun b hb=>by have:=hSw b hb;have:=E1.size;omega)).mono ?_
 rintro _ w2 ⟨r1,rfl,rfl,E2⟩
 have E12:=E1.trans E2
 refine ⟨_,rfl,E2.keptP,fun h=>?_,fun h=>?_⟩
 ·have h:(Sp.qJ 0 0 t).1≠0:=by simpa using h
  have:Sp.of L t=(0,(Sp.qJ 0 0 t).1,L):=by rw [Sp.of,if_pos h]
  refine hK _ _ _ ?_
  rw [this];exact ⟨rfl,F,hP.pure E12,E12.pure,fun _ h=>.inl h⟩
 ·have h:(Sp.qJ 0 0 t).1=0:=by simpa using h
  have hP2:=hP.pure E12
  have hv:∀b,F b→¬ H1 b:=hs1.disj0 (fun b hb=>hP.lt hb)
  obtain ⟨s1,s2,s3,hS,hF0⟩:=id hP2
  have hl0:s1.len=L.length:=by rw [hS.r1.len];simp
  refine ⟨p,rfl,s1,hS.box.cell0,?_⟩
  refine (jHV p t s w2 L F (jHK t _ _ h) (hT.pure E12) hP2 hok hFS (fun b hb=>by have:=hSw b hb;have:=E12.size;omega)).mono ?_
  rintro _ w5 ⟨r1,r2,rfl,hr,F5,hP5,E5,hF5⟩
  have e1:r1=(Sp.grow L t).1:=congrArg Prod.fst hr
  have e2:r2=(Sp.grow L t).2.1:=congrArg Prod.snd hr
  have hs4:w0.heap.size≤w2.heap.size:=E12.size
  have E05:Ext F w0 w5:=E12.pure.trans E5
  have hF5':∀b,F5 b→F b∨w0.heap.size≤b:=fun b hb=>(hF5 b hb).elim .inl (fun h=>.inr (by omega))
  have hs2:=hs1.again E2.keptP
  have hv5:∀b,F5 b→¬ H1 b:=fun b hb hH=>(hF5 b hb).elim (fun h=>hv b h hH) (fun h=>by have:=hs2.lt b hH;omega)
  refine ⟨_,_,rfl,E5.kept (fun b hH hF=>hv b hF hH),fun h'=>?_,fun h'=>?_⟩
  ·have h':(Sp.grow L t).2.1≠0:=by rw [← e2];simpa using h'
   obtain ⟨hok5,M,hM⟩:=Sp.uY t L hok
   rw [hl0]
   refine (jJG p L.length w5 hP5 (by rw [hM];simp)).mono ?_
   rintro _ w6 ⟨rfl,hP6,E6⟩
   have:Sp.of L t=(0,(Sp.grow L t).2.1,L):=by rw [Sp.of,if_neg (by simp [h]),if_pos h']
   refine ⟨rfl,E6.kept (fun b hH hF=>hv5 b hF hH),hK _ _ _ ?_⟩
   rw [this]
   rw [hM,List.take_left] at hP6
   exact ⟨by rw [e1,e2,jGC t L h'],F5,hP6,E05.trans' E6 (fun i hi h=>(hF5' i h).elim id (fun h=>by omega)),hF5'⟩
  ·have h':(Sp.grow L t).2.1=0:=by rw [← e2];simpa using h'
   have:Sp.of L t=((Sp.grow L t).1,0,(Sp.grow L t).2.2):=by rw [Sp.of,if_neg (by simp [h]),if_neg (by simp [h'])]
   refine hK _ _ _ ?_
   rw [this]
   exact ⟨by rw [e1,e2,h'],F5,hP5,E05,hF5'⟩
theorem TreeAt.hst {S:NP} {w0 w w':World} {H H':NP} {s:Sl} {t:Sp.Tree} (h:TreeAt S w s t) (hs:Hst w0 H w H' w') (hd:∀b,S b→b<w.heap.size∧¬ H b):TreeAt S w' s t :=
 h.ext hs.ext (fun b hb hh=>hs.disj (G:=S) hd b hb hh)
theorem jGH {S:NP} (t:Sp.Tree):∀(s:Sl) (most:Int) (w0:World),0≤most→most≤1000000000→TreeAt S w0 s t→(∀b,S b→b<w0.heap.size) →
  Calls prog 75 #[.agg (qU t s).toArray,.int .i64 most] w0 (fun e w'=>∃r:Int,e=.returned (.int .i64 r)∧(r=Sp.jAJ most t∧Pure w0 w')):=by
 induction t using Sp.Tree.ind with
 | h k f t u x ks ih =>
 intro s most w0 hm0 hm hT hSw
 suffices key:∀K:Int→WP,(∀r w',(r=Sp.jAJ most (.mk k f t u x ks)∧Pure w0 w')→K r w')→m_M1 k f t u x s most w0 K from
  w_M1 _ _ _ _ _ _ _ w0 _ (key _ (fun _ _ h=>h))
 intro K hK
 have hlen:s.len=ks.length:=by cases hT;assumption
 have hfit:ks.length≤9223372036854775807:=by cases hT;assumption
 unfold m_M1
 intro H1 w1 hs1
 refine ⟨fun n i H w'=>∃j:Nat,i=j∧j≤ks.length∧1≤n∧n≤most+1∧Pure w0 w'∧Sp.yP most 1 ks=Sp.yP most n (ks.drop j),fun _ i _=>((ks.length:Int) - i).toNat,⟨0,rfl,Nat.zero_le _,Int.le_refl _,by omega,hs1.first,rfl⟩,?_⟩
 rintro n _ Hl wl hl ⟨j,rfl,hj,hn1,hn2,El,heq⟩
 unfold m_M1_l1
 refine ⟨fun hc=>?_,fun hc=>?_⟩
 ·simp only [Bool.and_eq_true,decide_eq_true_eq] at hc
  have hlt:j<ks.length:=by omega
  rw [List.drop_eq_getElem_cons hlt,Sp.yP,if_pos hc.2] at heq
  have hT1:=hT.pure El
  cases hT1 with
  | mk _ _ _ _ _ _ _ rs len fit row kid =>
  obtain ⟨a,hat,ha,hr⟩:=row j hlt
  refine ⟨a,hat,?_⟩
  intro H2 w2 hs2
  have hd:∀b,S b→¬ H2 b:=fun b hb hh=>by have:=hs2.old _ hh;have:=hSw b hb;omega
  refine ⟨_,_,_,_,_,rs j,hs2.ext.row hr (hd _ ha),?_⟩
  rw [i64 (n:=most - n) (by omega) (by omega)]
  refine (ih j hlt (rs j) (most - n) w2 (by omega) (by omega) ((kid j hlt).ext hs2.ext hd) (fun b hb=>by have:=hSw b hb;have:=(El.hst hs2).size;omega)).mono ?_
  rintro _ w3 ⟨r,rfl,rfl,E3⟩
  have hpf:=Sp.jDY ks[j] (most - n) (by omega)
  refine ⟨_,rfl,E3.keptP,?_⟩
  rw [vM hlt (by omega),i64 (n:=n+Sp.jAJ (most - n) ks[j]) (by omega) (by omega)]
  exact ⟨⟨j+1,rfl,hlt,by omega,by omega,(El.hst hs2).trans E3,heq⟩,uA hlt⟩
 ·intro H2 w2 hs2
  refine hK _ _ ⟨?_,El.hst hs2⟩
  rw [Sp.jAJ,heq]
  by_cases hj2:j=ks.length
  ·rw [hj2,List.drop_length];rfl
  ·have hlt:j<ks.length:=by omega
   rw [List.drop_eq_getElem_cons hlt,Sp.yP,if_neg]
   intro h
   have:decide (n≤most)=true:=decide_eq_true h
   have h2:decide ((j:Int)<(s.len:Int))=true:=decide_eq_true (by omega)
   rw [this,h2] at hc;cases hc
theorem jGX {xs ys:List Sp.Tree} {j:Nat} (hl:xs.length=ys.length) (hj:j<xs.length):Sp.yN (xs.drop j) (ys.drop j)=(Sp.jDM xs[j] (ys[j]'(by omega)) && Sp.yN (xs.drop (j+1)) (ys.drop (j+1))):=by
 rw [List.drop_eq_getElem_cons hj,List.drop_eq_getElem_cons (show j<ys.length by omega),Sp.yN]
theorem jDL:∀{xs ys:List Sp.Tree},Sp.yN xs ys=true→xs.length=ys.length
 | [],[],_=>rfl
 | a :: xs,b :: ys,h=>by simp only [Sp.yN,Bool.and_eq_true] at h;simp [jDL h.2]
 | [],b :: ys,h=>by simp [Sp.yN] at h
 | a :: xs,[],h=>by simp [Sp.yN] at h
theorem jAB {S:NP} (t:Sp.Tree):∀(t':Sp.Tree) (s s':Sl) (w0:World),TreeAt S w0 s t→TreeAt S w0 s' t'→(∀b,S b→b<w0.heap.size) →
  Calls prog 47 #[.agg (qU t s).toArray,.agg (qU t' s').toArray] w0 (fun e w'=>∃r:Bool,e=.returned (.bool r)∧(r=Sp.jDM t t'∧Pure w0 w')):=by
 induction t using Sp.Tree.ind with
 | h k f t u x ks ih =>
 intro t' s s' w0 hT hT' hSw
 obtain ⟨k',f',tt',u',x',ks'⟩:=t'
 suffices key:∀K:Bool→WP,(∀r w',(r=Sp.jDM (.mk k f t u x ks) (.mk k' f' tt' u' x' ks')∧Pure w0 w')→K r w')→m_L1 k f t u x s k' f' tt' u' x' s' w0 K from
  w_L1 _ _ _ _ _ _ _ _ _ _ _ _ w0 _ (key _ (fun _ _ h=>h))
 intro K hK
 have hlen:s.len=ks.length:=by cases hT;assumption
 have hlen':s'.len=ks'.length:=by cases hT';assumption
 have hfit:ks.length≤9223372036854775807:=by cases hT;assumption
 unfold m_L1
 rintro y1 rfl
 refine ⟨fun h=>?_,fun h=>?_⟩
 ·intro H7 w7 hs7
  refine hK _ _ ⟨?_,hs7.first⟩
  symm
  apply Bool.eq_false_iff.2
  intro hs
  simp only [Sp.jDM,Bool.and_eq_true,decide_eq_true_eq] at hs
  obtain ⟨⟨⟨⟨⟨rfl,rfl⟩,rfl⟩,rfl⟩,rfl⟩,h6⟩:=hs
  have:=jDL h6
  simp [hlen,hlen',this] at h
 ·have hne : k = k' ∧ f = f' ∧ t = tt' ∧ u = u' ∧ x = x' ∧ ks.length = ks'.length := by
   simp only [Bool.or_eq_false_iff,bne_eq_false_iff_eq,Bool.not_eq_false',decide_eq_true_eq] at h;obtain ⟨⟨⟨⟨⟨h1,h2⟩,h3⟩,h4⟩,h5⟩,h6⟩:=h;exact ⟨h1,h2,h3,h4,h5,by omega⟩
  obtain ⟨rfl,rfl,rfl,rfl,rfl,hll⟩:=hne
  have hsp:Sp.jDM (.mk k f t u x ks) (.mk k f t u x ks')=Sp.yN ks ks':=by simp [Sp.jDM]
  rw [hsp] at hK
  intro H7 w7 hs7
  refine ⟨fun i H w'=>∃j:Nat,i=j∧j≤ks.length∧Pure w0 w'∧Sp.yN ks ks'=Sp.yN (ks.drop j) (ks'.drop j),fun i _=>((ks.length:Int) - i).toNat,⟨0,rfl,Nat.zero_le _,hs7.first,rfl⟩,?_⟩
  rintro _ Hl wl hl ⟨j,rfl,hj,El,heq⟩
  unfold m_L1_l1
  refine ⟨fun hc=>?_,fun hc=>?_⟩
  ·have hlt:=qI hlen hc
   have hlt':j<ks'.length:=by omega
   rw [jGX hll hlt] at heq
   have g1:∃a r,At s j 6 a∧S a.block∧(∀w',Pure w0 w'→Row w' a (qU ks[j] r))∧TreeAt S w0 r ks[j]:=by
    cases hT with
    | mk _ _ _ _ _ _ _ rs len fit row kid=>obtain ⟨a,h1,h2,h3⟩:=row j hlt;exact ⟨a,rs j,h1,h2,fun w' E=>E.row h3 id,kid j hlt⟩
   have g2:∃a r,At s' j 6 a∧S a.block∧(∀w',Pure w0 w'→Row w' a (qU ks'[j] r))∧TreeAt S w0 r ks'[j]:=by
    cases hT' with
    | mk _ _ _ _ _ _ _ rs len fit row kid=>obtain ⟨a,h1,h2,h3⟩:=row j hlt';exact ⟨a,rs j,h1,h2,fun w' E=>E.row h3 id,kid j hlt'⟩
   obtain ⟨a,r,hat,_,hr,hk⟩:=g1
   obtain ⟨a',r',hat',_,hr',hk'⟩:=g2
   refine ⟨fun w'=>Pure w0 w',El.trans (Ext.drew wl),?_⟩
   rintro _ rfl
   have Ed:=El.trans (Ext.drew wl)
   refine ⟨a,hat,_,_,_,_,_,r,fun w' h=>hr w' h,a',hat',_,_,_,_,_,r',fun w' h=>hr' w' h,?_⟩
   refine (ih j hlt ks'[j] r r' wl.drew (hk.pure Ed) (hk'.pure Ed) (fun b hb=>by have:=hSw b hb;have:=Ed.size;omega)).mono ?_
   rintro _ w13 ⟨q,rfl,rfl,E13⟩
   refine ⟨_,rfl,Ed.trans E13,E13.keptP,fun h=>?_,fun h=>?_⟩
   ·have h:Sp.jDM ks[j] ks'[j]=false:=by simpa using h
    exact hK _ _ ⟨by rw [heq,h];rfl,Ed.trans E13⟩
   ·have h:Sp.jDM ks[j] ks'[j]=true:=by simpa using h
    rw [h,Bool.true_and] at heq
    rw [vM hlt (by omega)]
    exact ⟨⟨j+1,rfl,hlt,Ed.trans E13,heq⟩,uA hlt⟩
  ·have hge:=qK hlen hj hc
   subst hge
   rw [List.drop_length,hll,List.drop_length] at heq
   exact hK _ _ ⟨heq.symm,El⟩
theorem jFQ:SlType prog 66 107 6 72:=by
 refine ⟨underlying66,⟨t107,_,by kernel_rfl,(by kernel_rfl:t107.zero=some (.agg #[.int .i64 0,.int .i64 0,.int .i64 0,.int .u64 0,.string ⟨#[]⟩,.slice none 0 0])),by kernel_rfl,by kernel_rfl,rfl⟩,by omega⟩
def jOA (p:Sp.Tree×Sl):List Value:=qU p.1 p.2
theorem TreeAt.of_pairs {S:NP} {w:World} {s:Sl} {e:TypeId} {ps:List (Sp.Tree×Sl)} {k f t u:Int} {x:ByteArray} (hR:Rws w e 6 s (ps.map jOA)) (hS:∀b,s.blk b→S b) (hk:∀p∈ps,TreeAt S w p.2 p.1) (fit:ps.length≤9223372036854775807):TreeAt S w s (.mk k f t u x (ps.map Prod.fst)):=by
 refine .mk k f t u x _ s (fun i=>(ps.getD i (Sp.jBJ,Sl.nil)).2) (by rw [hR.len];simp) (by simpa using fit) (fun i h=>?_) (fun i h=>?_)
 ·have h':i<ps.length:=by simpa using h
  obtain ⟨a,h1,h2,h3⟩:=hR.at (i:=i) (by omega) (by simpa using h');refine ⟨a,h1,hS _ h3,?_⟩;have e1:(ps.map Prod.fst)[i]=ps[i].1:=by simp
  have e2:(ps.getD i (Sp.jBJ,Sl.nil)).2=ps[i].2:=by simp [List.getD_eq_getElem?_getD,h']
  rw [e1,e2];simpa [jOA] using h2
 ·have h':i<ps.length:=by simpa using h
  have e1:(ps.map Prod.fst)[i]=ps[i].1:=by simp
  have e2:(ps.getD i (Sp.jBJ,Sl.nil)).2=ps[i].2:=by simp [List.getD_eq_getElem?_getD,h']
  rw [e1,e2];exact hk _ (List.getElem_mem h')
theorem jFM (t:Sp.Tree) (s:Sl):(qU t s).all qE=true:=by simp [qU,qE,Sl.v]
theorem uK (p:Addr) {L:Sp.Pool} (hW:Sp.Wf L):∀(n:Nat) (t:Int) (w0:World) (F:NP),t.toNat=n→yA w0 p L F →
  Calls prog 49 #[.pointer (some p),.int .i64 t] w0 (RetT w0.heap.size w0 (Sp.zJ L t)):=by
 intro n
 induction n using Nat.strongRecOn with
 | _ n ih =>
 intro t w0 F hn hP
 suffices key:∀K:Int→Int→Int→Int→ByteArray→Sl→WP,(∀k f t' u x s' w' ks,Sp.zJ L t=.mk k f t' u x ks→TreeAt (w0.heap.size≤·) w' s' (.mk k f t' u x ks)→Pure w0 w'→K k f t' u x s' w')→m_A1 (some p) t w0 K by
  refine (w_A1 _ _ w0 (fun k f t' u x s' w'=>∃ks,Sp.zJ L t=.mk k f t' u x ks∧TreeAt (w0.heap.size≤·) w' s' (.mk k f t' u x ks)∧Pure w0 w') (key _ (fun k f t' u x s' w' ks h1 h2 h3=>⟨ks,h1,h2,h3⟩))).mono ?_;rintro _ w' ⟨k,f,t',u,x,s',rfl,ks,h1,h2,h3⟩;rw [h1];exact ⟨s',rfl,h2,h3⟩
 intro K hK
 have hok:=hW.ok
 have hnil:∀b,¬ Sl.nil.blk b:=fun b hb=>by obtain ⟨a,h,_⟩:=hb;cases h
 unfold m_A1
 intro H1 w1 hs1
 have E1:=hs1.first
 refine (jHW p t w1 (hP.pure E1) hok).mono ?_
 rintro _ w2 ⟨k,f,t',u,x,a,b,r,rfl,⟨hnd,hr⟩,E2⟩
 have E02:=E1.trans E2
 have hs2:=hs1.again E2.keptP
 refine ⟨_,_,_,_,_,_,_,_,rfl,E2.keptP,fun h=>?_,fun h=>?_⟩
 ·intro H2 w5 hs5
  have hin:Sp.inP L t=false:=by rw [← hr];simpa using h
  exact hK _ _ _ _ _ _ _ [] (by rw [Sp.jAP hin];rfl) TreeAt.leaf (E02.hst hs5)
 ·have hin:Sp.inP L t=true:=by rw [← hr];simpa using h
  have htr:=Sp.qB hW hin
  have hnode:=hW.node hin
  rw [← hnd] at htr hnode
  simp only at htr hnode
  obtain ⟨_,_,_,_,hkid,_,_⟩:=hnode
  have hpos:=Sp.qC.1 hin
  rw [tC]
  have J1 : ∀ (xs : Sl) (H : NP) (w : World) (ps : List (Sp.Tree × Sl)) (S' : NP), Hst w0 H w H w → Pure w0 w → Own H w 107 6 xs (ps.map jOA) → ps.length ≤ 1 → (∀ p ∈ ps, TreeAt S' w p.2 p.1) → (∀ b, S' b → w0.heap.size ≤ b ∧ b < w.heap.size ∧ ¬ H b ∧ ¬ xs.blk b) → (∀ b, xs.blk b → w0.heap.size ≤ b) →
    ((Sp.shapeOf k).kids=2→ps.map Prod.fst=[Sp.zJ L a])→((Sp.shapeOf k).kids≠2→ps.map Prod.fst=(Sp.zS ⟨k,f,t',u,x,a,b⟩).map (Sp.zJ L)) →
    m_A1_j1 (some p) k b k f t' u x xs w0 H w K:=by
   intro xs H w ps S' hs E O hpl hkids hS' hxs h2 h1
   unfold m_A1_j1
   rw [tC]
   refine ⟨fun h=>?_,fun h=>?_⟩
   ·have hk2:(Sp.shapeOf k).kids=2:=by simpa using h
    have hps:=h2 hk2
    intro w9 hs9
    have E9:=E.hst hs9
    have O9:=O.hst hs9
    have E10:Pure w9 w9.drew:=Ext.drew w9
    refine ⟨fun _=>True,trivial,?_⟩
    rintro _ rfl
    have hb:=hkid b (by simp [Sp.zS,hk2])
    have hbp:=Sp.qC.1 hb.1
    refine (ih b.toNat (by omega) b w9.drew F rfl (hP.pure (E9.trans E10))).mono ?_
    rintro _ w11 ⟨s',rfl,hTb,E11⟩
    generalize hTt:Sp.zJ L b=tb at *
    obtain ⟨k2,f2,t2,u2,x2,ks2⟩:=tb
    refine ⟨_,_,_,_,_,s',rfl,trivial,E11.keptP,?_⟩
    intro p5 w12 h12
    have E12:Pure w11 w12:=Ext.new h12
    refine ⟨trivial,?_⟩
    have hs12:Hst w0 H w12 H w12:=(hs9.again E10.keptP).again (E11.trans E12).keptP
    obtain ⟨s1,w13,hr13,hO13,hE13,hk13,hb13⟩:=(O9.pure ((E10.trans E11).trans E12)).append (P:=prog) (ty:=66) (c:=1) jFQ hs12 (r:=qU (.mk k2 f2 t2 u2 x2 ks2) s') (Box.of_new h12).row rfl (jFM _ _) (by simp;omega) (by simp [maxLen];omega)
    refine ⟨s1,w13,hr13,trivial,hk13,?_⟩
    intro w15 hs15
    have zd:w9.drew.heap.size=w9.heap.size:=rfl
    have z9:=hs9.ext.size
    have z11:=E11.size
    have z12:=E12.size
    have z13:=hE13.size
    have hS9:∀b,S' b→w0.heap.size≤b∧b<w9.heap.size∧¬ H b∧¬ xs.blk b:=fun b hb=>⟨(hS' b hb).1,by have:=(hS' b hb).2.1;omega,(hS' b hb).2.2.1,(hS' b hb).2.2.2⟩
    have hvs:∀b,s1.blk b→b<w13.heap.size∧¬ H b:=fun b hb=>⟨hO13.rows.lt hb,hO13.vis b hb⟩
    have hR15:=hO13.rows.ext hs15.ext (hs15.disj (G:=s1.blk) hvs)
    have e1:ps.map jOA++[qU (.mk k2 f2 t2 u2 x2 ks2) s']=(ps++[((.mk k2 f2 t2 u2 x2 ks2:Sp.Tree),s')]).map jOA:=by simp [jOA]
    rw [e1] at hR15
    have hT:=TreeAt.of_pairs (S:=fun b=>w0.heap.size≤b) (k:=k) (f:=f) (t:=t') (u:=u) (x:=x) hR15 (fun b hb=>(hb13 b hb).elim (hxs b) (fun h=>by have:=E9.size;omega)) (fun q hq=>?_) (by simp;omega)
    ·have e2 : (ps ++ [((.mk k2 f2 t2 u2 x2 ks2 : Sp.Tree), s')]).map Prod.fst = (Sp.zS ⟨k, f, t', u, x, a, b⟩).map (Sp.zJ L) := by
      rw [List.map_append,hps];simp [Sp.zS,hk2,hTt]
     rw [e2] at hT
     exact hK _ _ _ _ _ _ _ _ htr hT ((((E9.trans E10).trans E11).trans E12).trans' hE13 (fun i hi hb=>by have:=hxs i hb;omega) |>.hst hs15)
    ·rcases List.mem_append.1 hq with h | h
     ·have q1:=(hkids q h).hst hs9 (fun b hb=>⟨(hS' b hb).2.1,(hS' b hb).2.2.1⟩)
      have q2:=(q1.pure ((E10.trans E11).trans E12)).ext hE13 (fun b hb hy=>(hS' b hb).2.2.2 hy)
      exact (q2.hst hs15 (fun b hb=>⟨by have:=(hS9 b hb).2.1;omega,(hS' b hb).2.2.1⟩)).mono (fun b hb=>(hS' b hb).1)
     ·simp only [List.mem_singleton] at h;subst h
      have q1:=(hTb.lt.pure E12).ext hE13 (fun b hb hy=>by have:=O9.rows.lt hy;have:=hb.1;omega)
      exact (q1.hst hs15 (fun b hb=>⟨by have:=hb.2;omega,fun hh=>by have:=hs9.lt b hh;have:=hb.1;omega⟩)).mono (fun b hb=>by have:=hb.1;have:=E9.size;omega)
   ·have hk2:(Sp.shapeOf k).kids≠2:=by simpa using h
    intro w16 hs16
    have O16:=O.hst hs16
    have hT:=TreeAt.of_pairs (S:=fun b=>w0.heap.size≤b) (k:=k) (f:=f) (t:=t') (u:=u) (x:=x) O16.rows hxs (fun q hq=>((hkids q hq).hst hs16 (fun b hb=>⟨(hS' b hb).2.1,(hS' b hb).2.2.1⟩)).mono (fun b hb=>(hS' b hb).1)) (by omega)
    rw [h1 hk2] at hT
    exact hK _ _ _ _ _ _ _ _ htr hT (E.hst hs16)
  have hkk:=Sp.tM k
  refine ⟨fun h=>?_,fun h=>?_⟩
  ·have hk1:1≤(Sp.shapeOf k).kids:=by have:=of_decide_eq_true h;omega
   intro H3 w8 hs8
   have E8:=E02.hst hs8
   have E17:Pure w8 w8.drew:=Ext.drew w8
   refine ⟨fun _=>True,trivial,?_⟩
   rintro _ rfl
   have ha:=hkid a (by rcases hkk with h | h | h <;> simp [Sp.zS,h] <;> omega)
   have hap:=Sp.qC.1 ha.1
   refine (ih a.toNat (by omega) a w8.drew F rfl (hP.pure (E8.trans E17))).mono ?_
   rintro _ w18 ⟨s',rfl,hTa,E18⟩
   generalize hTt:Sp.zJ L a=ta at *
   obtain ⟨k2,f2,t2,u2,x2,ks2⟩:=ta
   refine ⟨_,_,_,_,_,s',rfl,trivial,E18.keptP,?_⟩
   intro p6 w19 h19
   have E19:Pure w18 w19:=Ext.new h19
   refine ⟨trivial,?_⟩
   have hs19:Hst w0 H3 w19 H3 w19:=(hs8.again E17.keptP).again (E18.trans E19).keptP
   obtain ⟨s2,w20,hr20,hO20,hE20,hk20,hb20⟩:=(Own.nil (sz:=6) (e:=107) H3 w19).append (P:=prog) (ty:=66) (c:=1) jFQ hs19 (r:=qU (.mk k2 f2 t2 u2 x2 ks2) s') (Box.of_new h19).row rfl (jFM _ _) (by simp) (by simp [maxLen])
   refine ⟨s2,w20,hr20,trivial,hk20,?_⟩
   intro w21 hs21
   have zd:w8.drew.heap.size=w8.heap.size:=rfl
   have z18:=E18.size
   have z19:=E19.size
   have z20:=hE20.size
   have z21:=hs21.ext.size
   have E20:Pure w19 w20:=hE20.mono (fun b _ hb=>hnil b hb)
   have hs2n:∀b,s2.blk b→w19.heap.size≤b:=fun b hb=>(hb20 b hb).elim (fun h=>(hnil b h).elim) id
   refine J1 s2 H3 w21 [((.mk k2 f2 t2 u2 x2 ks2:Sp.Tree),s')] (fun b=>w8.heap.size≤b∧b<w18.heap.size) hs21.here ((((E8.trans E17).trans E18).trans E19).trans E20 |>.hst hs21) ?_ (by simp) ?_ ?_ (fun b hb=>by have:=hs2n b hb;have:=E8.size;omega) (fun _=>by simp) (fun hne=>?_)
   ·have:=hO20.hst hs21;simpa [jOA] using this
   ·intro q hq
    simp only [List.mem_singleton] at hq;subst hq
    exact ((hTa.lt.pure E19).pure E20).hst hs21 (fun b hb=>⟨by have:=hb.2;omega,fun hh=>by have:=hs8.lt b hh;have:=hb.1;omega⟩)
   ·rintro b ⟨h1,h2⟩
    exact ⟨by have:=E8.size;omega,by omega,fun hh=>by have:=hs8.lt b hh;omega,fun hh=>by have:=hs2n b hh;omega⟩
   ·rcases hkk with h | h | h
    ·omega
    ·simp [Sp.zS,h,hTt]
    ·exact absurd h hne
  ·have hk0:(Sp.shapeOf k).kids=0:=by have:=of_decide_eq_false h;omega
   intro H3 w8 hs8
   exact J1 Sl.nil H3 w8 [] (fun _=>False) hs8.here (E02.hst hs8) (Own.nil _ _) (by simp) (by simp) (fun b h=>h.elim) (fun b h=>(hnil b h).elim) (fun h=>by omega) (fun _=>by simp [Sp.zS,hk0])
end Go.Proofs
end
