import Derived.Test.YtkafbiknboamlaaGreatDoorPa6
import Derived.Test.YtkafbiknboamlaaGreatDoorPa3
import Derived.Test.YtkafbiknboamlaaGreatDoorPa5
import Derived.Test.YtkafbiknboamlaaGreatDoorPa2
import Derived.Shelf.Strconv.Itoa3
import Derived.Test.YtkafbiknboamlaaGreatDoorProg
import Derived.KernelRfl
import Derived.Test.YtkafbiknboamlaaGreatDoorPa1
import Derived.Test.YtkafbiknboamlaaGreatDoorPa0
import Derived.Laws.DeepStrings4
import Derived.Test.YtkafbiknboamlaaGreatDoorPa4
import Derived.ProofKit
import Derived.Carry
import Derived.OpenShut
import Derived.Stop.Joined
section
open Go Go.SE
namespace Go.Sp
open Go.Proofs
theorem jFS (Lq:Pool):∀(l1 l2:List Int) (L:Pool) (own:Int→Int),vM Lq (l1++l2) L own=if (vM Lq l1 L own).2.1≠0 then vM Lq l1 L own else vM Lq l2 (vM Lq l1 L own).1 (vM Lq l1 L own).2.2:=by
 intro l1;induction l1 with
 | nil=>intro l2 L own;rw [List.nil_append];exact (if_neg (fun h=>h rfl)).symm
 | cons z l1 ih =>
  intro l2 L own
  obtain ⟨x,e,L',hm⟩:∃x e L',make L { nodeOf Lq z with a:=own (nodeOf Lq z).a,b:=own (nodeOf Lq z).b }=(x,e,L'):=⟨_,_,_,rfl⟩
  rw [List.cons_append,yS Lq z (l1++l2) L own rfl hm,yS Lq z l1 L own rfl hm]
  by_cases he:e≠0
  ·rw [if_pos he,if_pos he,if_pos he]
  ·rw [if_neg he,if_neg he,ih]
theorem jIL (Lq:Pool):∀(l:List Int) (L:Pool) (own:Int→Int),∃M,(vM Lq l L own).1=L++M:=by
 intro l;induction l with
 | nil=>intro L own;exact ⟨[],(List.append_nil L).symm⟩
 | cons z l ih =>
  intro L own
  obtain ⟨x,e,L',hm⟩:∃x e L',make L { nodeOf Lq z with a:=own (nodeOf Lq z).a,b:=own (nodeOf Lq z).b }=(x,e,L'):=⟨_,_,_,rfl⟩
  rw [yS Lq z l L own rfl hm]
  split
  ·exact ⟨[],by simp⟩
  ·obtain ⟨M1,e1⟩:=jDH L { nodeOf Lq z with a:=own (nodeOf Lq z).a,b:=own (nodeOf Lq z).b }
   rw [hm] at e1
   obtain ⟨M2,e2⟩:=ih L' (fun y=>if y=z then x else own y)
   simp only at e1
   exact ⟨M1++M2,by rw [e2,e1,List.append_assoc]⟩
theorem jPI {Lq:Pool}:∀(l:List Int) (L:Pool) (own:Int→Int),Wf L→Wf (vM Lq l L own).1:=by
 intro l;induction l with
 | nil=>intro L own h;exact h
 | cons z l ih =>
  intro L own h
  obtain ⟨x,e,L',hm⟩:∃x e L',make L { nodeOf Lq z with a:=own (nodeOf Lq z).a,b:=own (nodeOf Lq z).b }=(x,e,L'):=⟨_,_,_,rfl⟩
  have hw:=jEG h { nodeOf Lq z with a:=own (nodeOf Lq z).a,b:=own (nodeOf Lq z).b }
  rw [yS Lq z l L own rfl hm]
  rw [hm] at hw
  split
  ·exact h
  ·exact ih _ _ hw
theorem jKL {Lq:Pool} {l post:List Int} {z:Int} {L:Pool} {own:Int→Int} (h0:(vM Lq l L own).2.1=0) {n:Node} (hn:{ nodeOf Lq z with a:=(vM Lq l L own).2.2 (nodeOf Lq z).a,b:=(vM Lq l L own).2.2 (nodeOf Lq z).b }=n) (he:(make (vM Lq l L own).1 n).2.1≠0) :
  (vM Lq (l++z :: post) L own).2.1=(make (vM Lq l L own).1 n).2.1:=by
 obtain ⟨x,e,L',hm⟩:∃x e L',make (vM Lq l L own).1 n=(x,e,L'):=⟨_,_,_,rfl⟩
 rw [hm] at he ⊢
 rw [jFS,if_neg (by rw [h0];exact fun h=>h rfl),yS Lq z post _ _ hn hm,if_pos he]
theorem jKK {Lq:Pool} {l:List Int} {z:Int} {L:Pool} {own:Int→Int} (h0:(vM Lq l L own).2.1=0) {n:Node} (hn:{ nodeOf Lq z with a:=(vM Lq l L own).2.2 (nodeOf Lq z).a,b:=(vM Lq l L own).2.2 (nodeOf Lq z).b }=n) (he:(make (vM Lq l L own).1 n).2.1=0) :
  vM Lq (l++[z]) L own=((make (vM Lq l L own).1 n).2.2,0,fun x=>if x=z then (make (vM Lq l L own).1 n).1 else (vM Lq l L own).2.2 x):=by
 obtain ⟨x,e,L',hm⟩:∃x e L',make (vM Lq l L own).1 n=(x,e,L'):=⟨_,_,_,rfl⟩
 rw [hm] at he ⊢
 rw [jFS,if_neg (by rw [h0];exact fun h=>h rfl),yS Lq z [] _ _ hn hm,if_neg (fun h=>h he)]
 rfl
end Go.Sp
namespace Go.Proofs
open Tryz
attribute [local irreducible] Calls CallsD
theorem jLK {w:World} {a:Addr} {k:Nat} {v:Value}:Ext (·=a.block) w (w.setCell (a.add k) v):=(Ext.setCell _ _).mono (fun i _ e=>by rw [zR] at e;exact e)
def ownM (M:List (Int×Int)) (x:Int):Int:=(SE.look M x).getD 0
def CoV (p2 p3 p4 p5 p6 p8:Addr) (mb:Nat) (F' FQ:NP) (b:Nat):Prop:=b=p2.block∨b=p3.block∨b=p4.block∨b=p5.block∨b=p6.block∨b=p8.block∨b=mb∨F' b∨FQ b
structure CoB (A:World) (p q p2 p3 p4 p5 p6 p8:Addr) (mb n:Nat):Prop where
 b2:Box A p2 [.pointer (some p)] 29
 b3:Box A p3 [.pointer (some q)] 29
 b4:Box A p4 [.int .i64 0] 23
 b5:Box A p5 [.int .i64 0] 33
 b6:Box A p6 [.int .i64 (n:Int)] 3
 b8:Box A p8 [.map (some mb)] 233
theorem CoB.ext {A A':World} {p q p2 p3 p4 p5 p6 p8:Addr} {mb n:Nat} {F' FQ G:NP} (h:CoB A p q p2 p3 p4 p5 p6 p8 mb n) (E:Ext G A A') (hG:∀b,(b=p2.block∨b=p3.block∨b=p4.block∨b=p5.block∨b=p6.block∨b=p8.block)→¬ G b):CoB A' p q p2 p3 p4 p5 p6 p8 mb n :=
 ⟨h.b2.ext E (hG _ (.inl rfl)),h.b3.ext E (hG _ (.inr (.inl rfl))),h.b4.ext E (hG _ (.inr (.inr (.inl rfl)))),h.b5.ext E (hG _ (.inr (.inr (.inr (.inl rfl))))),h.b6.ext E (hG _ (.inr (.inr (.inr (.inr (.inl rfl)))))),h.b8.ext E (hG _ (.inr (.inr (.inr (.inr (.inr rfl))))))⟩
theorem CoB.pure {A A':World} {p q p2 p3 p4 p5 p6 p8:Addr} {mb n:Nat} (h:CoB A p q p2 p3 p4 p5 p6 p8 mb n) (E:Pure A A'):CoB A' p q p2 p3 p4 p5 p6 p8 mb n:=h.ext (F':=None) (FQ:=None) E (fun _ _ h=>h)
theorem CoB.lt {A:World} {p q p2 p3 p4 p5 p6 p8:Addr} {mb n b:Nat} (h:CoB A p q p2 p3 p4 p5 p6 p8 mb n) (hb:b=p2.block∨b=p3.block∨b=p4.block∨b=p5.block∨b=p6.block∨b=p8.block):b<A.heap.size:=by
 rcases hb with rfl | rfl | rfl | rfl | rfl | rfl
 ·exact h.b2.lt
 ·exact h.b3.lt
 ·exact h.b4.lt
 ·exact h.b5.lt
 ·exact h.b6.lt
 ·exact h.b8.lt
theorem c_Copy (p q:Addr) (t:Int) (w0:World) {L Lq:Sp.Pool} {FP FQ:NP} (hW:Sp.Wf L) (hQ:Sp.Wf Lq) (hP:zS w0 p L FP) (hPQ:zS w0 q Lq FQ) (hd:∀b,FP b→¬ FQ b) :
  Calls prog 122 #[.pointer (some p),.pointer (some q),.int .i64 t] w0 (fun e w'=>∃r1 r2:Int,e=.returned (.tuple #[.int .i64 r1,.int .i64 r2])∧(r1=(uE L Lq t).1∧r2=(uE L Lq t).2.1∧∃F',zS w' p (uE L Lq t).2.2 F'∧Ext FP w0 w'∧∀b,F' b→FP b∨w0.heap.size≤b)):=by
 refine w_B5 _ _ _ w0 (fun r1 r2 w'=>r1=(uE L Lq t).1∧r2=(uE L Lq t).2.1∧∃F',zS w' p (uE L Lq t).2.2 F'∧Ext FP w0 w'∧∀b,F' b→FP b∨w0.heap.size≤b) ?_
 unfold m_B5
 intro p2 w1 n2 p3 w2 n3 p4 w3 n4 p5 w4 n5
 have E1:Pure w0 w1:=Ext.new n2
 have E2:Pure w1 w2:=Ext.new n3
 have E3:Pure w2 w3:=Ext.new n4
 have E4:Pure w3 w4:=Ext.new n5
 have B2:=(((Box.of_newA n2).pure E2).pure E3).pure E4
 have B3:=((Box.of_newA n3).pure E3).pure E4
 have B4:=(Box.of_newA n4).pure E4
 have B5:=Box.of_newA n5
 have b2:=n2.at_size;have b3:=n3.at_size;have b4:=n4.at_size;have b5:=n5.at_size
 have z1:=E1.size;have z2:=E2.size;have z3:=E3.size;have z4:=E4.size
 have l1:=(Box.of_newA n2).lt;have l2:=(Box.of_newA n3).lt;have l3:=(Box.of_newA n4).lt;have l4:=B5.lt
 have E04:Pure w0 w4:=((E1.trans E2).trans E3).trans E4
 refine ⟨some p,B2.cell0,fun hc=>(by cases hc),fun _=>⟨some q,B3.cell0,?_⟩⟩
 refine (c_in q t w4 (hPQ.pure E04)).mono ?_
 rintro _ _ ⟨_,rfl,rfl,rfl⟩
 refine ⟨_,rfl,Kept.refl _,fun hc=>?_,fun hc=>?_⟩
 ·have hin:Sp.inP Lq t=false:=by simpa using hc
  have e:uE L Lq t=(0,51,L):=by unfold uE;rw [if_neg (by rw [hin];simp)]
  rw [e]
  refine ⟨B4.canW0 (by simp),id,?_⟩
  rintro w8 e8
  have X8:Ext (·=p4.block) w4 w8:=by rw [e8];exact Ext.setCell _ _
  have B48:Box w8 p4 [.int .i64 0] 23:=by rw [e8];exact B4.set0
  have B58:=B5.ext X8 (by omega)
  refine ⟨B58.canW0 (by simp),id,?_⟩
  rintro w9 e9
  have X9:Ext (·=p5.block) w8 w9:=by rw [e9];exact Ext.setCell _ _
  have B59:Box w9 p5 [.int .i64 51] 33:=by rw [e9];exact B58.set0
  have B49:=B48.ext X9 (by omega)
  refine ⟨_,B49.cell0,_,B59.cell0,rfl,rfl,FP,((hP.pure E04).ext X8 (fun b hb e=>by have:=hP.lt hb;omega)).ext X9 (fun b hb e=>by have:=hP.lt hb;omega),Ext.pure ((E04.own (by omega) X8).own (by omega) X9),fun b hb=>.inl hb⟩
 have hin:Sp.inP Lq t=true:=by simpa using hc
 obtain ⟨sl,hsl,hsll⟩:∃v4:Sl,w4.cell? p=some v4.v∧v4.len=L.length:=by
  obtain ⟨s,m,h,_⟩:=hP.pure E04;exact ⟨s,h.box.cell0,by rw [h.rows.len,List.length_map]⟩
 refine ⟨some p,B2.cell0,p,rfl,sl,hsl,?_⟩
 rw [hsll]
 intro p6 w10 n6
 have E10:Pure w4 w10:=Ext.new n6
 have B6:=Box.of_newA n6
 have b6:=n6.at_size
 refine ⟨B6.canW0 (by simp),id,?_⟩
 rintro w11 e11
 have X11:Ext (·=p6.block) w10 w11:=by rw [e11];exact Ext.setCell _ _
 have B6':Box w11 p6 [.int .i64 (L.length:Int)] 3:=by rw [e11];exact B6.set0
 intro p7 w12 n7
 have E12:Pure w11 w12:=Ext.new n7
 have M7:=IMap.of_new (f:=fun i:Int=>.int .i64 i) n7
 have b7:=n7.at_size
 intro p8 w13 n8
 have E13:Pure w12 w13:=Ext.new n8
 have B8:=Box.of_newA n8
 have b8:=n8.at_size
 refine ⟨B8.canW0 (by simp),id,?_⟩
 rintro w14 e14
 have X14:Ext (·=p8.block) w13 w14:=by rw [e14];exact Ext.setCell _ _
 have B8':Box w14 p8 [.map (some p7.block)] 233:=by rw [e14];exact B8.set0
 have z10:=E10.size;have z11:=X11.size;have z12:=E12.size;have z13:=E13.size;have z14:=X14.size
 have l6:=B6'.lt;have l7:=M7.lt;have l8:=B8.lt
 have E07:Pure w0 w14:=((((E04.trans E10).own (by omega) X11).trans E12).trans E13).own (by omega) X14
 have up:∀{T:TypeId} {c:Addr} {vs:List Value},Box w4 c vs T→c.block≠p6.block→c.block≠p8.block→Box w14 c vs T:=fun h h1 h2=>((((h.pure E10).ext X11 h1).pure E12).pure E13).ext X14 h2
 have C14:CoB w14 p q p2 p3 p4 p5 p6 p8 p7.block L.length:=⟨up B2 (by omega) (by omega),up B3 (by omega) (by omega),up B4 (by omega) (by omega),up B5 (by omega) (by omega),((B6'.pure E12).pure E13).ext X14 (by omega),B8'⟩
 have M14:=(M7.pure E13).ext X14 (by omega)
 refine ⟨some q,C14.b3.cell0,?_⟩
 refine (jPV q t w14).mono ?_
 rintro _ w15 ⟨_,rfl,q2,q3,rfl,Bq2,Bq3,E15⟩
 have E015:=E07.trans E15
 have z15:=E15.size
 refine ⟨_,rfl,E15.keptP,_,_,rfl,call198,_,_,jKF hQ (hPQ.pure E015) Bq2 Bq3,?_⟩
 have hfew:=Sp.jAA hQ t
 have hlq:=hQ.ok.few
 have hsub:∀u∈Sp.subs Lq t,Sp.inP Lq u=true:=fun u hu=>jNW hQ hu
 have hnd:=Sp.jCB hQ t
 generalize hcs:uE L Lq t=cs at *
 have hcs':cs=if (vM Lq (Sp.subs Lq t) L (fun _=>0)).2.1≠0 then (0,(vM Lq (Sp.subs Lq t) L (fun _=>0)).2.1,L) else ((vM Lq (Sp.subs Lq t) L (fun _=>0)).2.2 t,0,(vM Lq (Sp.subs Lq t) L (fun _=>0)).1):=by rw [← hcs];unfold uE;rw [if_pos hin]
 have htin:t∈Sp.subs Lq t:=jKV hQ hin
 generalize Sp.subs Lq t=xs at *
 have C15:=C14.pure E15
 have M15:=M14.pure E15
 have o2:w0.heap.size≤p2.block:=by omega
 have o3:w0.heap.size≤p3.block:=by omega
 have o4:w0.heap.size≤p4.block:=by omega
 have o5:w0.heap.size≤p5.block:=by omega
 have o6:w0.heap.size≤p6.block:=by omega
 have o8:w0.heap.size≤p8.block:=by omega
 have om:w0.heap.size≤p7.block:=by omega
 have d45:p4.block≠p5.block:=by omega
 have dm:∀b,(b=p2.block∨b=p3.block∨b=p4.block∨b=p5.block∨b=p6.block∨b=p8.block)→b≠p7.block:=fun b hb=>by rcases hb with rfl | rfl | rfl | rfl | rfl | rfl <;> omega
 have ob:∀b,(b=p2.block∨b=p3.block∨b=p4.block∨b=p5.block∨b=p6.block∨b=p8.block∨b=p7.block)→w0.heap.size≤b∧b<w15.heap.size:=fun b hb=>by rcases hb with rfl | rfl | rfl | rfl | rfl | rfl | rfl <;> omega
 generalize p7.block=mb at *
 clear up B2 B3 B4 B5 B6 B6' B8 B8' M7 M14 C14 n2 n3 n4 n5 n6 n7 n8 X11 X14 E10 E12 E13 e11 e14 Bq2 Bq3 hsl
 have hPq:∀b,FQ b→b<w0.heap.size:=fun b hb=>hPQ.lt hb
 refine ⟨fun pre Y A=>∃(F':NP) (M:List (Int×Int)),(vM Lq pre L (fun _=>0)).2.1=0∧zS A p (vM Lq pre L (fun _=>0)).1 F'∧IMap (fun i:Int=>.int .i64 i) A mb M∧M.map Prod.fst=pre∧(∀x,(vM Lq pre L (fun _=>0)).2.2 x=ownM M x)∧CoB A p q p2 p3 p4 p5 p6 p8 mb L.length∧zS A q Lq FQ∧(∀b,F' b→FP b∨(w0.heap.size≤b∧¬ (b=p2.block∨b=p3.block∨b=p4.block∨b=p5.block∨b=p6.block∨b=p8.block∨b=mb)))∧(∀b,CoV p2 p3 p4 p5 p6 p8 mb F' FQ b→¬ Y b)∧Ext FP w0 A∧w15.heap.size≤A.heap.size,
  fun pre Y A=>∃(F':NP) (e:Int),cs=(0,e,L)∧zS A p L F'∧Box A p4 [.int .i64 0] 23∧Box A p5 [.int .i64 e] 33∧(∀b,F' b→FP b∨w0.heap.size≤b)∧(∀b,(b=p4.block∨b=p5.block∨F' b)→¬ Y b)∧Ext FP w0 A,⟨fun _ _ _ _=>trivial,?_,fun _ _ _ _ _ h=>h.elim,?_⟩,?_,?_,?_,?_⟩
 ·rintro pre Y A Y' A' ⟨F',M,g1,g2,g3,g4,g5,g6,g7,g8,g9,g10,g11⟩ hst
  have hv:∀b,CoV p2 p3 p4 p5 p6 p8 mb F' FQ b→¬ Y' b:=hst.disj (fun b hb=>⟨by
   rcases hb with hb | hb | hb | hb | hb | hb | hb | hb | hb
   ·exact g6.lt (.inl hb)
   ·exact g6.lt (.inr (.inl hb))
   ·exact g6.lt (.inr (.inr (.inl hb)))
   ·exact g6.lt (.inr (.inr (.inr (.inl hb))))
   ·exact g6.lt (.inr (.inr (.inr (.inr (.inl hb)))))
   ·exact g6.lt (.inr (.inr (.inr (.inr (.inr hb)))))
   ·exact hb▸g3.lt
   ·exact g2.lt hb
   ·exact g7.lt hb,g9 b hb⟩)
  exact ⟨F',M,g1,g2.ext hst.ext (fun b hb=>hv b (.inr (.inr (.inr (.inr (.inr (.inr (.inr (.inl hb))))))))),g3.ext hst.ext (hv _ (.inr (.inr (.inr (.inr (.inr (.inr (.inl rfl)))))))),g4,g5,g6.ext (F':=F') (FQ:=FQ) hst.ext (fun b hb=>hv b (by rcases hb with h | h | h | h | h | h <;> simp only [CoV,h,true_or,or_true])),g7.ext hst.ext (fun b hb=>hv b (.inr (.inr (.inr (.inr (.inr (.inr (.inr (.inr hb))))))))),g8,hv,g10.hst hst,Nat.le_trans g11 hst.ext.size⟩
 ·rintro pre Y A Y' A' ⟨F',e,g1,g2,g3,g4,g5,g6,g7⟩ hst
  have hv:∀b,(b=p4.block∨b=p5.block∨F' b)→¬ Y' b:=hst.disj (fun b hb=>⟨by
   rcases hb with hb | hb | hb
   ·exact hb▸g3.lt
   ·exact hb▸g4.lt
   ·exact g2.lt hb,g6 b hb⟩)
  exact ⟨F',e,g1,g2.ext hst.ext (fun b hb=>hv b (.inr (.inr hb))),g3.ext hst.ext (hv _ (.inl rfl)),g4.ext hst.ext (hv _ (.inr (.inl rfl))),g5,hv,g7.hst hst⟩
 ·exact ⟨FP,[],rfl,hP.pure E015,M15,rfl,fun _=>rfl,C15,hPQ.pure E015,fun b hb=>.inl hb,fun _ _ h=>h,Ext.pure E015,Nat.le_refl _⟩
 ·rintro pre z Y A ⟨F',M,g1,g2,g3,g4,g5,g6,g7,g8,g9,g10,g11⟩ hsA ⟨post,hpost⟩
  have hzin:Sp.inP Lq z=true:=hsub z (by rw [hpost];simp)
  have hzn:z ∉ pre:=by
   rw [hpost] at hnd;have:=(List.nodup_append.1 hnd).2.2;exact fun h=>this z h z (by simp) rfl
  generalize hcg:vM Lq pre L (fun _=>0)=cg at *
  have hok:Sp.Ok cg.1:=by rw [← hcg];exact (Sp.jPI pre L _ hW).ok
  have hA0:=hsA.lt
  refine ⟨some q,g6.b3.cell0,?_⟩
  refine (jFU q z A g7 hQ.ok).mono ?_
  rintro _ w16 ⟨k,f,t',u,x,a,b,r3,rfl,⟨hn,_⟩,E16⟩
  have z16:=E16.size
  refine ⟨_,_,_,_,_,_,_,_,rfl,E16.kept (fun b hb=>hb.elim),?_⟩
  intro p9 w17 n9
  have E17:Pure w16 w17:=Ext.new n9
  have B9:=Box.of_newA n9
  have b9:=n9.at_size
  have z17:=E17.size
  refine ⟨B9.canWs (by simp),id,?_⟩
  rintro w18 e18
  have X18:Ext (·=p9.block) w17 w18:=by rw [e18];exact Ext.storeRow _ _ _
  have B18:Box w18 p9 (xD ⟨k,f,t',u,x,a,b⟩) 103:=by rw [e18];exact B9.store rfl
  have z18:=X18.size
  have l9:=B18.lt
  have keep:∀{G:NP} {w':World},Ext G A w'→(∀b,b<A.heap.size→¬ G b)→IMap (fun i:Int=>.int .i64 i) w' mb M∧CoB w' p q p2 p3 p4 p5 p6 p8 mb L.length∧zS w' q Lq FQ∧zS w' p cg.1 F':=fun {G w'} E hG =>
   ⟨g3.ext E (hG _ g3.lt),g6.ext (F':=F') (FQ:=FQ) E (fun b hb=>hG b (g6.lt hb)),g7.ext E (fun b hb=>hG b (g7.lt hb)),g2.ext E (fun b hb=>hG b (g2.lt hb))⟩
  have E18:Ext (·=p9.block) A w18:=(Ext.pure (E16.trans E17)).trans X18
  have hg9:∀b,b<A.heap.size→¬ (b=p9.block):=fun b hb e=>by omega
  have look:∀{w':World},IMap (fun i:Int=>.int .i64 i) w' mb M→∀y,(Instr.lookup 233 (.map (some mb)) (.int .i64 y) false).run prog w'=.ok (.int .i64 (cg.2.2 y)) w':=fun {w'} h y=>by
   rw [g5 y];rcases h.get (P:=prog) (T:=233) underlying233 underlying23 (zeroValue23 _) y false with ⟨hn,hr⟩ | ⟨v,hv,hr⟩
   ·unfold ownM;rw [hn];exact hr
   ·unfold ownM;rw [hv];exact hr
  refine ⟨fun w'=>w'.cell? p8=some (.map (some mb))∧IMap (fun i:Int=>.int .i64 i) w' mb M,?_,?_⟩
  ·obtain ⟨k1,k2,_,_⟩:=keep (E18.thenPure (Ext.drew w18)) hg9
   exact ⟨k2.b8.cell0,k1⟩
  rintro w19 e19
  have E19:Ext (·=p9.block) A w19:=by rw [e19];exact E18.thenPure (Ext.drew w18)
  have B19:Box w19 p9 (xD ⟨k,f,t',u,x,a,b⟩) 103:=by rw [e19];exact B18.pure (Ext.drew w18)
  obtain ⟨k1,k2,k3,k4⟩:=keep E19 hg9
  refine ⟨some mb,k2.b8.cell0,a,B19.cell (i:=5) rfl,_,look k1 a,some mb,fun w' h=>h.1,b,B19.cell (i:=6) rfl,_,fun w' h=>look h.2 b,B19.canW (i:=5) (by simp [xD]),id,?_⟩
  rintro w20 e20
  have X20:Ext (·=p9.block) w19 w20:=by rw [e20];exact jLK
  have B20:Box w20 p9 (xD ⟨k,f,t',u,x,cg.2.2 a,b⟩) 103:=by rw [e20];exact B19.set 5 _
  have E20:=E19.trans X20
  obtain ⟨k1',k2',_,_⟩:=keep E20 hg9
  refine ⟨⟨k2'.b8.cell0,k1'⟩,B20.canW (i:=6) (by simp [xD]),id,?_⟩
  rintro w21 e21
  have X21:Ext (·=p9.block) w20 w21:=by rw [e21];exact jLK
  have B21:Box w21 p9 (xD ⟨k,f,t',u,x,cg.2.2 a,cg.2.2 b⟩) 103:=by rw [e21];exact B20.set 6 _
  have E21:=E20.trans X21
  obtain ⟨m1,m2,m3,m4⟩:=keep E21 hg9
  have z21:=E21.size
  refine ⟨some p,m2.b2.cell0,k,f,t',u,x,cg.2.2 a,cg.2.2 b,B21.row,?_⟩
  have hnn:({ Sp.nodeOf Lq z with a:=cg.2.2 (Sp.nodeOf Lq z).a,b:=cg.2.2 (Sp.nodeOf Lq z).b }:Sp.Node)=⟨k,f,t',u,x,cg.2.2 a,cg.2.2 b⟩:=by rw [← hn]
  refine (jPX p k f t' u x (cg.2.2 a) (cg.2.2 b) w21 m4 hok).mono ?_
  rintro _ w22 ⟨r4,r5,rfl,he,F2,hP2,E22,hF2⟩
  have he1:=congrArg Prod.fst he
  have he2:=congrArg Prod.snd he
  simp only at he1 he2
  have z22:=E22.size
  have hF'o:∀b,F' b→¬ (b=p2.block∨b=p3.block∨b=p4.block∨b=p5.block∨b=p6.block∨b=p8.block∨b=mb):=fun b hb hh=>(g8 b hb).elim (fun h=>by have:=hP.lt h;have:=(ob b hh).1;omega) (fun h=>h.2 hh)
  have n22:CoB w22 p q p2 p3 p4 p5 p6 p8 mb L.length:=m2.ext (F':=F') (FQ:=FQ) E22 (fun b hb hh=>hF'o b hh (by rcases hb with h | h | h | h | h | h <;> simp only [h,true_or,or_true]))
  have M22:=m1.ext E22 (fun hh=>hF'o _ hh (by simp))
  have Q22:=m3.ext E22 (fun b hb hh=>(g8 b hh).elim (fun h=>hd b h hb) (fun h=>by have:=hPq b hb;omega))
  have kY:Kept Y A w22:=(E21.kept (fun b hb e=>by have:=hA0 b hb;omega)).trans (E22.kept (fun b hb hh=>g9 b (.inr (.inr (.inr (.inr (.inr (.inr (.inr (.inl hh)))))))) hb))
  have E022:Ext FP w0 w22:=(g10.trans' E21 (fun i hi e=>by have:=g10.size;omega)).trans' E22 (fun i hi hh=>(g8 i hh).elim id (fun h=>by omega))
  have hF2o:∀b,F2 b→FP b∨(w0.heap.size≤b∧¬ (b=p2.block∨b=p3.block∨b=p4.block∨b=p5.block∨b=p6.block∨b=p8.block∨b=mb)):=fun b hb=>(hF2 b hb).elim (g8 b) (fun h=>.inr ⟨by have:=g10.size;omega,fun hh=>by have:=(ob b hh).2;omega⟩)
  have hF2Y:∀b,F2 b→¬ Y b:=fun b hb hY=>(hF2 b hb).elim (fun h=>g9 b (.inr (.inr (.inr (.inr (.inr (.inr (.inr (.inl h)))))))) hY) (fun h=>by have:=hA0 b hY;omega)
  refine ⟨r4,r5,rfl,E22.kept (fun b hb=>hb.elim),fun hc=>?_,fun hc=>?_⟩
  ·have h5:(Sp.make cg.1 ⟨k,f,t',u,x,cg.2.2 a,cg.2.2 b⟩).2.1≠0:=by rw [← he2];exact bne_iff_ne.1 hc
   have hfail:=@Sp.jKL Lq pre post z L (fun _=>0) (by rw [hcg];exact g1) ⟨k,f,t',u,x,cg.2.2 a,cg.2.2 b⟩ (by rw [hcg];exact hnn) (by rw [hcg];exact h5)
   rw [← hpost,hcg,← he2] at hfail
   have hcs2:cs=(0,r5,L):=by rw [hcs',hfail,if_pos (by rw [he2];exact h5)]
   refine ⟨some p,n22.b2.cell0,_,n22.b6.cell0,?_⟩
   obtain ⟨Mg,hMg⟩:=Sp.jIL Lq pre L (fun _=>0)
   rw [hcg] at hMg
   have hmk:∃M2,(Sp.make cg.1 ⟨k,f,t',u,x,cg.2.2 a,cg.2.2 b⟩).2.2=cg.1++M2:=Sp.jDH _ _
   obtain ⟨M2,hM2⟩:=hmk
   rw [hM2,hMg,List.append_assoc] at hP2
   have hok2:Sp.Ok (L++(Mg++M2)):=by rw [← List.append_assoc,← hMg,← hM2];exact Sp.jKB hok _
   refine (c_cut p L.length w22 hP2 hok2 (by rw [List.length_append];omega)).mono ?_
   rintro _ w23 ⟨rfl,hP3,E23⟩
   rw [List.take_left] at hP3
   have n23:CoB w23 p q p2 p3 p4 p5 p6 p8 mb L.length:=n22.ext (F':=F') (FQ:=FQ) E23 (fun b hb hh=>(hF2o b hh).elim (fun h=>by have:=hP.lt h;have:=(ob b (by rcases hb with h | h | h | h | h | h <;> simp only [h,true_or,or_true])).1;omega) (fun h=>h.2 (by rcases hb with h | h | h | h | h | h <;> simp only [h,true_or,or_true])))
   refine ⟨rfl,E23.kept (fun b hb=>hb.elim),n23.b4.canW0 (by simp),id,?_⟩
   rintro w24 e24
   have X24:Ext (·=p4.block) w23 w24:=by rw [e24];exact Ext.setCell _ _
   have B24:Box w24 p4 [.int .i64 0] 23:=by rw [e24];exact n23.b4.set0
   have B25:=n23.b5.ext X24 (fun e=>d45 e.symm)
   refine ⟨B25.canW0 (by simp),id,?_⟩
   rintro w25 e25
   have X25:Ext (·=p5.block) w24 w25:=by rw [e25];exact Ext.setCell _ _
   have B25':Box w25 p5 [.int .i64 r5] 33:=by rw [e25];exact B25.set0
   have nF:∀b,F2 b→b≠p4.block∧b≠p5.block:=fun b hb=>(hF2o b hb).elim (fun h=>by have:=hP.lt h;omega) (fun h=>⟨fun e=>h.2 (.inr (.inr (.inl e))),fun e=>h.2 (.inr (.inr (.inr (.inl e))))⟩)
   have nY4:¬ Y p4.block:=g9 _ (.inr (.inr (.inl rfl)))
   have nY5:¬ Y p5.block:=g9 _ (.inr (.inr (.inr (.inl rfl))))
   refine ⟨((kY.trans (E23.kept (fun b hb hh=>hF2Y b hh hb))).trans (X24.kept (fun b hb e=>nY4 (e▸hb)))).trans (X25.kept (fun b hb e=>nY5 (e▸hb))),F2,r5,hcs2,(hP3.ext X24 (fun b hb e=>(nF b hb).1 e)).ext X25 (fun b hb e=>(nF b hb).2 e),B24.ext X25 d45,B25',fun b hb=>(hF2o b hb).imp id (fun h=>h.1),?_,((E022.trans' E23 (fun i hi hh=>(hF2o i hh).elim id (fun h=>by omega))).trans' X24 (fun i hi e=>by omega)).trans' X25 (fun i hi e=>by omega)⟩
   rintro b (rfl | rfl | hb)
   ·exact nY4
   ·exact nY5
   ·exact hF2Y b hb
  ·have h5:(Sp.make cg.1 ⟨k,f,t',u,x,cg.2.2 a,cg.2.2 b⟩).2.1=0:=by rw [← he2];simpa using hc
   have hnext:=@Sp.jKK Lq pre z L (fun _=>0) (by rw [hcg];exact g1) ⟨k,f,t',u,x,cg.2.2 a,cg.2.2 b⟩ (by rw [hcg];exact hnn) (by rw [hcg];exact h5)
   rw [hcg,← he1] at hnext
   have hlk:SE.look M z=none:=xZ.2 (by rw [g4];exact hzn)
   obtain ⟨w26,hr26,hM26,X26⟩:=M22.put (P:=prog) (T:=233) underlying233 underlying23 hlk r4
   have nm:∀b,F2 b→b≠mb:=fun b hb=>(hF2o b hb).elim (fun h=>by have:=hP.lt h;have:=(ob mb (by simp)).1;omega) (fun h e=>h.2 (by simp [e]))
   have nYm:¬ Y mb:=g9 _ (.inr (.inr (.inr (.inr (.inr (.inr (.inl rfl)))))))
   have hmbo:=(ob mb (by simp)).1
   refine ⟨some mb,n22.b8.cell0,w26,hr26,X26.kept (fun b hb=>hb.elim),kY.trans (X26.kept (fun b hb e=>nYm (e▸hb))),F2,M++[(z,r4)],by rw [hnext],by rw [hnext];exact hP2.ext X26 (fun b hb e=>nm b hb e),hM26,by simp [g4],?_,n22.ext (F':=F') (FQ:=FQ) X26 (fun b hb e=>dm b hb e),Q22.ext X26 (fun b hb e=>by have:=hPq b hb;omega),hF2o,?_,E022.trans' X26 (fun i hi e=>by omega),by have:=X26.size;omega⟩
   ·intro y
    rw [hnext]
    simp only
    unfold ownM
    rw [jOS (by rw [g4];exact hzn)]
    by_cases e:y=z
    ·rw [if_pos e,if_pos e.symm];rfl
    ·rw [if_neg e,if_neg (fun h=>e h.symm)];exact g5 y
   ·rintro b (hb | hb | hb | hb | hb | hb | hb | hb | hb)
    ·exact g9 b (.inl hb)
    ·exact g9 b (.inr (.inl hb))
    ·exact g9 b (.inr (.inr (.inl hb)))
    ·exact g9 b (.inr (.inr (.inr (.inl hb))))
    ·exact g9 b (.inr (.inr (.inr (.inr (.inl hb)))))
    ·exact g9 b (.inr (.inr (.inr (.inr (.inr (.inl hb))))))
    ·exact g9 b (.inr (.inr (.inr (.inr (.inr (.inr (.inl hb)))))))
    ·exact hF2Y b hb
    ·exact g9 b (.inr (.inr (.inr (.inr (.inr (.inr (.inr (.inr hb))))))))
 ·rintro H1 w27 hs27 _ _ ⟨F',M,g1,g2,g3,g4,g5,g6,g7,g8,g9,g10,g11⟩
  have hcs2:cs=((vM Lq xs L (fun _=>0)).2.2 t,0,(vM Lq xs L (fun _=>0)).1):=by rw [hcs',if_neg (by simpa using g1)]
  have hlk:(Instr.lookup 233 (.map (some mb)) (.int .i64 t) false).run prog w27=.ok (.int .i64 ((vM Lq xs L (fun _=>0)).2.2 t)) w27:=by
   rw [g5 t];rcases g3.get (P:=prog) (T:=233) underlying233 underlying23 (zeroValue23 _) t false with ⟨hn,hr⟩ | ⟨v,hv,hr⟩
   ·unfold ownM;rw [hn];exact hr
   ·unfold ownM;rw [hv];exact hr
  generalize hcg:vM Lq xs L (fun _=>0)=cg at *
  have nY4:¬ H1 p4.block:=g9 _ (.inr (.inr (.inl rfl)))
  have nY5:¬ H1 p5.block:=g9 _ (.inr (.inr (.inr (.inl rfl))))
  refine ⟨some mb,g6.b8.cell0,_,hlk,g6.b4.canW0 (by simp),nY4,?_⟩
  rintro w28 e28
  have X28:Ext (·=p4.block) w27 w28:=by rw [e28];exact Ext.setCell _ _
  have B28:Box w28 p4 [.int .i64 (cg.2.2 t)] 23:=by rw [e28];exact g6.b4.set0
  have B28':=g6.b5.ext X28 (fun e=>d45 e.symm)
  refine ⟨B28'.canW0 (by simp),nY5,?_⟩
  rintro w29 e29
  have X29:Ext (·=p5.block) w28 w29:=by rw [e29];exact Ext.setCell _ _
  have B29:Box w29 p5 [.int .i64 0] 33:=by rw [e29];exact B28'.set0
  have B29':=B28.ext X29 d45
  intro w30 hs30
  have nF:∀b,F' b→b≠p4.block∧b≠p5.block:=fun b hb=>(g8 b hb).elim (fun h=>by have:=hP.lt h;omega) (fun h=>⟨fun e=>h.2 (.inr (.inr (.inl e))),fun e=>h.2 (.inr (.inr (.inr (.inl e))))⟩)
  refine ⟨_,(B29'.ext hs30.ext nY4).cell0,_,(B29.ext hs30.ext nY5).cell0,?_⟩
  rw [hcs2]
  refine ⟨rfl,rfl,F',((g2.ext X28 (fun b hb e=>(nF b hb).1 e)).ext X29 (fun b hb e=>(nF b hb).2 e)).ext hs30.ext (fun b hb=>g9 b (.inr (.inr (.inr (.inr (.inr (.inr (.inr (.inl hb))))))))),((g10.trans' X28 (fun i hi e=>by omega)).trans' X29 (fun i hi e=>by omega)).hst hs30,fun b hb=>(g8 b hb).imp id (fun h=>h.1)⟩
 ·rintro pre H2 w32 hs32 ⟨F',e,g1,g2,g3,g4,g5,g6,g7⟩
  refine ⟨_,g3.cell0,_,g4.cell0,?_⟩
  rw [g1]
  exact ⟨rfl,rfl,F',g2,g7,g5⟩
end Go.Proofs
end
section
open Go Go.SE
namespace Go.Proofs
open Tryz
attribute [local irreducible] Calls CallsD
theorem jSF {S0:NP} (p:Addr) (sb:Sl) (bs:List UInt8) (w0:World) {L:Sp.Pool} {FP:NP} (hW:Sp.Wf L) (hP:zS w0 p L FP) (hs:Lst S0 w0 1 sb (byr bs)) (hz:sb.a=none→sb=Sl.nil) :
  Calls prog 68 #[.pointer (some p),sb.v] w0 (fun e w'=>∃t x y:Int,e=.returned (.tuple #[.int .i64 t,.int .i64 x,.int .i64 y])∧(t=(jGV L bs).1∧x=(jGV L bs).2.1∧y=((jGV L bs).2.2.1:Int)∧∃F',zS w' p (jGV L bs).2.2.2 F'∧Ext FP w0 w'∧∀b,F' b→FP b∨w0.heap.size≤b)):=by
 refine w_G4 _ _ w0 (fun t x y w'=>t=(jGV L bs).1∧x=(jGV L bs).2.1∧y=((jGV L bs).2.2.1:Int)∧∃F',zS w' p (jGV L bs).2.2.2 F'∧Ext FP w0 w'∧∀b,F' b→FP b∨w0.heap.size≤b) ?_
 unfold m_G4
 refine ⟨fun hc=>(by cases hc),fun _=>?_⟩
 refine (c_read sb bs w0 hs hz).mono ?_
 rintro _ w1 ⟨x,y,z,rfl,hy,hz',hout,E1⟩
 refine ⟨_,_,_,rfl,?_⟩
 cases hq:(qF bs).1 with
 | none =>
  have hd:jGV L bs=(0,(qF bs).2.1,(qF bs).2.2,L):=by unfold jGV;rw [hq]
  have he:y≠0:=by rw [hy];exact Sp.jMJ hq
  refine ⟨fun _=>?_,fun hc=>absurd (by simpa using hc) he⟩
  rw [hd]
  exact ⟨rfl,hy,hz',FP,hP.pure E1,Ext.pure E1,fun b hb=>.inl hb⟩
 | some q =>
  obtain ⟨a,F,rfl,hPq,hF⟩:=hout.pool hq
  obtain ⟨g1,_,g3,_⟩:=Sp.jFI hq
  have h0:=Sp.jOI hq
  have hd:jGV L bs=((uE L q q.length).1,(uE L q q.length).2.1,0,(uE L q q.length).2.2):=by unfold jGV;rw [hq]
  rw [h0] at hy
  refine ⟨fun hc=>absurd hy (by simpa using hc),fun _=>?_⟩
  refine (jAE a w1 hPq).mono ?_
  rintro _ w2 ⟨_,rfl,rfl,rfl⟩
  refine ⟨_,rfl,?_⟩
  refine (c_Copy p a q.length w2 hW g1 (hP.pure E1) hPq (fun b hb hh=>by have:=hP.lt hb;have:=hF b hh;omega)).mono ?_
  rintro _ w3 ⟨r1,r2,rfl,h1,h2,F',hP',E3,hF'⟩
  refine ⟨_,_,rfl,?_⟩
  rw [hd]
  exact ⟨h1,h2,rfl,F',hP',(Ext.pure E1).trans E3,fun b hb=>(hF' b hb).imp id (fun h=>by have:=E1.size;omega)⟩
end Go.Proofs
end
section
open Go Go.SE
namespace Go.Sp
open Go.Proofs
end Go.Sp
namespace Go.Proofs
open Tryz
attribute [local irreducible] Calls CallsD
theorem jSG {w:World} {s:Sl} {bs:List UInt8} {S:NP} (h:Lst S w 1 s (byr bs)):(convert 54 9 s.v).run prog w=.ok (.string ⟨bs.toArray⟩) w :=
 jOD underlying54 underlying5 underlying9 h
end Go.Proofs
end
section
open Go Go.SE
namespace Go.Proofs
open Tryz
attribute [local irreducible] Calls CallsD
structure RfS (S:NP) (w:World) (a:Addr) (s:Sl) (bs:List UInt8) (r:Rd):Prop where
 box:Box w a [s.v,.int .i64 (r.at_:Int),.int .i64 (r.err:Int),.int .i64 (r.spot:Int)] 237
 lst:Lst S w 1 s (byr bs)
 apart:∀b,S b→b≠a.block
 small:bs.length≤100000000
 room:s.len≤s.cap
section
variable {S:NP} {w w':World} {a:Addr} {s:Sl} {bs:List UInt8} {r:Rd}
theorem RfS.ext {F:NP} (h:RfS S w a s bs r) (E:Ext F w w') (hF:∀b,(b=a.block∨S b)→¬ F b):RfS S w' a s bs r :=
 ⟨h.box.ext E (hF _ (.inl rfl)),h.lst.ext E (fun b hb=>hF b (.inr hb)),h.apart,h.small,h.room⟩
theorem RfS.pure (h:RfS S w a s bs r) (E:Pure w w'):RfS S w' a s bs r:=h.ext E (fun _ _ h=>h)
theorem RfS.atC (h:RfS S w a s bs r):w.cell? (a.add 1)=some (.int .i64 (r.at_:Int)):=h.box.cell (i:=1) rfl
theorem RfS.errC (h:RfS S w a s bs r):w.cell? (a.add 2)=some (.int .i64 (r.err:Int)):=h.box.cell (i:=2) rfl
theorem RfS.len (h:RfS S w a s bs r):s.len=bs.length:=by rw [h.lst.len,vR]
theorem RfS.setAt (h:RfS S w a s bs r) (k:Nat):RfS S (w.setCell (a.add 1) (.int .i64 (k:Int))) a s bs ⟨k,r.err,r.spot⟩ :=
 ⟨h.box.set 1 _,h.lst.ext (Ext.setCell _ _) (fun b hb e=>h.apart b hb (by rw [zR] at e;exact e)),h.apart,h.small,h.room⟩
theorem RfS.setErr (h:RfS S w a s bs r) (k:Nat):RfS S (w.setCell (a.add 2) (.int .i64 (k:Int))) a s bs ⟨r.at_,k,r.spot⟩ :=
 ⟨h.box.set 2 _,h.lst.ext (Ext.setCell _ _) (fun b hb e=>h.apart b hb (by rw [zR] at e;exact e)),h.apart,h.small,h.room⟩
theorem RfS.setSpot (h:RfS S w a s bs r) (k:Nat):RfS S (w.setCell (a.add 3) (.int .i64 (k:Int))) a s bs ⟨r.at_,r.err,k⟩ :=
 ⟨h.box.set 3 _,h.lst.ext (Ext.setCell _ _) (fun b hb e=>h.apart b hb (by rw [zR] at e;exact e)),h.apart,h.small,h.room⟩
end
section
variable {S:NP} (a:Addr) (s:Sl) (bs:List UInt8) (r:Rd) (w0:World)
theorem jUG (h:RfS S w0 a s bs r) (he:r.err=0) (e x:Nat) :
  Calls prog 242 #[.pointer (some a),.int .i64 e,.int .i64 x] w0 (fun en w'=>en=.returned (.tuple #[])∧(RfS S w' a s bs ⟨r.at_,e,x⟩∧Ext (·=a.block) w0 w')):=by
 refine w_H4 (some a) _ _ w0 (fun w'=>RfS S w' a s bs ⟨r.at_,e,x⟩∧Ext (·=a.block) w0 w') ?_
 unfold m_H4
 refine ⟨a,rfl,_,h.errC,fun _=>⟨a,rfl,h.box.canW (i:=2) (by simp),?_⟩,fun hc=>absurd (by rw [he];rfl) (beq_eq_false_iff_ne.1 hc)⟩
 rintro w1 rfl
 have h1:=h.setErr e
 refine ⟨a,rfl,h1.box.canW (i:=3) (by simp),?_⟩
 rintro w2 rfl
 exact ⟨h1.setSpot x,qP.trans qP⟩
theorem jQP {P:Program} {t:TypeId} {w:World} (x k:Nat) (hk:k<64) (h:x*2 ^ k<18446744073709551616):(Go.binOp .shl t (.int .u64 (x:Int)) (.int .u64 (k:Int))).run P w=.ok (.int .u64 ((x*2 ^ k:Nat):Int)) w:=by
 have hr:IntKind.u64.wrap ((x:Int)*2 ^ min (k:Int).toNat IntKind.u64.bits)=((x*2 ^ k:Nat):Int):=by
  have:min (k:Int).toNat IntKind.u64.bits=k:=by simp [IntKind.bits];omega
  rw [this,← vX h];simp
 have h0:¬ ((k:Int)<0):=by omega
 show (Op.shift .shl .u64 (x:Int) .u64 (k:Int)).run P w=_;unfold Op.shift;rw [if_neg h0];show ((pure (Value.int .u64 (IntKind.u64.wrap ((x:Int)*2 ^ min (k:Int).toNat IntKind.u64.bits))):Sem Value)).run P w=_;rw [hr];rfl
theorem jQQ {P:Program} {t:TypeId} {w:World} (c:Nat) (h:c<256):(Go.binOp .rem t (.int .u8 (c:Int)) (.int .u8 128)).run P w=.ok (.int .u8 ((c % 128:Nat):Int)) w:=by
 have e1:((c:Int).tmod 128)=((c % 128:Nat):Int):=by rw [Int.tmod_eq_emod_of_nonneg (by omega)];omega
 simp [Go.binOp,Op.intDiv,e1]
theorem c_rNum (h:RfS S w0 a s bs r) (hat:r.at_≤bs.length) (hS:∀b,(b=a.block∨S b)→b<w0.heap.size) :
  Calls prog 219 #[.pointer (some a)] w0 (fun e w'=>∃x:Int,e=.returned (.int .u64 x)∧(x=((qM bs r).1:Int)∧RfS S w' a s bs (qM bs r).2∧Ext (·=a.block) w0 w')):=by
 refine w_U1 (some a) w0 (fun x w'=>x=((qM bs r).1:Int)∧RfS S w' a s bs (qM bs r).2∧Ext (·=a.block) w0 w') ?_
 unfold m_U1
 have hsm:=h.small
 refine ⟨a,rfl,_,h.errC,fun hc=>?_,fun hc=>?_⟩
 ·have he:r.err≠0:=by have:=bne_iff_ne.1 hc;omega
  have hr:qM bs r=(0,r):=by unfold qM;rw [if_neg he]
  rw [hr];exact ⟨rfl,h,Ext.refl _⟩
 have he:r.err=0:=by
  have:((r.err:Int) != 0)=false:=hc;simpa using this
 have bad : ∀ (x : Nat) (H : NP) (w : World), (∀ b, (b = a.block ∨ S b) → ¬ H b) → RfS S w a s bs r → Ext (· = a.block) w0 w → uX 0 0 (bs.drop r.at_) = .error x →
   Calls prog 242 #[.pointer (some a),.int .i64 x,.int .i64 (r.at_:Int)] w (fun e w'=>e=.returned (.tuple #[])∧Kept H w w'∧((0:Int)=((qM bs r).1:Int)∧RfS S w' a s bs (qM bs r).2∧Ext (·=a.block) w0 w')):=by
  intro x H w hv hR hE hrd
  have hr:qM bs r=(0,⟨r.at_,x,r.at_⟩):=by unfold qM;rw [if_pos he,hrd]
  refine (jUG a s bs r w hR he x r.at_).mono ?_
  rintro _ w' ⟨rfl,hR',X⟩
  rw [hr]
  exact ⟨rfl,X.kept (fun b hb e=>hv _ (.inl rfl) (e▸hb)),rfl,hR',hE.trans X⟩
 refine ⟨fun n i Hl w=>∃acc k:Nat,n=(acc:Int)∧i=(k:Int)∧k≤9∧acc<2 ^ (7*k)∧r.at_+k≤bs.length∧uX k acc (bs.drop (r.at_+k))=uX 0 0 (bs.drop r.at_)∧RfS S w a s bs r∧(∀b,(b=a.block∨S b)→¬ Hl b)∧Pure w0 w,fun _ i _=>(10 - i).toNat,⟨0,0,rfl,rfl,by omega,by simp,by simpa using hat,rfl,h,fun _ _ h=>h,Ext.refl _⟩,?_⟩
 rintro _ _ Hl wl hl ⟨acc,k,rfl,rfl,hk,hacc,hle,hrd,hR,hv,hE⟩
 unfold m_U1_l1
 have hSl:∀{w:World},Pure w0 w→∀b,(b=a.block∨S b)→b<w.heap.size:=fun E b hb=>by have:=hS b hb;have:=E.size;omega
 refine ⟨a,rfl,fun w1 hs1=>?_⟩
 have R1:=hR.ext hs1.ext (hs1.disj (fun b hb=>⟨hSl hE b hb,hv b hb⟩))
 have E1:=hE.hst hs1
 have hwk:IntKind.i64.wrap ((r.at_:Int)+(k:Int))=((r.at_+k:Nat):Int):=by rw [IntWalk.i64_in _ (by omega)];omega
 refine ⟨_,R1.atC,a,rfl,s,R1.box.cell0,fun hc=>?_,fun hc=>?_⟩
 ·have hge:r.at_+k=bs.length:=by rw [hwk] at hc;have:=of_decide_eq_true hc;have:=R1.len;omega
  refine ⟨a,rfl,_,R1.atC,?_⟩
  exact bad 3 Hl w1 hv R1 (Ext.pure E1) (by rw [← hrd,hge,List.drop_length];rfl)
 ·have hlt:r.at_+k<bs.length:=by rw [hwk] at hc;have:=of_decide_eq_false hc;have:=R1.len;omega
  refine ⟨a,rfl,fun w3 hs3=>?_⟩
  have R3:=R1.ext hs3.ext (hs3.disj (fun b hb=>⟨hSl E1 b hb,hv b hb⟩))
  have E3:=E1.hst hs3
  obtain ⟨a7,hat7,_,hv7⟩:=jLS R3.lst hlt
  have hdrop:bs.drop (r.at_+k)=bs[r.at_+k] :: bs.drop (r.at_+k+1):=List.drop_eq_getElem_cons hlt
  refine ⟨s,R3.box.cell0,a,rfl,_,R3.atC,a7,by rw [hwk];exact hat7,_,hv7,?_⟩
  generalize bs[r.at_+k]=c at *
  have hc256:=c.toNat_lt
  rw [hdrop,xX] at hrd
  have visH:∀{H H':NP} {w w':World},Pure w0 w→(∀b,(b=a.block∨S b)→¬ H b)→Hst w0 H w H' w'→∀b,(b=a.block∨S b)→¬ H' b:=fun E hv hs=>hs.disj (fun b hb=>⟨hSl E b hb,hv b hb⟩)
  refine ⟨fun hb=>⟨a,rfl,fun H1 w4 hs4=>?_⟩,fun hb H1 w4 hs4=>?_⟩
  ·have hv4:=visH E3 hv hs4
   have R4:=R3.ext hs4.ext hv4
   have hb':k=9∧1<c.toNat:=by simp at hb;omega
   rw [if_pos hb'] at hrd
   exact ⟨_,R4.atC,bad 11 H1 w4 hv4 R4 (Ext.pure (E3.hst hs4)) hrd.symm⟩
  ·have hv4:=visH E3 hv hs4
   have R4:=R3.ext hs4.ext hv4
   have E4:=E3.hst hs4
   have hb':¬ (k=9∧1<c.toNat):=by intro hh;simp at hb;omega
   rw [if_neg hb'] at hrd
   have hpw:c.toNat % 128*2 ^ (7*k)<18446744073709551616:=by
    by_cases h9:k=9
    ·subst h9;omega
    ·have h8:2 ^ (7*k)≤2 ^ 56:=Nat.pow_le_pow_right (by omega) (by omega);have h127:c.toNat % 128≤127:=by omega
     calc c.toNat % 128*2 ^ (7*k)≤127*2 ^ 56:=Nat.mul_le_mul h127 h8
      _<18446744073709551616:=by decide
   have hac:acc<18446744073709551616:=Nat.lt_of_lt_of_le hacc (by
    calc 2 ^ (7*k)≤2 ^ 63:=Nat.pow_le_pow_right (by omega) (by omega)
     _≤18446744073709551616:=by decide)
   have h7:IntKind.u64.wrap (IntKind.i64.wrap (7*(k:Int)))=((7*k:Nat):Int):=by
    rw [IntWalk.i64_in _ (by omega),show (7*(k:Int))=((7*k:Nat):Int) by omega,vX (by omega)]
   have h128:128 ^ k=2 ^ (7*k):=by rw [Nat.pow_mul]
   have hsum:acc ||| (c.toNat % 128*2 ^ (7*k))=acc+c.toNat % 128*2 ^ (7*k):=jSM hacc
   have hsl:acc+c.toNat % 128*2 ^ (7*k)<18446744073709551616:=by rw [← hsum];exact Nat.or_lt_two_pow (n:=64) hac hpw
   have hwn:IntKind.u64.wrap ((acc:Int)+((c.toNat % 128*2 ^ (7*k):Nat):Int))=((acc+c.toNat % 128*2 ^ (7*k):Nat):Int):=by
    rw [show ((acc:Int)+((c.toNat % 128*2 ^ (7*k):Nat):Int))=((acc+c.toNat % 128*2 ^ (7*k):Nat):Int) by omega,vX hsl]
   refine ⟨_,jQQ c.toNat hc256,((c.toNat % 128*2 ^ (7*k):Nat):Int),by rw [h7,vX (by omega)];exact jQP _ _ (by omega) hpw,?_⟩
   rw [hwn]
   refine ⟨fun hs=>?_,fun hs=>⟨fun hz=>⟨a,rfl,fun H2 w6 hs6=>?_⟩,fun hz=>⟨a,rfl,fun H2 w6 hs6=>?_⟩⟩⟩
   ·have hs':¬ c.toNat<128:=by have:=of_decide_eq_true hs;omega
    rw [if_neg hs',h128] at hrd
    have hk9:k≠9:=by omega
    rw [vK (n:=10) (by omega) (by omega)]
    refine ⟨⟨_,k+1,rfl,rfl,by omega,?_,by omega,hrd,R4,hv4,E4⟩,by show (10 - ((k+1:Nat):Int)).toNat<(10 - (k:Int)).toNat;omega⟩
    have:2 ^ (7*(k+1))=128*2 ^ (7*k):=by rw [Nat.mul_add,Nat.pow_add];omega
    rw [this]
    have h127:c.toNat % 128*2 ^ (7*k)≤127*2 ^ (7*k):=Nat.mul_le_mul_right _ (by omega)
    omega
   ·have hs':c.toNat<128:=by have:=of_decide_eq_false hs;omega
    rw [if_pos hs'] at hrd
    have hv6:=visH E4 hv4 hs6
    have R6:=R4.ext hs6.ext hv6
    have hz':c.toNat=0∧0<k:=by simp at hz;omega
    rw [if_pos hz'] at hrd
    exact ⟨_,R6.atC,bad 10 H2 w6 hv6 R6 (Ext.pure (E4.hst hs6)) hrd.symm⟩
   ·have hs':c.toNat<128:=by have:=of_decide_eq_false hs;omega
    rw [if_pos hs'] at hrd
    have hv6:=visH E4 hv4 hs6
    have R6:=R4.ext hs6.ext hv6
    have hz':¬ (c.toNat=0∧0<k):=by intro hh;simp at hz;omega
    rw [if_neg hz',h128] at hrd
    have hr:qM bs r=(acc+c.toNat*2 ^ (7*k),⟨r.at_+(k+1),0,r.spot⟩):=by unfold qM;rw [if_pos he,← hrd]
    rw [hr]
    have hwa:IntKind.i64.wrap (IntKind.i64.wrap ((r.at_:Int)+(k:Int))+1)=((r.at_+(k+1):Nat):Int):=by
     rw [hwk,IntWalk.i64_in _ (by omega)];omega
    refine ⟨_,R6.atC,a,rfl,R6.box.canW (i:=1) (by simp),by rw [zR];exact hv6 _ (.inl rfl),?_⟩
    rintro w8 e8
    rw [hwa] at e8
    have R8:=R6.setAt (r.at_+(k+1))
    rw [← e8,he] at R8
    refine ⟨by rw [Nat.mod_eq_of_lt hs'],R8,?_⟩
    rw [e8]
    exact (Ext.pure (E4.hst hs6)).trans qP
end
def stp (bs:List UInt8) (c:Bool) (f:Fld) (s:Raw×Rd):Raw×Rd:=if c then (f.raw bs s.2 s.1,f.rd bs s.2) else s
def zNode:List Value:=[.int .i64 0,.int .i64 0,.int .i64 0,.int .u64 0,.string ⟨#[]⟩,.int .i64 0,.int .i64 0]
structure NdAt (S:NP) (w0:World) (H:NP) (w:World) (p1 a:Addr) (s:Sl) (bs:List UInt8) (r:Rd):Prop where
 rd:RfS S w a s bs r
 box:Box w p1 zNode 103
 vis:∀b,(b=a.block∨S b∨b=p1.block)→¬ H b∧b<w.heap.size
 ext:Ext (·=a.block) w0 w
 at_:r.at_≤bs.length
 o1:w0.heap.size≤p1.block
 d1:p1.block≠a.block∧¬ S p1.block
section
variable {S:NP} {w0 w w':World} {H H':NP} {p1 a:Addr} {s:Sl} {bs:List UInt8} {r:Rd}
theorem NdAt.hst (h:NdAt S w0 H w p1 a s bs r) (hs:Hst w0 H w H' w'):NdAt S w0 H' w' p1 a s bs r:=by
 have d:∀b,(b=a.block∨S b∨b=p1.block)→¬ H' b:=hs.disj (fun b hb=>⟨(h.vis b hb).2,(h.vis b hb).1⟩);exact ⟨h.rd.ext hs.ext (fun b hb=>d b (hb.elim .inl (fun h=>.inr (.inl h)))),h.box.ext hs.ext (d _ (.inr (.inr rfl))),fun b hb=>⟨d b hb,by have:=(h.vis b hb).2;have:=hs.ext.size;omega⟩,h.ext.hst hs,h.at_,h.o1,h.d1⟩
theorem NdAt.hS (h:NdAt S w0 H w p1 a s bs r):∀b,(b=a.block∨S b)→b<w.heap.size:=fun b hb=>(h.vis b (hb.elim .inl (fun h=>.inr (.inl h)))).2
theorem NdAt.next {r':Rd} (h:NdAt S w0 H w p1 a s bs r) (hR:RfS S w' a s bs r') (E:Ext (·=a.block) w w') (hat:r'.at_≤bs.length):NdAt S w0 H w' p1 a s bs r'∧Kept H w w' :=
 ⟨⟨hR,h.box.ext E h.d1.1,fun b hb=>⟨(h.vis b hb).1,by have:=(h.vis b hb).2;have:=E.size;omega⟩,h.ext.trans E,hat,h.o1,h.d1⟩,E.kept (fun b hb e=>(h.vis _ (.inl rfl)).1 (e▸hb))⟩
theorem NdAt.num (h:NdAt S w0 H w p1 a s bs r) {R:Int→WP} (hR:∀w',NdAt S w0 H w' p1 a s bs (qM bs r).2→R ((qM bs r).1:Int) w') :
  Calls prog 219 #[.pointer (some a)] w (fun e w'=>∃x:Int,e=.returned (.int .u64 x)∧Kept H w w'∧R x w'):=by
 refine (c_rNum a s bs r w h.rd h.at_ h.hS).mono ?_
 rintro _ w' ⟨_,rfl,rfl,hR',E⟩
 obtain ⟨g1,g2⟩:=h.next hR' E (jJX bs r h.at_).2
 exact ⟨_,rfl,g2,hR w' g1⟩
variable (k i:Nat) (hk:1≤k∧k≤9) (hi:i≤100000) {K:Int→Int→Int→Int→ByteArray→Int→Int→Int→WP}
include hk hi
end
end Go.Proofs
end
section
open Go Go.SE
namespace Go.Sp
open Go.Proofs
theorem make_new {L:Pool} {n:Node} (h:find L n=none) (h0:(make L n).2.1=0):(make L n).2.2.length=L.length+1:=by
 have hc:=(jBN h0).2.2;unfold make at h0 ⊢;simp only [h] at h0 ⊢;rw [if_neg (by rw [hc];simp)] at h0 ⊢;split at h0
 ·simp at h0
 ·rename_i hf;rw [if_neg hf];simp
end Go.Sp
namespace Go.Proofs
attribute [local irreducible] Calls CallsD
def RrV (a:Addr) (S FR:NP) (pl:Sl) (b:Nat):Prop:=FR b∨b=a.block∨S b∨pl.blk b
structure RrAt (w0:World) (H:NP) (w:World) (q a:Addr) (s:Sl) (bs:List UInt8) (L:Sp.Pool) (r:Rd) (S FR:NP) (ps:List Nat) (pl:Sl):Prop where
 pool:qK w q L FR
 rd:RfS S w a s bs r
 rows:Rws w 3 1 pl (tmr (ps.map Int.ofNat))
 pure:Pure w0 w
 own:∀b,RrV a S FR pl b→w0.heap.size≤b∧¬ H b
 lt:∀b,(b=a.block∨S b)→b<w.heap.size
 dR:∀b,FR b→b≠a.block∧¬ S b∧¬ pl.blk b
 dp:∀b,pl.blk b→b≠a.block∧¬ S b
theorem RrAt.vlt {w0 w:World} {H:NP} {q a:Addr} {s:Sl} {bs:List UInt8} {L:Sp.Pool} {r:Rd} {S FR:NP} {ps:List Nat} {pl:Sl} (h:RrAt w0 H w q a s bs L r S FR ps pl):∀b,RrV a S FR pl b→b<w.heap.size:=by
 rintro b (hb | hb | hb | hb)
 ·exact h.pool.lt hb
 ·exact h.lt b (.inl hb)
 ·exact h.lt b (.inr hb)
 ·exact h.rows.lt hb
theorem RrAt.hst {w0 w w':World} {H H':NP} {q a:Addr} {s:Sl} {bs:List UInt8} {L:Sp.Pool} {r:Rd} {S FR:NP} {ps:List Nat} {pl:Sl} (h:RrAt w0 H w q a s bs L r S FR ps pl) (hs:Hst w0 H w H' w'):RrAt w0 H' w' q a s bs L r S FR ps pl:=by
 have d:∀b,RrV a S FR pl b→¬ H' b:=hs.disj (fun b hb=>⟨h.vlt b hb,(h.own b hb).2⟩);exact ⟨h.pool.ext hs.ext (fun b hb=>d b (.inl hb)),h.rd.ext hs.ext (fun b hb=>d b (hb.elim (fun h=>.inr (.inl h)) (fun h=>.inr (.inr (.inl h))))),h.rows.ext hs.ext (fun b hb=>d b (.inr (.inr (.inr hb)))),h.pure.hst hs,fun b hb=>⟨(h.own b hb).1,d b hb⟩,fun b hb=>by have:=h.lt b hb;have:=hs.ext.size;omega,h.dR,h.dp⟩
theorem RrAt.pureE {w0 w w':World} {H:NP} {q a:Addr} {s:Sl} {bs:List UInt8} {L:Sp.Pool} {r:Rd} {S FR:NP} {ps:List Nat} {pl:Sl} (h:RrAt w0 H w q a s bs L r S FR ps pl) (E:Pure w w'):RrAt w0 H w' q a s bs L r S FR ps pl :=
 ⟨h.pool.pure E,h.rd.pure E,h.rows.pure E,h.pure.trans E,h.own,fun b hb=>by have:=h.lt b hb;have:=E.size;omega,h.dR,h.dp⟩
end Go.Proofs
end
section
open Go Go.SE
namespace Go.Sp
open Go.Proofs
end Go.Sp
namespace Go.Proofs
attribute [local irreducible] Calls CallsD
structure CrAt (w0:World) (H:NP) (w:World) (p q:Addr) (Lc Lq:Sp.Pool) (s1 r2:Sl) (A xs:List Int) (FP F' FQ:NP):Prop where
 pp:qK w p Lc F'
 pq:qK w q Lq FQ
 at_:Rws w 23 1 s1 (tmr A)
 subs:Rws w 23 1 r2 (tmr xs)
 ext:Ext FP w0 w
 own:∀b,(F' b∨FQ b∨s1.blk b∨r2.blk b)→¬ H b
 oF:∀b,F' b→FP b∨w0.heap.size≤b
 oS:∀b,(s1.blk b∨r2.blk b)→w0.heap.size≤b
 dis:∀b,F' b→¬ FQ b∧¬ s1.blk b∧¬ r2.blk b
 dS:∀b,s1.blk b→¬ FQ b∧¬ r2.blk b
section
variable {w0 w w':World} {H H':NP} {p q:Addr} {Lc Lq:Sp.Pool} {s1 r2:Sl} {A xs:List Int} {FP F' FQ:NP}
theorem CrAt.vlt (h:CrAt w0 H w p q Lc Lq s1 r2 A xs FP F' FQ):∀b,(F' b∨FQ b∨s1.blk b∨r2.blk b)→b<w.heap.size:=by
 rintro b (hb | hb | hb | hb)
 ·exact h.pp.lt hb
 ·exact h.pq.lt hb
 ·exact h.at_.lt hb
 ·exact h.subs.lt hb
theorem CrAt.hst (h:CrAt w0 H w p q Lc Lq s1 r2 A xs FP F' FQ) (hs:Hst w0 H w H' w'):CrAt w0 H' w' p q Lc Lq s1 r2 A xs FP F' FQ:=by
 have d:=hs.disj (fun b hb=>⟨h.vlt b hb,h.own b hb⟩);exact ⟨h.pp.ext hs.ext (fun b hb=>d b (.inl hb)),h.pq.ext hs.ext (fun b hb=>d b (.inr (.inl hb))),h.at_.ext hs.ext (fun b hb=>d b (.inr (.inr (.inl hb)))),h.subs.ext hs.ext (fun b hb=>d b (.inr (.inr (.inr hb)))),h.ext.hst hs,d,h.oF,h.oS,h.dis,h.dS⟩
end
end Go.Proofs
end
section
namespace Go.Sp
end Go.Sp
end
section
open Go Go.SE
namespace Go.Sp
end Go.Sp
namespace Go.Proofs
attribute [local irreducible] Calls
structure Pl2 (w0:World) (H:NP) (w:World) (p q:Addr) (L1 L2:Sp.Pool) (F1 F2:NP):Prop where
 pure:Pure w0 w
 pool:zS w p L1 F1
 ref:qK w q L2 F2
 o1:∀b,F1 b→w0.heap.size≤b∧¬ H b∧¬ F2 b
 o2:∀b,F2 b→w0.heap.size≤b∧¬ H b
section
variable {w0 w w':World} {H H':NP} {p q:Addr} {L1 L2:Sp.Pool} {F1 F2:NP}
theorem Pl2.pureE (h:Pl2 w0 H w p q L1 L2 F1 F2) (E:Pure w w'):Pl2 w0 H w' p q L1 L2 F1 F2:=⟨h.pure.trans E,h.pool.pure E,h.ref.pure E,h.o1,h.o2⟩
theorem Pl2.first (h:Pl2 w H w' p q L1 L2 F1 F2) (E:Pure w0 w):Pl2 w0 H w' p q L1 L2 F1 F2 :=
 ⟨E.trans h.pure,h.pool,h.ref,fun b hb=>⟨Nat.le_trans E.size (h.o1 b hb).1,(h.o1 b hb).2⟩,fun b hb=>⟨Nat.le_trans E.size (h.o2 b hb).1,(h.o2 b hb).2⟩⟩
theorem Pl2.hst (h:Pl2 w0 H w p q L1 L2 F1 F2) (hs:Hst w0 H w H' w'):Pl2 w0 H' w' p q L1 L2 F1 F2:=by
 have d:∀b,b<w.heap.size→¬ H b→¬ H' b:=fun b h1 h2=>hs.disj (G:=(·=b)) (fun c e=>by subst e;exact ⟨h1,h2⟩) b rfl;have d1:∀b,F1 b→¬ H' b:=fun b hb=>d b (h.pool.lt hb) (h.o1 b hb).2.1;have d2:∀b,F2 b→¬ H' b:=fun b hb=>d b (h.ref.lt hb) (h.o2 b hb).2;exact ⟨h.pure.hst hs,h.pool.ext hs.ext d1,h.ref.ext hs.ext d2,fun b hb=>⟨(h.o1 b hb).1,d1 b hb,(h.o1 b hb).2.2⟩,fun b hb=>⟨(h.o2 b hb).1,d2 b hb⟩⟩
theorem Pl2.of1 (h:Pl2 w0 H w p q L1 L2 F1 F2) (hH:∀b,H b→b<w.heap.size) {L:Sp.Pool} {F:NP} (hP:zS w' p L F) (hE:Ext F1 w w') (hF:∀b,F b→F1 b∨w.heap.size≤b):Pl2 w0 H w' p q L L2 F F2:=by
 refine ⟨h.pure.trans' hE (fun i hi hb=>by have:=(h.o1 i hb).1;omega),hP,h.ref.ext hE (fun b hb h1=>(h.o1 b h1).2.2 hb),fun b hb=>?_,h.o2⟩;rcases hF b hb with h1 | h1
 ·exact h.o1 b h1
 ·exact ⟨by have:=h.pure.size;omega,fun hh=>by have:=hH b hh;omega,fun hh=>by have:=h.ref.lt hh;omega⟩
theorem Pl2.of2 (h:Pl2 w0 H w p q L1 L2 F1 F2) (hH:∀b,H b→b<w.heap.size) {L:Sp.Pool} {F:NP} (hP:qK w' q L F) (hE:Ext F2 w w') (hF:∀b,F b→F2 b∨w.heap.size≤b):Pl2 w0 H w' p q L1 L F1 F:=by
 refine ⟨h.pure.trans' hE (fun i hi hb=>by have:=(h.o2 i hb).1;omega),h.pool.ext hE (fun b hb h1=>(h.o1 b hb).2.2 h1),hP,fun b hb=>⟨(h.o1 b hb).1,(h.o1 b hb).2.1,fun hh=>?_⟩,fun b hb=>?_⟩
 ·rcases hF b hh with h1 | h1
  ·exact (h.o1 b hb).2.2 h1
  ·have:=h.pool.lt hb;omega
 ·rcases hF b hb with h1 | h1
  ·exact h.o2 b h1
  ·exact ⟨by have:=h.pure.size;omega,fun hh=>by have:=hH b hh;omega⟩
end
end Go.Proofs
end
section
open Go Go.SE
namespace Go.Sp
open Go.Proofs
end Go.Sp
namespace Go.Proofs
attribute [local irreducible] Calls CallsD
end Go.Proofs
end
section
open Go Go.SE
namespace Go.Proofs
open Tryz
attribute [local irreducible] Calls
theorem jIV (p:Addr) {L:Sp.Pool} (hW:Sp.Wf L):∀(n:Nat) (t:Int) (w0:World) (F:NP),t.toNat=n→qK w0 p L F →
  Calls prog 20 #[.pointer (some p),.int .i64 t] w0 (RetT w0.heap.size w0 (Sp.zU L t)):=by
 intro n
 induction n using Nat.strongRecOn with
 | _ n ih =>
 intro t w0 F hn hP
 suffices key:∀K:Int→Int→Int→Int→ByteArray→Sl→WP,(∀k f t' u x s' w' ks,Sp.zU L t=.mk k f t' u x ks→TreeAt (w0.heap.size≤·) w' s' (.mk k f t' u x ks)→Pure w0 w'→K k f t' u x s' w')→m_C1 (some p) t w0 K by
  refine (w_C1 _ _ w0 (fun k f t' u x s' w'=>∃ks,Sp.zU L t=.mk k f t' u x ks∧TreeAt (w0.heap.size≤·) w' s' (.mk k f t' u x ks)∧Pure w0 w') (key _ (fun k f t' u x s' w' ks h1 h2 h3=>⟨ks,h1,h2,h3⟩))).mono ?_;rintro _ w' ⟨k,f,t',u,x,s',rfl,ks,h1,h2,h3⟩;rw [h1];exact ⟨s',rfl,h2,h3⟩
 intro K hK
 have hok:=hW.ok
 have hnil:∀b,¬ Sl.nil.blk b:=fun b hb=>by obtain ⟨a,h,_⟩:=hb;cases h
 unfold m_C1
 intro H1 w1 hs1
 have E1:=hs1.first
 refine (jIY p t w1 (hP.pure E1) hok).mono ?_
 rintro _ w2 ⟨k,f,t',u,x,a,b,r,rfl,⟨hnd,hr⟩,E2⟩
 have E02:=E1.trans E2
 have hs2:=hs1.again E2.keptP
 refine ⟨_,_,_,_,_,_,_,_,rfl,E2.keptP,fun h=>?_,fun h=>?_⟩
 ·intro H2 w5 hs5
  have hin:Sp.inP L t=false:=by rw [← hr];simpa using h
  exact hK _ _ _ _ _ _ _ [] (by rw [Sp.jDR hin];rfl) TreeAt.leaf (E02.hst hs5)
 ·have hin:Sp.inP L t=true:=by rw [← hr];simpa using h
  have htr:=Sp.yJ hW hin
  have hnode:=hW.node hin
  rw [← hnd] at htr hnode
  simp only at htr hnode
  obtain ⟨_,_,_,_,hkid,_,_⟩:=hnode
  have hpos:=Sp.vB.1 hin
  rw [yT]
  have J1 : ∀ (xs : Sl) (H : NP) (w : World) (ps : List (Sp.Tree × Sl)) (S' : NP), Hst w0 H w H w → Pure w0 w → Own H w 28 6 xs (ps.map jQY) → ps.length ≤ 1 → (∀ p ∈ ps, TreeAt S' w p.2 p.1) → (∀ b, S' b → w0.heap.size ≤ b ∧ b < w.heap.size ∧ ¬ H b ∧ ¬ xs.blk b) → (∀ b, xs.blk b → w0.heap.size ≤ b) →
    ((Sp.shapeOf k).kids=2→ps.map Prod.fst=[Sp.zU L a])→((Sp.shapeOf k).kids≠2→ps.map Prod.fst=(Sp.zM ⟨k,f,t',u,x,a,b⟩).map (Sp.zU L)) →
    m_C1_j1 (some p) k b k f t' u x xs w0 H w K:=by
   intro xs H w ps S' hs E O hpl hkids hS' hxs h2 h1
   unfold m_C1_j1
   rw [yT]
   refine ⟨fun h=>?_,fun h=>?_⟩
   ·have hk2:(Sp.shapeOf k).kids=2:=by simpa using h
    have hps:=h2 hk2
    intro w9 hs9
    have E9:=E.hst hs9
    have O9:=O.hst hs9
    have E10:Pure w9 w9.drew:=Ext.drew w9
    refine ⟨fun _=>True,trivial,?_⟩
    rintro _ rfl
    have hb:=hkid b (by simp [Sp.zM,hk2])
    have hbp:=Sp.vB.1 hb.1
    refine (ih b.toNat (by omega) b w9.drew F rfl (hP.pure (E9.trans E10))).mono ?_
    rintro _ w11 ⟨s',rfl,hTb,E11⟩
    generalize hTt:Sp.zU L b=tb at *
    obtain ⟨k2,f2,t2,u2,x2,ks2⟩:=tb
    refine ⟨_,_,_,_,_,s',rfl,trivial,E11.keptP,?_⟩
    intro p5 w12 h12
    have E12:Pure w11 w12:=Ext.new h12
    refine ⟨trivial,?_⟩
    have hs12:Hst w0 H w12 H w12:=(hs9.again E10.keptP).again (E11.trans E12).keptP
    obtain ⟨s1,w13,hr13,hO13,hE13,hk13,hb13⟩:=(O9.pure ((E10.trans E11).trans E12)).append (P:=prog) (ty:=22) (c:=1) jGC hs12 (r:=yV (.mk k2 f2 t2 u2 x2 ks2) s') (Box.of_new h12).row rfl (jFY _ _) (by simp;omega) (by simp [maxLen];omega)
    refine ⟨s1,w13,hr13,trivial,hk13,?_⟩
    intro w15 hs15
    have zd:w9.drew.heap.size=w9.heap.size:=rfl
    have z9:=hs9.ext.size
    have z11:=E11.size
    have z12:=E12.size
    have z13:=hE13.size
    have hS9:∀b,S' b→w0.heap.size≤b∧b<w9.heap.size∧¬ H b∧¬ xs.blk b:=fun b hb=>⟨(hS' b hb).1,by have:=(hS' b hb).2.1;omega,(hS' b hb).2.2.1,(hS' b hb).2.2.2⟩
    have hvs:∀b,s1.blk b→b<w13.heap.size∧¬ H b:=fun b hb=>⟨hO13.rows.lt hb,hO13.vis b hb⟩
    have hR15:=hO13.rows.ext hs15.ext (hs15.disj (G:=s1.blk) hvs)
    have e1:ps.map jQY++[yV (.mk k2 f2 t2 u2 x2 ks2) s']=(ps++[((.mk k2 f2 t2 u2 x2 ks2:Sp.Tree),s')]).map jQY:=by simp [jQY]
    rw [e1] at hR15
    have hT:=TreeAt.of_pairs (S:=fun b=>w0.heap.size≤b) (k:=k) (f:=f) (t:=t') (u:=u) (x:=x) hR15 (fun b hb=>(hb13 b hb).elim (hxs b) (fun h=>by have:=E9.size;omega)) (fun q hq=>?_) (by simp;omega)
    ·have e2 : (ps ++ [((.mk k2 f2 t2 u2 x2 ks2 : Sp.Tree), s')]).map Prod.fst = (Sp.zM ⟨k, f, t', u, x, a, b⟩).map (Sp.zU L) := by
      rw [List.map_append,hps];simp [Sp.zM,hk2,hTt]
     rw [e2] at hT
     exact hK _ _ _ _ _ _ _ _ htr hT ((((E9.trans E10).trans E11).trans E12).trans' hE13 (fun i hi hb=>by have:=hxs i hb;omega) |>.hst hs15)
    ·rcases List.mem_append.1 hq with h | h
     ·have q1:=(hkids q h).hst hs9 (fun b hb=>⟨(hS' b hb).2.1,(hS' b hb).2.2.1⟩)
      have q2:=(q1.pure ((E10.trans E11).trans E12)).ext hE13 (fun b hb hy=>(hS' b hb).2.2.2 hy)
      exact (q2.hst hs15 (fun b hb=>⟨by have:=(hS9 b hb).2.1;omega,(hS' b hb).2.2.1⟩)).mono (fun b hb=>(hS' b hb).1)
     ·simp only [List.mem_singleton] at h;subst h
      have q1:=(hTb.lt.pure E12).ext hE13 (fun b hb hy=>by have:=O9.rows.lt hy;have:=hb.1;omega)
      exact (q1.hst hs15 (fun b hb=>⟨by have:=hb.2;omega,fun hh=>by have:=hs9.lt b hh;have:=hb.1;omega⟩)).mono (fun b hb=>by have:=hb.1;have:=E9.size;omega)
   ·have hk2:(Sp.shapeOf k).kids≠2:=by simpa using h
    intro w16 hs16
    have O16:=O.hst hs16
    have hT:=TreeAt.of_pairs (S:=fun b=>w0.heap.size≤b) (k:=k) (f:=f) (t:=t') (u:=u) (x:=x) O16.rows hxs (fun q hq=>((hkids q hq).hst hs16 (fun b hb=>⟨(hS' b hb).2.1,(hS' b hb).2.2.1⟩)).mono (fun b hb=>(hS' b hb).1)) (by omega)
    rw [h1 hk2] at hT
    exact hK _ _ _ _ _ _ _ _ htr hT (E.hst hs16)
  have hkk:=Sp.qX k
  refine ⟨fun h=>?_,fun h=>?_⟩
  ·have hk1:1≤(Sp.shapeOf k).kids:=by have:=of_decide_eq_true h;omega
   intro H3 w8 hs8
   have E8:=E02.hst hs8
   have E17:Pure w8 w8.drew:=Ext.drew w8
   refine ⟨fun _=>True,trivial,?_⟩
   rintro _ rfl
   have ha:=hkid a (by rcases hkk with h | h | h <;> simp [Sp.zM,h] <;> omega)
   have hap:=Sp.vB.1 ha.1
   refine (ih a.toNat (by omega) a w8.drew F rfl (hP.pure (E8.trans E17))).mono ?_
   rintro _ w18 ⟨s',rfl,hTa,E18⟩
   generalize hTt:Sp.zU L a=ta at *
   obtain ⟨k2,f2,t2,u2,x2,ks2⟩:=ta
   refine ⟨_,_,_,_,_,s',rfl,trivial,E18.keptP,?_⟩
   intro p6 w19 h19
   have E19:Pure w18 w19:=Ext.new h19
   refine ⟨trivial,?_⟩
   have hs19:Hst w0 H3 w19 H3 w19:=(hs8.again E17.keptP).again (E18.trans E19).keptP
   obtain ⟨s2,w20,hr20,hO20,hE20,hk20,hb20⟩:=(Own.nil (sz:=6) (e:=28) H3 w19).append (P:=prog) (ty:=22) (c:=1) jGC hs19 (r:=yV (.mk k2 f2 t2 u2 x2 ks2) s') (Box.of_new h19).row rfl (jFY _ _) (by simp) (by simp [maxLen])
   refine ⟨s2,w20,hr20,trivial,hk20,?_⟩
   intro w21 hs21
   have zd:w8.drew.heap.size=w8.heap.size:=rfl
   have z18:=E18.size
   have z19:=E19.size
   have z20:=hE20.size
   have z21:=hs21.ext.size
   have E20:Pure w19 w20:=hE20.mono (fun b _ hb=>hnil b hb)
   have hs2n:∀b,s2.blk b→w19.heap.size≤b:=fun b hb=>(hb20 b hb).elim (fun h=>(hnil b h).elim) id
   refine J1 s2 H3 w21 [((.mk k2 f2 t2 u2 x2 ks2:Sp.Tree),s')] (fun b=>w8.heap.size≤b∧b<w18.heap.size) hs21.here ((((E8.trans E17).trans E18).trans E19).trans E20 |>.hst hs21) ?_ (by simp) ?_ ?_ (fun b hb=>by have:=hs2n b hb;have:=E8.size;omega) (fun _=>by simp) (fun hne=>?_)
   ·have:=hO20.hst hs21;simpa [jQY] using this
   ·intro q hq
    simp only [List.mem_singleton] at hq;subst hq
    exact ((hTa.lt.pure E19).pure E20).hst hs21 (fun b hb=>⟨by have:=hb.2;omega,fun hh=>by have:=hs8.lt b hh;have:=hb.1;omega⟩)
   ·rintro b ⟨h1,h2⟩
    exact ⟨by have:=E8.size;omega,by omega,fun hh=>by have:=hs8.lt b hh;omega,fun hh=>by have:=hs2n b hh;omega⟩
   ·rcases hkk with h | h | h
    ·omega
    ·simp [Sp.zM,h,hTt]
    ·exact absurd h hne
  ·have hk0:(Sp.shapeOf k).kids=0:=by have:=of_decide_eq_false h;omega
   intro H3 w8 hs8
   exact J1 Sl.nil H3 w8 [] (fun _=>False) hs8.here (E02.hst hs8) (Own.nil _ _) (by simp) (by simp) (fun b h=>h.elim) (fun b h=>(hnil b h).elim) (fun h=>by omega) (fun _=>by simp [Sp.zM,hk0])
end Go.Proofs
end
section
open Go Go.SE
namespace Go.Proofs
attribute [local irreducible] Calls CallsD
end Go.Proofs
end
section
open Go Go.SE
namespace Go.Proofs
attribute [local irreducible] Calls
theorem tH (l:Sp.Letter):s_K l.kind l.frm l.c l.text l.fake=Sp.qO l:=by
 obtain ⟨k,f,c,x,g⟩:=l;unfold s_K Sp.qO;have e1:s_C k=Sp.isSigned k:=rfl;rw [e1];have e2:(Sp.isSigned k || k == 6)=Sp.isTexted k:=rfl;rw [e2];have e3:decide (((x.size:Int))>64)=decide (x.size>64):=decide_eq_decide.2 (by omega);rw [e3];generalize Sp.isSigned k=a;generalize Sp.isTexted k=b;have hc:((((((decide (k<1)) || (decide (k>7))) || (((f:Int) != 0) && ((f:Int) != 1))) || ((!a) && ((f:Int) != 0))) || ((!b) && (!(decide (x=(⟨#[]⟩:ByteArray)))))) || ((g && ((k:Int) != 1)) && ((k:Int) != 4)))=decide (k<1∨k>7∨(f≠0∧f≠1)∨(a=false∧f≠0)∨(b=false∧x≠⟨#[]⟩)∨(g=true∧k≠1∧k≠4)):=by
  rw [Bool.eq_iff_iff];simp only [Bool.or_eq_true,Bool.and_eq_true,decide_eq_true_eq,bne_iff_ne,Bool.not_eq_true',decide_eq_false_iff_not];simp only [or_assoc,and_assoc]
 rw [hc];by_cases h:(k<1∨k>7∨(f≠0∧f≠1)∨(a=false∧f≠0)∨(b=false∧x≠⟨#[]⟩)∨(g=true∧k≠1∧k≠4))
 ·rw [decide_eq_true h,if_pos h];rfl
 ·rw [decide_eq_false h,if_neg h];by_cases h2:x.size>64
  ·rw [decide_eq_true h2,if_pos h2];rfl
  ·rw [decide_eq_false h2,if_neg h2];rfl
theorem TreeAt.back {S:NP} {w w':World} {s:Sl} {t:Sp.Tree} (h:TreeAt S w' s t) (hE:Pure w w') (hd:∀b,S b→b<w.heap.size):TreeAt S w s t:=by
 induction h with
 | mk k f t u x ks s rs len fit row kid ih =>
  refine .mk k f t u x ks s rs len fit (fun i h=>let ⟨a,h1,h2,h3⟩:=row i h;⟨a,h1,h2,fun j hj=>?_⟩) ih
  rw [← h3 j hj]
  unfold World.cell?
  rw [zR,hE.keep _ (hd _ h2) (fun h=>h)]
end Go.Proofs
end
section
namespace Go.Sp
section
variable {L:Pool} (hW:Wf L) {t:Int} (ht:inP L t=true)
include hW ht
end
section
variable {L:Pool} (hW:Wf L) {t:Int}
include hW
end
theorem jFP {k f c:Int} {x:ByteArray} {g:Bool} (h:qO ⟨k,f,c,x,g⟩=0):(k=1∨k=2∨k=3∨k=4∨k=5∨k=6∨k=7)∧(f=0∨f=1)∧(isSigned k=false→f=0)∧(isTexted k=false→x=⟨#[]⟩)∧(g=true→k=1∨k=4)∧x.size≤64:=by
 unfold qO at h;simp only at h;split at h
 ·cases h
 rename_i hh;split at h
 ·cases h
 simp only [not_or,not_and,Classical.not_not] at hh;obtain ⟨h1,h2,h3,h4,h5,h6⟩:=hh;refine ⟨by omega,?_,h4,h5,?_,by omega⟩
 ·by_cases h0:f=0
  ·exact .inl h0
  ·exact .inr (h3 h0)
 ·intro hg;by_cases h1:k=1
  ·exact .inl h1
  ·exact .inr (h6 hg h1)
section
variable {L:Pool} (hW:Wf L) {t:Int}
include hW
end
end Go.Sp
end
section
open Go Go.SE
namespace Go.Sp
open Go.Proofs
def toS (l:Letter):Int:=if qO l≠0 then -1 else if l.kind=1∨l.kind=2 then IntKind.i64.wrap (1 - l.frm) else if l.kind=3∨l.kind=4 then 2 else -1
def jOV (bs:List UInt8):Letter×Bool:=if (jGV [] bs).2.1≠0 then (xO,false) else jSL (jGV [] bs).2.2.2 (jGV [] bs).1
end Go.Sp
namespace Go.Proofs
open Tryz
attribute [local irreducible] Calls
theorem jSW (l:Sp.Letter) (w0:World):Calls prog 33 #[.agg #[.int .i64 l.kind,.int .i64 l.frm,.int .u64 l.c,.string l.text,.bool l.fake]] w0 (fun e w'=>∃r:Int,e=.returned (.int .i64 r)∧(r=Sp.toS l∧Pure w0 w')):=by
 refine w_Q3 _ _ _ _ _ w0 (fun r w'=>r=Sp.toS l∧Pure w0 w') ?_;unfold m_Q3;intro H1 w1 hs;have E1:=hs.first;refine (jBW l w1).mono ?_;rintro _ w2 ⟨r1,rfl,hr,E2⟩;have E02:=E1.trans E2;have fin:∀{H3 w3},Hst w0 H1 w2 H3 w3→Pure w0 w3:=fun h=>E02.hst h;refine ⟨_,rfl,E2.keptP,fun h=>⟨?_,E02⟩,fun h=>⟨fun h2=>?_,fun h2=>⟨fun h3=>?_,fun h3=>?_⟩⟩⟩
 ·unfold Sp.toS;rw [if_pos (by rw [← hr];exact bne_iff_ne.1 h)]
 ·intro H2 w3 hs2;refine ⟨?_,fin hs2⟩;unfold Sp.toS;rw [if_neg (by rw [← hr];simpa using h),if_pos (by cases hk:l.kind == 1 <;> simp [hk] at h2 <;> simp at hk <;> omega)]
 ·intro H2 w3 hs2;refine ⟨?_,fin hs2⟩;unfold Sp.toS;rw [if_neg (by rw [← hr];simpa using h),if_neg (by cases hk:l.kind == 1 <;> simp [hk] at h2 <;> simp at hk <;> omega),if_pos (by cases hk:l.kind == 3 <;> simp [hk] at h3 <;> simp at hk <;> omega)]
 ·intro H2 w3 hs2;refine ⟨?_,fin hs2⟩;unfold Sp.toS;rw [if_neg (by rw [← hr];simpa using h),if_neg (by cases hk:l.kind == 1 <;> simp [hk] at h2 <;> simp at hk <;> omega),if_neg (by cases hk:l.kind == 3 <;> simp [hk] at h3 <;> simp at hk <;> omega)]
theorem jQT (l:Sp.Letter):s_Z1 l.kind l.frm l.c l.text l.fake=Sp.toS l:=by
 unfold s_Z1 Sp.toS;rw [tH l];by_cases h:Sp.qO l=0
 ·rw [if_neg (by simpa using h),h];by_cases h1:l.kind=1
  ·simp [h1]
  by_cases h2:l.kind=2
  ·simp [h2]
  by_cases h3:l.kind=3
  ·simp [h3]
  by_cases h4:l.kind=4
  ·simp [h4]
  have b1:=beq_eq_false_iff_ne.2 h1;have b2:=beq_eq_false_iff_ne.2 h2;have b3:=beq_eq_false_iff_ne.2 h3;have b4:=beq_eq_false_iff_ne.2 h4;simp [h1,h2,h3,h4,b1,b2,b3,b4]
 ·rw [if_pos h];have:(Sp.qO l != 0)=true:=bne_iff_ne.2 h;rw [this];rfl
theorem jFT (l:Sp.Letter) (hl:Sp.uJ l.c) (w0:World) :
  Calls prog 28 #[.agg #[.int .i64 l.kind,.int .i64 l.frm,.int .u64 l.c,.string l.text,.bool l.fake]] w0 (fun e w'=>∃r:Sl,∃n:Int,e=.returned (.tuple #[r.v,.int .i64 n])∧(n=(Sp.tS l).2∧RetO w0 5 1 (byr (Sp.tS l).1) r w')):=by
 refine w_N2 _ _ _ _ _ w0 (fun r n w'=>n=(Sp.tS l).2∧RetO w0 5 1 (byr (Sp.tS l).1) r w') ?_
 unfold m_N2
 intro H1 w1 hs
 have E1:=hs.first
 refine (jPW w1).mono ?_
 rintro _ w2 ⟨_,rfl,p,rfl,E2,F,hP,hF⟩
 refine ⟨_,rfl,E2.keptP,?_⟩
 refine (jKS p l w2 hP Sp.Wf.nil.ok).mono ?_
 rintro _ w3 ⟨r2,r3,rfl,e2,e3,F3,hP3,E3,hF3⟩
 have E02:=E1.trans E2
 have E03:Pure w0 w3:=E02.trans' E3 (fun i hi hf=>by have:=hF i hf;have:=E1.size;omega)
 refine ⟨_,_,rfl,E3.kept (fun b hb hf=>by have:=hs.lt b hb;have:=hF b hf;omega),fun hc=>?_,fun hc=>?_⟩
 ·have hc:=bne_iff_ne.1 hc
  have e:Sp.tS l=([],(vO [] l).2.1):=by unfold Sp.tS;rw [if_pos (by rw [← e3];exact hc)]
  rw [e]
  exact ⟨e3,Rws.nil _ _ _,fun b hb=>(by obtain ⟨a,ha,_⟩:=hb;cases ha),E03⟩
 ·have hc:r3=0:=by simpa using hc
  have e:Sp.tS l=jEO (vO [] l).2.2 (vO [] l).1:=by unfold Sp.tS;rw [if_neg (by rw [← e3];simpa using hc)]
  rw [e,← e2]
  refine (jSE p r2 w3 (Sp.jBX Sp.Wf.nil l) (Sp.tN Sp.tO.nil hl) hP3).mono ?_
  rintro _ w4 ⟨r4,r5,rfl,e5,hR⟩
  exact ⟨_,_,rfl,hR.pure.keptP,e5,hR.rows,fun b hb=>by have:=hR.own b hb;have:=E03.size;omega,E03.trans hR.pure⟩
theorem jNF {S0:NP} (sb:Sl) (bs:List UInt8) (w0:World) (hs:Lst S0 w0 1 sb (byr bs)) (hz:sb.a=none→sb=Sl.nil) :
  Calls prog 24 #[sb.v] w0 (fun e w'=>∃k f c:Int,∃x:ByteArray,∃g ok:Bool,e=.returned (.tuple #[.agg #[.int .i64 k,.int .i64 f,.int .u64 c,.string x,.bool g],.bool ok])∧(((⟨k,f,c,x,g⟩:Sp.Letter),ok)=Sp.jOV bs∧Pure w0 w')):=by
 refine w_M2 _ w0 (fun k f c x g ok w'=>((⟨k,f,c,x,g⟩:Sp.Letter),ok)=Sp.jOV bs∧Pure w0 w') ?_
 unfold m_M2
 intro H1 w1 hs1
 have E1:=hs1.first
 refine (jPW w1).mono ?_
 rintro _ w2 ⟨_,rfl,p,rfl,E2,F,hP,hF⟩
 refine ⟨_,rfl,E2.keptP,?_⟩
 have E02:=E1.trans E2
 refine (jSF p sb bs w2 Sp.Wf.nil hP (hs.pure E02) hz).mono ?_
 rintro _ w3 ⟨t,x,y,rfl,rfl,rfl,rfl,F3,hP3,E3,hF3⟩
 have E03:Pure w0 w3:=E02.trans' E3 (fun i hi hf=>by have:=hF i hf;have:=E1.size;omega)
 refine ⟨_,_,_,rfl,E3.kept (fun b hb hf=>by have:=hs1.lt b hb;have:=hF b hf;omega),fun hc=>?_,fun hc=>?_⟩
 ·intro w4 hs4
  refine ⟨?_,E03.hst hs4⟩
  unfold Sp.jOV;rw [if_pos (bne_iff_ne.1 hc)];rfl
 ·refine (tM p (jGV [] bs).1 w3 hP3 (Sp.jUE Sp.Wf.nil bs).ok).mono ?_
  rintro _ w5 ⟨k,f,c,x,g,ok,rfl,hr,E5⟩
  refine ⟨_,_,_,_,_,_,rfl,E5.keptP,fun w6 hs6=>⟨?_,(E03.trans E5).hst hs6⟩⟩
  unfold Sp.jOV;rw [if_neg (by simpa using hc),hr]
end Go.Proofs
end
section
open Go Go.SE
namespace Go.Sp
open Go.Proofs
def hexT:ByteArray:=⟨#[48,49,50,51,52,53,54,55,56,57,97,98,99,100,101,102]⟩
def jPA (n:Nat):UInt8:=(hexT.data.toList[n]?).getD 0
def jAY (c:UInt8):List UInt8:=if c.toNat=34∨c.toNat=92 then [92,c] else if c.toNat=10 then [92,110] else if 32≤c.toNat∧c.toNat≤126 then [c] else [92,120,jPA (c.toNat / 16),jPA (c.toNat % 16)]
def tU (k:Int):List UInt8 :=
 if k=1 then [112,114,111,109,105,115,101] else if k=2 then [115,105,103,110] else if k=3 then [97,98,111,114,116] else if k=4 then [114,101,115,111,108,118,101]
 else if k=5 then [116,111,107,101,110] else if k=6 then [105,110,115,116,101,97,100] else if k=7 then [102,117,108,108] else []
def jAH (x:ByteArray):List UInt8:=34 :: (x.data.toList.flatMap jAY++[34])
def jCF (l:Letter):List UInt8 :=
 if qO l≠0 then [] else
 tU l.kind++(if l.fake=true then [33] else [])++(if isSigned l.kind=true then 32 :: Lib.decDigits l.frm.toNat else [])++(32 :: Lib.decDigits l.c.toNat)++(if isTexted l.kind=true then 32 :: jAH l.text else [])
theorem jLL (c:UInt8):(jAY c).length≤4:=by
 unfold jAY;repeat' split
 all_goals simp
theorem jGP:∀l:List UInt8,(l.flatMap jAY).length≤4*l.length
 | []=>by simp
 | c :: l=>by
  have:=jLL c;have:=jGP l;rw [List.flatMap_cons,List.length_append,List.length_cons];omega
theorem jHD (k:Int):(tU k).length≤7:=by
 unfold tU;repeat' split
 all_goals simp
end Go.Sp
end
section
open Go Go.SE
namespace Go.Proofs
open Tryz
set_option maxRecDepth 100000
set_option maxHeartbeats 4000000
attribute [local irreducible] wpL wpX opE wpE Calls
def m_C5 (b1:Option Addr) (s1:ByteArray) (w0:World) (K:Int→Value→WP):Prop :=Calls prog 133 #[(vp b1)] w0 (fun e w1=>e=.returned (.tuple #[])∧∃a1,b1=some a1∧∃v1:Sl,w1.cell? (a1.add 1)=some v1.v∧∃s2:Sl,∃w2:World,(Builtin.append_ #[54,9] 54 #[v1.v,(vs s1)]).run prog w1=.ok s2.v w2∧∃a2,b1=some a2∧zT w2 (a2.add 1)∧∀w3,w3=w2.setCell (a2.add 1) s2.v→K (s1.size:Int) (.nilIface:Value) w3)
theorem w_C5 (b1 s1 w0 K) (h:m_C5 b1 s1 w0 K):
  Calls prog 76 #[(vp b1),(vs s1)] w0 (fun e w'=>∃r1,∃r2:Value,e=.returned (.tuple #[(vi r1),r2])∧K r1 r2 w'):=by
 refine cw (args:=[(vp b1),(vs s1)]) func76 ntmps76 (eg (q0 (vi 0) (q0 (.nilIface:Value) (ln (eg (q0 (vp b1) ?_))))))
 refine sc call133 (h.mono fun e w1 ⟨k,h⟩=>⟨_,k,?_⟩)
 refine ln (eg (qb (qm h fun a1 h=>q (ql (isAgg54 _) h fun v1 h=>q ?_))))
 obtain ⟨s2,w2,hv1,h⟩:=h
 refine st (v:=s2.v) (zJ rfl) (vC (args:=#[v1.v,(vs s1)]) (by kernel_rfl) (fun _=>rfl) hv1) (qm h fun a2 h=>q (st1 (sizeOf54 _) h fun w3 h=>ln (eg (qd (ln (er (xC (.inl rfl) results76 (v:=(vi (s1.size:Int))) (by kernel_rfl) (v':=(.nilIface:Value)) (by kernel_rfl) ⟨(s1.size:Int),(.nilIface:Value),rfl,h⟩)))))))
def m_D5 (b1:Option Addr) (c1:Int) (w0:World) (K:Value→WP):Prop :=Calls prog 133 #[(vp b1)] w0 (fun e w1=>e=.returned (.tuple #[])∧∃a1,b1=some a1∧∃v1:Sl,w1.cell? (a1.add 1)=some v1.v∧∀p1 w2,New w1 (.cells #[(.int .u8 c1)] 5) p1 w2→∃s1:Sl,∃w3:World,(Builtin.append_ #[54,54] 54 #[v1.v,(Sl.mk (some p1) 1 1).v]).run prog w2=.ok s1.v w3∧∃a2,b1=some a2∧zT w3 (a2.add 1)∧∀w4,w4=w3.setCell (a2.add 1) s1.v→K (.nilIface:Value) w4)
theorem w_D5 (b1 c1 w0 K) (h:m_D5 b1 c1 w0 K):
  Calls prog 77 #[(vp b1),(.int .u8 c1)] w0 (fun e w'=>∃r1:Value,e=.returned r1∧K r1 w'):=by
 refine cw (args:=[(vp b1),(.int .u8 c1)]) func77 ntmps77 (eg (q0 (.nilIface:Value) (ln (eg (q0 (vp b1) ?_)))))
 refine sc call133 (h.mono fun e w1 ⟨k,h⟩=>⟨_,k,?_⟩)
 refine ln (eg (qb (qm h fun a1 h=>q (ql (isAgg54 _) h fun v1 h=>q (yX (O:=(.cells #[(.int .u8 c1)] 5)) (fun p=>(Sl.mk (some p) 1 1).v) (zJ rfl) (vD (vs:=#[(0,(.int .u8 c1))]) (by kernel_rfl) (by kernel_rfl)) ?_)))))
 intro p1 w2 hn2
 have h:=h p1 w2 hn2
 obtain ⟨s1,w3,hv1,h⟩:=h
 refine st (v:=s1.v) (zJ rfl) (vC (args:=#[v1.v,(Sl.mk (some p1) 1 1).v]) (by kernel_rfl) (fun _=>rfl) hv1) (qm h fun a2 h=>q (st1 (sizeOf54 _) h fun w4 h=>ln (eg (q (ln (er (rs1 results77 ⟨(.nilIface:Value),rfl,h⟩)))))))
end Go.Proofs
end
section
open Go Go.SE
namespace Go.SE
theorem jPG {B:Nat} {w w':World} (h:RowKit.Below B w w'):Ext (fun b=>B≤b) w w':=⟨h.os,h.tape,h.output,(by first | exact Nat.le_refl _),h.size,fun b _ hf=>h.block b (by omega)⟩
end Go.SE
namespace Go.Proofs
open Tryz
attribute [local irreducible] Calls
def Bld (w:World) (p:Addr) (l:List UInt8):Prop :=
 ∃(q:Value) (s:Sl),Box w p [q,s.v] 126∧(q=.pointer none∨q=.pointer (some p))∧Rws w 5 1 s (byr l)∧∀b,s.blk b→p.block<b
abbrev From (p:Addr) (b:Nat):Prop:=p.block≤b
section
variable {w w':World} {p:Addr} {l:List UInt8}
theorem Bld.pure (h:Bld w p l) (E:Pure w w'):Bld w' p l:=by
 obtain ⟨q,s,hB,hq,hR,hb⟩:=h;exact ⟨q,s,hB.pure E,hq,hR.pure E,hb⟩
theorem Bld.lt (h:Bld w p l):p.block<w.heap.size:=by obtain ⟨q,s,hB,_⟩:=h;exact hB.lt
theorem Bld.new (h:New w (.cells #[.pointer none,Sl.nil.v] 126) p w'):Bld w' p [] :=
 ⟨_,Sl.nil,Box.of_newA h,.inl rfl,Rws.nil _ _ _,fun b hb=>(by obtain ⟨a,h,_⟩:=hb;cases h)⟩
theorem jES {q:Value} {s:Sl} (hB:Box w p [q,s.v] 126) (hq:q=.pointer none∨q=.pointer (some p)) :
  Calls prog 133 #[.pointer (some p)] w (fun e w'=>e=.returned (.tuple #[])∧Box w' p [.pointer (some p),s.v] 126∧Ext (·=p.block) w w'):=by
 have hp:=hB.addr
 have h0:w.cell? ⟨p.block,0,none⟩=some q:=by have:=hB.cell0;rwa [hp] at this
 rcases hq with rfl | rfl
 ·have h1:=jRW p.block w h0 (by simp [World.shape?,hB.blk]) (by simp [World.frozen?,hB.blk])
  rw [← hp] at h1
  refine h1.mono ?_
  rintro _ w' ⟨rfl,rfl⟩
  exact ⟨rfl,hB.set0,Ext.setCell _ _⟩
 ·rw [hp] at h0
  have h1:=jUF p.block w h0
  rw [← hp] at h1
  refine h1.mono ?_
  rintro _ w' ⟨rfl,rfl⟩
  exact ⟨rfl,hB,Ext.refl _⟩
theorem jIO (h:Bld w p l) (s:ByteArray) (hl:l.length+s.size≤100000000) :
  Calls prog 76 #[.pointer (some p),.string s] w (fun e w'=>∃r1:Int,∃r2:Value,e=.returned (.tuple #[.int .i64 r1,r2])∧(Bld w' p (l++s.data.toList)∧Ext (From p) w w')):=by
 refine w_C5 (some p) s w (fun r1 r2 w'=>Bld w' p (l++s.data.toList)∧Ext (From p) w w') ?_
 unfold m_C5
 obtain ⟨q,sl,hB,hq,hR,hb⟩:=h
 refine (jES hB hq).mono ?_
 rintro _ w1 ⟨rfl,hB1,E1⟩
 have hR1:=hR.ext E1 (fun b hs e=>by have:=hb b hs;omega)
 obtain ⟨s',w2,hrun,hR2,E2,hn⟩:=hR1.appendStr (P:=prog) (ty:=54) jBG underlying9 s (by rw [vR];omega) (by rw [vR];simp only [maxLen];omega)
 have z1:=E1.size;have hlt:=hB.lt
 have hB2:=hB1.ext E2 (fun hs=>by have:=hb _ hs;omega)
 refine ⟨rfl,p,rfl,sl,hB1.cell rfl,s',w2,hrun,p,rfl,hB2.canW (by simp),?_⟩
 rintro _ rfl
 have E3:Ext (·=p.block) w2 (w2.setCell (p.add 1) s'.v):=by have:=Ext.setCell (w:=w2) (p.add 1) s'.v;rw [zR] at this;exact this
 have hb':∀b,s'.blk b→p.block<b:=fun b hs=>(hn b hs).elim (hb b) (fun h=>by omega)
 refine ⟨⟨_,s',hB2.set 1 _,.inr rfl,?_,hb'⟩,?_⟩
 ·have e:byr l++byr s.data.toList=byr (l++s.data.toList):=by simp [byr]
  rw [← e]
  exact hR2.ext E3 (fun b hs e=>by have:=hb' b hs;omega)
 ·exact ((E1.mono (fun b _ e=>by show p.block≤b;omega)).trans (E2.mono (fun b _ hs=>by have:=hb b hs;show p.block≤b;omega))).trans (E3.mono (fun b _ e=>by show p.block≤b;omega))
theorem jPL (h:Bld w p l) (c:UInt8) (hl:l.length+1≤100000000) :
  Calls prog 77 #[.pointer (some p),.int .u8 (c.toNat:Int)] w (fun e w'=>∃r:Value,e=.returned r∧(Bld w' p (l++[c])∧Ext (From p) w w')):=by
 refine w_D5 (some p) (c.toNat:Int) w (fun r w'=>Bld w' p (l++[c])∧Ext (From p) w w') ?_
 unfold m_D5
 obtain ⟨q,sl,hB,hq,hR,hb⟩:=h
 refine (jES hB hq).mono ?_
 rintro _ w1 ⟨rfl,hB1,E1⟩
 have hR1:=hR.ext E1 (fun b hs e=>by have:=hb b hs;omega)
 refine ⟨rfl,p,rfl,sl,hB1.cell rfl,fun p1 w2 n2=>?_⟩
 have En:Pure w1 w2:=Ext.new n2
 obtain ⟨s',w3,hrun,hR2,E2,hn⟩:=(hR1.pure En).append (P:=prog) (ty:=54) (c:=1) jBG (p:=p1) (r:=[.int .u8 (c.toNat:Int)]) (Box.of_newA n2).row rfl rfl (by rw [vR];omega) (by rw [vR];simp only [maxLen];omega)
 have z1:=E1.size;have hlt:=hB.lt;have zn:=En.size
 have hB2:=(hB1.pure En).ext E2 (fun hs=>by have:=hb _ hs;omega)
 refine ⟨s',w3,hrun,p,rfl,hB2.canW (by simp),?_⟩
 rintro _ rfl
 have E3:Ext (·=p.block) w3 (w3.setCell (p.add 1) s'.v):=by have:=Ext.setCell (w:=w3) (p.add 1) s'.v;rw [zR] at this;exact this
 have hb':∀b,s'.blk b→p.block<b:=fun b hs=>(hn b hs).elim (hb b) (fun h=>by omega)
 refine ⟨⟨_,s',hB2.set 1 _,.inr rfl,?_,hb'⟩,?_⟩
 ·have e:byr l++[[.int .u8 (c.toNat:Int)]]=byr (l++[c]):=by simp [byr]
  rw [← e]
  exact hR2.ext E3 (fun b hs e=>by have:=hb' b hs;omega)
 ·exact (((E1.mono (fun b _ e=>by show p.block≤b;omega)).thenPure En).trans (E2.mono (fun b _ hs=>by have:=hb b hs;show p.block≤b;omega))).trans (E3.mono (fun b _ e=>by show p.block≤b;omega))
theorem jSZ (h:Bld w p l) :
  Calls prog 81 #[.pointer (some p)] w (fun e w'=>∃r:ByteArray,e=.returned (.string r)∧(r=⟨l.toArray⟩∧Ext (From p) w w')):=by
 obtain ⟨q,s,hB,hq,hR,hb⟩:=h
 have hp:=hB.addr
 have hown:w.ownsRow p.block 5 1 s.v (Lib.byteCells l).length (Lib.byteCells l):=by
  have hf:(byr l).flatten=Lib.byteCells l:=by
   unfold byr Lib.byteCells;have:∀l:List UInt8,(l.map fun b=>[Value.int .u8 (b.toNat:Int)]).flatten=l.map fun b=>Value.int .u8 (b.toNat:Int):=fun l=>by
    induction l with
    | nil=>rfl
    | cons a t ih=>rw [List.map_cons,List.flatten_cons,ih];rfl
   exact this l
  have hl:(Lib.byteCells l).length=l.length:=Lib.byteCells_length l;refine ⟨by omega,?_⟩;rcases hR.own with ⟨rfl,hnil⟩ | ⟨g,cur,ha,hg,hc,hm,hs,ht⟩
  ·have:l=[]:=by cases l with | nil=>rfl | cons a t=>simp [byr] at hnil
   subst this;exact .inl ⟨rfl,rfl⟩
  ·refine .inr ⟨g,s.cap,cur,?_,?_,hg,by rw [hl];rw [vR] at hc;exact hc,hm,hs,?_⟩
   ·unfold Sl.v;rw [ha,hR.len,vR,hl]
   ·exact Nat.le_of_lt (hb g ⟨_,ha,rfl⟩)
   ·rw [hl,← hf,← ht,vR]
 have hat:Lib.IsBuilder 126 5 p.block p.block (Lib.byteCells l) w:=by
  have hA:∀q',q=q'→Lib.BuilderAt 126 5 p.block p.block q' (Lib.byteCells l) w:=by
   rintro _ rfl;refine ⟨Nat.le_refl _,s.v,hB.blk,hown,?_⟩;intro e;unfold Value.ownBlock Sl.v at e;cases ha:s.a with
   | none=>rw [ha] at e;cases e
   | some a =>
    rw [ha] at e
    simp at e
    have:=hb a.block ⟨a,ha,rfl⟩
    omega
  rcases hq with h | h
  ·exact .inl (hA _ h)
  ·refine .inr ?_;have:=hA _ h;rwa [hp] at this
 have hlt:=hB.lt
 have:=jRH p.block p.block l w hat (by omega)
 rw [← hp] at this
 refine this.mono ?_
 rintro _ w' ⟨rfl,h2⟩
 exact ⟨_,rfl,rfl,jPG h2⟩
end
end Go.Proofs
end
section
open Go Go.SE
open Go.IntKind renaming i64 → q6
namespace Go.Proofs
open Tryz
set_option maxRecDepth 100000
set_option maxHeartbeats 4000000
attribute [local irreducible] wpL wpX opE wpE Calls
def m_C2 (n1:Int) (w0:World) (K:ByteArray→WP):Prop :=Br (decide (n1<10)) (∃s1,(Instr.sliceAt 9 (vs (⟨#[48,49,50,51,52,53,54,55,56,57]⟩:ByteArray)) (some (vu n1)) (some (vu (IntKind.u64.wrap (n1+1)))) none).run prog w0=.ok (vs s1) w0∧K s1 w0) (∃z1,(Go.binOp .quo 26 (vu n1) (vu 10)).run prog w0=.ok (vu z1) w0∧Calls prog 48 #[(vu z1)] w0 (fun e w1=>∃r1,e=.returned (vs r1)∧∃z2,(Go.binOp .rem 26 (vu n1) (vu 10)).run prog w1=.ok (vu z2) w1∧Calls prog 48 #[(vu z2)] w1 (fun e w2=>∃r2,e=.returned (vs r2)∧∃s2,(Go.binOp .add 9 (vs r1) (vs r2)).run prog w2=.ok (vs s2) w2∧K s2 w2)))
theorem w_C2 (n1 w0 K) (h:m_C2 n1 w0 K):
  Calls prog 48 #[(vu n1)] w0 (fun e w'=>∃r3,e=.returned (vs r3)∧K r3 w'):=by
 refine cw (args:=[(vu n1)]) func48 ntmps48 (eg (q0 ve (ln (zB (eg (q0 (vu n1) (q0 (vb (decide (n1<10))) (zC ?_))))))))
 refine zN (cbr h ?_ ?_)<;>intro h
 refine eg (qc ?_)
 obtain ⟨s1,hv1,h⟩:=h
 refine q2 (vs s1) (qU (by kernel_rfl) (by kernel_rfl) (by kernel_rfl) (by kernel_rfl) hv1) (q (ln (er (vA (rs1 results48 ⟨s1,rfl,h⟩)))))
 refine zD (zN (eg (q ?_)))
 obtain ⟨z1,hv4,h⟩:=h
 refine q2 (vu z1) (qN (by kernel_rfl) (by kernel_rfl) (by kernel_rfl) hv4) (sc call48 (h.mono fun e w1 ⟨r1,k,h⟩=>⟨_,k,?_⟩))
 refine q ?_
 obtain ⟨z2,hv3,h⟩:=h
 refine q2 (vu z2) (qN (by kernel_rfl) (by kernel_rfl) (by kernel_rfl) hv3) (sc call48 (h.mono fun e w2 ⟨r2,k,h⟩=>⟨_,k,?_⟩))
 obtain ⟨s2,hv2,h⟩:=h
 refine q2 (vs s2) (qN (by kernel_rfl) (by kernel_rfl) (by kernel_rfl) hv2) (q (ln (er (rs1 results48 ⟨s2,rfl,h⟩))))
def m_E5 (i1 base1:Int) (w0:World) (K:ByteArray→WP):Prop :=Br (base1 == 10) (Br (decide (i1<100)) (Calls prog 176 #[(vi (q6.wrap i1))] w0 (fun e w1=>∃r1,e=.returned (vs r1)∧K r1 w1)) (∀p1 w2,New w0 (.cells #[(.int .u8 0),(.int .u8 0),(.int .u8 0),(.int .u8 0),(.int .u8 0),(.int .u8 0),(.int .u8 0),(.int .u8 0),(.int .u8 0),(.int .u8 0),(.int .u8 0),(.int .u8 0),(.int .u8 0),(.int .u8 0),(.int .u8 0),(.int .u8 0),(.int .u8 0),(.int .u8 0),(.int .u8 0),(.int .u8 0),(.int .u8 0),(.int .u8 0),(.int .u8 0),(.int .u8 0)] 244) p1 w2→Calls prog 177 #[(vu i1)] w2 (fun e w3=>∃r2,e=.returned (vi r2)∧∃s1:Sl,(Instr.sliceAt 244 (vp (some p1)) none (some (vi r2)) none).run prog w3=.ok s1.v w3∧Calls prog 178 #[s1.v,(vu i1)] w3 (fun e w4=>e=.returned (.tuple #[])∧∃s2:Sl,(Instr.sliceAt 244 (vp (some p1)) none (some (vi r2)) none).run prog w4=.ok s2.v w4∧∃c1,(convert 54 9 s2.v).run prog w4=.ok (vs c1) w4∧K c1 w4)))) (Calls prog 179 #[Sl.nil.v,(vu i1),(vi base1),(vb false),(vb false)] w0 (fun e w5=>∃r3:Sl,∃r4,e=.returned (.tuple #[r3.v,(vs r4)])∧K r4 w5))
theorem w_E5 (i1 base1 w0 K) (h:m_E5 i1 base1 w0 K):
  Calls prog 135 #[(vu i1),(vi base1)] w0 (fun e w'=>∃r5,e=.returned (vs r5)∧K r5 w'):=by
 refine cw (args:=[(vu i1),(vi base1)]) func135 ntmps135 (eg (q0 ve (ln (zB (eg (q0 (vi base1) (q0 (vb (base1 == 10)) (zC ?_))))))))
 refine zN (cbr h ?_ ?_)<;>intro h
 refine zB (eg (qb (ln (cbr h ?_ ?_))))<;>intro h
 refine eg (qb (sc call176 (h.mono fun e w1 ⟨r1,k,h⟩=>⟨_,k,?_⟩)))
 refine q (ln (er (vA (vA (rs1 results135 ⟨r1,rfl,h⟩)))))
 refine zD (zN (eg (nw1 h (zI (zeroValue244 _) rfl) fun p1 w2 h=>ln (eg (q (sc call177 (h.mono fun e w3 ⟨r2,k,h⟩=>⟨_,k,?_⟩)))))))
 refine q (ln (eg (q ?_)))
 obtain ⟨s1,hv3,h⟩:=h
 refine q2 s1.v (qU (by kernel_rfl) (by kernel_rfl) (by kernel_rfl) (by kernel_rfl) hv3) (q (sc call178 (h.mono fun e w4 ⟨k,h⟩=>⟨_,k,?_⟩)))
 refine ln (eg (q ?_))
 obtain ⟨s2,hv2,h⟩:=h
 refine q2 s2.v (qU (by kernel_rfl) (by kernel_rfl) (by kernel_rfl) (by kernel_rfl) hv2) ?_
 obtain ⟨c1,hv1,h⟩:=h
 refine q2 (vs c1) (xS (by kernel_rfl) hv1) (q (ln (er (vA (rs1 results135 ⟨c1,rfl,h⟩)))))
 refine zD (zN (eg (qb (sc call179 (h.mono fun e w5 ⟨r3,r4,k,h⟩=>⟨_,k,?_⟩)))))
 refine q (qd (ln (eg (qb (zC (zN (er (rs1 results135 ⟨r4,rfl,h⟩))))))))
def m_F5 (i1 base1:Int) (w0:World) (K:ByteArray→WP):Prop :=Calls prog 135 #[(vu i1),(vi base1)] w0 (fun e w1=>∃r1,e=.returned (vs r1)∧K r1 w1)
theorem w_F5 (i1 base1 w0 K) (h:m_F5 i1 base1 w0 K):
  Calls prog 79 #[(vu i1),(vi base1)] w0 (fun e w'=>∃r2,e=.returned (vs r2)∧K r2 w'):=by
 refine cw (args:=[(vu i1),(vi base1)]) func79 ntmps79 (eg (q0 ve (ln (eg (q0 (vu i1) (q0 (vi base1) ?_))))))
 refine sc call135 (h.mono fun e w1 ⟨r1,k,h⟩=>⟨_,k,?_⟩)
 refine q (ln (er (rs1 results79 ⟨r1,rfl,h⟩)))
end Go.Proofs
end
section
open Go Go.SE
namespace Go.SE
theorem jCN {w:World} {k:Nat} {os:Array Obj}:Pure w (Sort.grow (w.drewN k) os):=by
 refine ⟨rfl,rfl,rfl,(by first | exact Nat.le_add_right _ _ | exact Nat.le_refl _),by simp [Sort.grow,World.drewN],fun b hb _=>?_⟩;show (w.heap++os)[b]?=w.heap[b]?;exact Array.getElem?_append_left hb
theorem uR {P:Program} {w w':World} {name:String} {k:IntKind} {zs:List Int} (h:Lib.TabIs P w name k zs) (E:Pure w w'):Lib.TabIs P w' name k zs:=by
 unfold Lib.TabIs World.var? at *;cases hg:P.globalNamed name with
 | none=>simp [hg] at h
 | some g =>
  simp only [hg,Option.bind_some] at h ⊢
  have hlt:g<w.heap.size:=by
   rcases Nat.lt_or_ge g w.heap.size with h' | h'
   ·exact h'
   ·rw [Array.getElem?_eq_none h'] at h;simp at h
  rw [E.keep g hlt id]
  exact h
theorem jKG (w:World) (T:TypeId) (nd:Nat) (hs:nd≤24):Sort.Holds (fun (b:UInt8)=>Value.int .u8 (b.toNat:Int)) (w.alloc (.cells Lib.zeros24 T)) w.heap.size 0 (Array.replicate nd (0:UInt8)):=fun j hj=>by
 have hj':j<nd:=by simpa using hj
 refine ⟨?_,World.frozen?_alloc_new _ _ _ _⟩;rw [World.cell?_alloc_new,Lib.zeros24_at _ (by omega),getElem!_pos _ j hj];simp
theorem jRS (w:World) (o:Obj) (dk:Array UInt8) (k:Nat):∃os,(Sort.putRow (fun (b:UInt8)=>Value.int .u8 (b.toNat:Int)) (w.alloc o) w.heap.size 0 dk).drewN k=Sort.grow (w.drewN k) os:=by
 rw [Sort.alloc_eq_grow];obtain ⟨os',_,e⟩:=Sort.putRow_grow_new (fun (b:UInt8)=>Value.int .u8 (b.toNat:Int)) w #[o] w.heap.size 0 dk (Nat.le_refl _);exact ⟨os',by rw [e];rfl⟩
end Go.SE
namespace Go.Proofs
open Tryz
attribute [local irreducible] Calls
abbrev Pow (w : World) : Prop := Lib.TabIs prog w "internal/strconv.uint64pow10" .u64 Lib.pow10Tab
theorem jJH (n:Nat) (hn:n<18446744073709551616) (w0:World) (ht:Pow w0) :
  Calls prog 79 #[.int .u64 (n:Int),.int .i64 10] w0 (fun e w'=>∃r:ByteArray,e=.returned (.string r)∧r=⟨(Lib.decDigits n).toArray⟩∧Pure w0 w'):=by
 refine w_F5 _ _ w0 (fun r w'=>r=⟨(Lib.decDigits n).toArray⟩∧Pure w0 w') ?_
 unfold m_F5
 refine w_E5 _ _ w0 (fun r w'=>r=⟨(Lib.decDigits n).toArray⟩∧Pure w0 w') ?_
 unfold m_E5
 refine ⟨fun _=>⟨fun h=>?_,fun h=>?_⟩,fun h=>absurd h (by decide)⟩
 ·have h:=of_decide_eq_true h
  have hw:IntKind.i64.wrap (n:Int)=(n:Int):=IntWalk.i64_in _ ⟨by omega,by omega⟩
  rw [hw]
  refine (jOW n (by omega) w0).mono ?_
  rintro _ w1 ⟨rfl,rfl⟩
  exact ⟨_,rfl,rfl,Ext.refl _⟩
 ·have h:¬ (n:Int)<100:=of_decide_eq_false h
  intro p1 w2 h2
  obtain ⟨hp,hw⟩:=h2
  subst hp;subst hw
  have hnd:=Lib.numDigits_eq n (by omega) hn
  have hnd20:Lib.nDigits n≤20:=by split at hnd <;> omega
  refine (jGK n (by omega) hn _ (Lib.tabIs_alloc ht _)).mono ?_
  rintro _ w3 ⟨rfl,rfl⟩
  have hal:prog.arrayLen 244=24:=by simp [Program.arrayLen,underlying244]
  have hsl:∀W,(Instr.sliceAt 244 (.pointer (some ⟨w0.heap.size,0,none⟩)) none (some (.int .i64 (Lib.nDigits n:Int))) none).run prog W=.ok (Sl.mk (some ⟨w0.heap.size,0,none⟩) (Lib.nDigits n) 24).v W:=fun W=>by
   rw [run_sliceAt_array_h W 244 ⟨w0.heap.size,0,none⟩ (by simp [Program.arrayLen,Program.elem,underlying244]) .i64 (Lib.nDigits n:Int) (by omega) (by rw [hal];omega)];go_simp;unfold Sl.v;simp
  refine ⟨_,rfl,Sl.mk (some ⟨w0.heap.size,0,none⟩) (Lib.nDigits n) 24,hsl _,?_⟩
  have hH0:=jKG w0 244 (Lib.nDigits n) (by omega)
  have hf:=jMS w0.heap.size 0 24 n (Array.replicate (Lib.nDigits n) 0) _ hH0 (by rw [Array.size_replicate];exact Lib.lt_pow_nDigits n) hn (by rw [Array.size_replicate];omega)
  rw [Array.size_replicate] at hf
  have hH1:=Lib.hid hH0
  refine Calls.mono hf ?_
  rintro _ w4 ⟨rfl,k,v',dk,rfl,hF⟩
  refine ⟨rfl,Sl.mk (some ⟨w0.heap.size,0,none⟩) (Lib.nDigits n) 24,hsl _,⟨(Lib.decDigits n).toArray⟩,?_,rfl,?_⟩
  ·have h := run_convert_bytes_back (P := prog) ((Sort.putRow (fun (b : UInt8) => Value.int .u8 (b.toNat : Int)) (w0.alloc (.cells Lib.zeros24 244)) w0.heap.size 0 dk).drewN k) 54 9 5 ⟨w0.heap.size, 0, none⟩ 24 (Lib.decDigits n) underlying54 underlying5 underlying9 (fun j hj => by
    rw [Lib.row_is_numeral hF j hj,Lib.add_plain,World.cell?_drewN];exact Sort.cell?_putRow (fun (b:UInt8)=>Value.int .u8 (b.toNat:Int)) _ w0.heap.size 0 _ dk hH1.out (by rw [hF.size,Array.size_replicate]) j (by rw [hF.size];rw [Lib.decDigits_length] at hj;exact hj))
   rw [Lib.decDigits_length] at h
   exact h
  ·obtain ⟨os,eo⟩:=jRS w0 (.cells Lib.zeros24 244) dk k
   have E:Pure w0 (Sort.grow (w0.drewN k) os):=jCN
   rw [← eo] at E
   exact E
theorem c_Itoa (n:Int) (h0:-9223372036854775808≤n) (h1:n≤9223372036854775807) (w0:World) (ht:Pow w0) :
  Calls prog 78 #[.int .i64 n] w0 (fun e w'=>∃r:ByteArray,e=.returned (.string r)∧r=⟨(Lib.itoa n).toArray⟩∧Pure w0 w'):=by
 refine (jRI n h0 h1 w0 ht).mono ?_
 rintro _ w1 ⟨rfl,k,os,rfl⟩
 exact ⟨_,rfl,rfl,jCN⟩
theorem nd20 {n:Nat} (h:n<18446744073709551616):(Lib.decDigits n).length≤20:=by
 rw [Lib.decDigits_length];by_cases h0:n<10
 ·rw [Lib.nDigits_small h0];omega
 ·have:=Lib.numDigits_eq n (by omega) h;split at this <;> omega
theorem jTP {P:Program} {t:TypeId} {w:World} (x y:List UInt8) (hx:x.length≤1000) (hy:y.length≤1000) :
  (Go.binOp .add t (.string ⟨x.toArray⟩) (.string ⟨y.toArray⟩)).run P w=.ok (.string ⟨(x++y).toArray⟩) w:=by
 rw [binOp_string_add]
 exact run_string_add_lists w x y (by omega) (by omega)
theorem jSS (n:Nat) (h:n<10) (w:World):(Instr.sliceAt 9 (.string (⟨#[48,49,50,51,52,53,54,55,56,57]⟩:ByteArray)) (some (.int .u64 (n:Int))) (some (.int .u64 (IntKind.u64.wrap ((n:Int)+1)))) none).run prog w=.ok (.string ⟨(Lib.decDigits n).toArray⟩) w:=by
 have hw:IntKind.u64.wrap ((n:Int)+1)=((n+1:Nat):Int):=by rw [show (n:Int)+1=((n+1:Nat):Int) by omega,vX (by omega)]
 rw [Lib.decDigits_one h,hw,run_sliceAt_string _ _ _ _ _ _ underlying9,run_slice_string_if _ _ _ _ _ _ _ underlying9,if_pos ⟨by omega,by show ((n+1:Nat):Int)≤10;omega⟩,if_pos ⟨by omega,by omega⟩];have he:∀m:Fin 10,(⟨#[48,49,50,51,52,53,54,55,56,57]⟩:ByteArray).extract m.val (m.val+1)=⟨[UInt8.ofNat (48+m.val)].toArray⟩:=by decide +kernel
 have:=he ⟨n,h⟩;simp only [Int.toNat_natCast] at this ⊢;rw [this]
theorem jOF {P:Program} {t:TypeId} {w:World} (n:Nat) (h:n<18446744073709551616):(Go.binOp .quo t (.int .u64 (n:Int)) (.int .u64 10)).run P w=.ok (.int .u64 ((n / 10:Nat):Int)) w:=by
 have:IntKind.u64.wrap ((n:Int).tdiv 10)=((n / 10:Nat):Int):=by
  rw [Int.tdiv_eq_ediv_of_nonneg (by omega)];simp only [IntKind.wrap,IntKind.bits,IntKind.signed];simp;omega
 show ((pure (Value.int .u64 (IntKind.u64.wrap ((n:Int).tdiv 10))):Sem Value)).run P w=_;rw [this];rfl
theorem jOE {P:Program} {t:TypeId} {w:World} (n:Nat):(Go.binOp .rem t (.int .u64 (n:Int)) (.int .u64 10)).run P w=.ok (.int .u64 ((n % 10:Nat):Int)) w:=by
 have:(n:Int).tmod 10=((n % 10:Nat):Int):=by
  rw [Int.tmod_eq_emod_of_nonneg (by omega)];simp
 simp [Go.binOp,Op.intDiv,this]
theorem jPY:∀(m n:Nat),n≤m→n<18446744073709551616→∀w0:World,
  Calls prog 48 #[.int .u64 (n:Int)] w0 (fun e w'=>∃r:ByteArray,e=.returned (.string r)∧r=⟨(Lib.decDigits n).toArray⟩∧w'=w0):=by
 intro m
 induction m with
 | zero =>
  intro n hm hn w0
  refine w_C2 _ w0 (fun r w'=>r=⟨(Lib.decDigits n).toArray⟩∧w'=w0) ?_
  unfold m_C2
  refine ⟨fun h=>?_,fun h=>?_⟩
  ·exact ⟨_,jSS n (by omega) w0,rfl,rfl⟩
  ·have:=of_decide_eq_false h;omega
 | succ m ih =>
  intro n hm hn w0
  refine w_C2 _ w0 (fun r w'=>r=⟨(Lib.decDigits n).toArray⟩∧w'=w0) ?_
  unfold m_C2
  refine ⟨fun h=>?_,fun h=>?_⟩
  ·have h:=of_decide_eq_true h
   exact ⟨_,jSS n (by omega) w0,rfl,rfl⟩
  ·have h:=of_decide_eq_false h
   refine ⟨_,jOF n hn,?_⟩
   refine (ih (n / 10) (by omega) (by omega) w0).mono ?_
   rintro _ w1 ⟨r1,rfl,rfl,rfl⟩
   refine ⟨_,rfl,_,jOE n,?_⟩
   refine (ih (n % 10) (by omega) (by omega) w1).mono ?_
   rintro _ w2 ⟨r2,rfl,rfl,rfl⟩
   have h1:=nd20 (n:=n / 10) (by omega)
   have h2:=nd20 (n:=n % 10) (by omega)
   refine ⟨_,rfl,_,jTP _ _ (by omega) (by omega),?_,rfl⟩
   have e:Lib.decDigits n=Lib.decDigits (n / 10)++Lib.decDigits (n % 10):=by
    rw [Lib.decDigits,dif_neg (by omega),Lib.decDigits_one (i:=n % 10) (by omega)]
   rw [e]
theorem jLR (n:Nat) (hn:n<18446744073709551616) (w0:World) :
  Calls prog 48 #[.int .u64 (n:Int)] w0 (fun e w'=>∃r:ByteArray,e=.returned (.string r)∧r=⟨(Lib.decDigits n).toArray⟩∧w'=w0):=jPY n n (Nat.le_refl _) hn w0
end Go.Proofs
end
section
open Go Go.SE
namespace Go.Proofs
open Tryz
attribute [local irreducible] Calls
theorem jNR:∀n:Fin 128,Utf8.encode (n.val:Int)=⟨#[UInt8.ofNat n.val]⟩:=by decide +kernel
theorem jKX (n:Nat) (h:n<128) (w:World):(convert 21 9 (.int .i32 (IntKind.i32.wrap (n:Int)))).run prog w=.ok (.string ⟨#[UInt8.ofNat n]⟩) w:=by
 have hw:IntKind.i32.wrap (n:Int)=(n:Int):=by simp [IntKind.wrap,IntKind.bits,IntKind.signed];omega
 rw [hw];have:=jNR ⟨n,h⟩;simp only at this;simp [convert,run_underlying underlying21,run_underlying underlying9,Conv.intToString,this]
theorem jLH (n:Nat) (h:n<16) (w:World):(Instr.sliceAt 9 (.string Sp.hexT) (some (.int .u8 (n:Int))) (some (.int .u8 (IntKind.u8.wrap ((n:Int)+1)))) none).run prog w=.ok (.string ⟨#[Sp.jPA n]⟩) w:=by
 have hw:IntKind.u8.wrap ((n:Int)+1)=((n+1:Nat):Int):=by simp [IntKind.wrap,IntKind.bits,IntKind.signed];omega
 rw [hw,run_sliceAt_string _ _ _ _ _ _ underlying9,run_slice_string_if _ _ _ _ _ _ _ underlying9,if_pos ⟨by omega,by show ((n+1:Nat):Int)≤16;omega⟩,if_pos ⟨by omega,by omega⟩];have he:∀m:Fin 16,Sp.hexT.extract m.val (m.val+1)=⟨#[Sp.jPA m.val]⟩:=by decide +kernel
 have:=he ⟨n,h⟩;simp only [Int.toNat_natCast] at this ⊢;rw [this]
theorem jKW {P:Program} {t:TypeId} (n:Nat) (w:World):(Go.binOp .shr t (.int .u8 (n:Int)) (.int .u64 4)).run P w=.ok (.int .u8 ((n / 16:Nat):Int)) w:=by
 simp [Go.binOp,go_sem,IntKind.bits]
theorem jHN {P:Program} {t:TypeId} (c:Nat) (h:c<256) (w:World):(Go.binOp .and t (.int .u8 (c:Int)) (.int .u8 15)).run P w=.ok (.int .u8 ((c % 16:Nat):Int)) w:=by
 have hr:IntKind.u8.wrap ((BitVec.ofInt IntKind.u8.bits (c:Int) &&& BitVec.ofInt IntKind.u8.bits 15).toNat:Int)=((c % 16:Nat):Int):=by
  have e1:(BitVec.ofInt IntKind.u8.bits (c:Int)).toNat=c:=by
   rw [BitVec.toNat_ofInt];simp [IntKind.bits];omega
  have e2:(BitVec.ofInt IntKind.u8.bits 15).toNat=2 ^ 4 - 1:=by decide
  rw [BitVec.toNat_and,e1,e2,Nat.and_two_pow_sub_one_eq_mod,tE];simp only [UInt8.toNat_ofNat'];omega
 show ((pure (Value.int .u8 _):Sem Value)).run P w=_;rw [hr];rfl
theorem vZ {P:Program} {t:TypeId} (w:World) (x y:List UInt8) (hx:x.length≤100000) (hy:y.length≤100000) :
  (Go.binOp .add t (.string ⟨x.toArray⟩) (.string ⟨y.toArray⟩)).run P w=.ok (.string ⟨(x++y).toArray⟩) w:=by
 rw [binOp_string_add]
 exact run_string_add_lists w x y (by omega) (by omega)
theorem jNG (c:UInt8) (w0:World):Calls prog 80 #[.int .u8 (c.toNat:Int)] w0 (fun e w'=>∃r:ByteArray,e=.returned (.string r)∧(r=⟨(Sp.jAY c).toArray⟩∧Pure w0 w')):=by
 refine w_I1 _ w0 (fun r w'=>r=⟨(Sp.jAY c).toArray⟩∧Pure w0 w') ?_;unfold m_I1;have hc:c.toNat<256:=c.toNat_lt;have ofN:UInt8.ofNat c.toNat=c:=by simp
 refine ⟨fun h=>?_,fun h=>⟨fun h2=>?_,fun h2=>⟨fun h3=>?_,fun h3=>?_⟩⟩⟩
 ·intro H2 w3 hs;have h:c.toNat=34∨c.toNat=92:=by simp at h;omega
  refine ⟨_,jKX c.toNat (by omega) w3,_,vZ w3 [92] [c] (by simp) (by simp) |> (fun h=>by rw [ofN];exact h),?_,hs.first⟩;unfold Sp.jAY;rw [if_pos h];rfl
 ·intro H2 w3 hs;have h:¬ (c.toNat=34∨c.toNat=92):=by simp at h;omega
  have h2:c.toNat=10:=by simp at h2;omega
  refine ⟨?_,hs.first⟩;unfold Sp.jAY;rw [if_neg h,if_pos h2]
 ·intro H5 w6 hs;have h:¬ (c.toNat=34∨c.toNat=92):=by simp at h;omega
  have h2:¬ c.toNat=10:=by simp at h2;omega
  have h3:32≤c.toNat∧c.toNat≤126:=by simp at h3;omega
  refine ⟨_,jKX c.toNat (by omega) w6,?_,hs.first⟩;unfold Sp.jAY;rw [if_neg h,if_neg h2,if_pos h3,ofN]
 ·intro H5 w6 hs;have h:¬ (c.toNat=34∨c.toNat=92):=by simp at h;omega
  have h2:¬ c.toNat=10:=by simp at h2;omega
  have h3:¬ (32≤c.toNat∧c.toNat≤126):=by simp at h3;omega
  unfold m_I1_j1;intro w1 hs1;refine ⟨_,jKW c.toNat w1,_,jKW c.toNat w1,_,jLH (c.toNat / 16) (by omega) w1,_,vZ w1 [92,120] [Sp.jPA (c.toNat / 16)] (by simp) (by simp),_,jHN c.toNat hc w1,_,jHN c.toNat hc w1,_,jLH (c.toNat % 16) (by omega) w1,_,vZ w1 [92,120,Sp.jPA (c.toNat / 16)] [Sp.jPA (c.toNat % 16)] (by simp) (by simp),?_,hs.first.hst hs1⟩;unfold Sp.jAY;rw [if_neg h,if_neg h2,if_neg h3];rfl
end Go.Proofs
namespace Go.Proofs
open Tryz
attribute [local irreducible] Calls
theorem jOZ (x:ByteArray) (n:Nat) (h:n<x.data.toList.length) (w:World):(Instr.index 9 (.string x) (.int .i64 (n:Int))).run prog w=.ok (.int .u8 ((x.data.toList[n]).toNat:Int)) w:=by
 have hs:x.size=x.data.toList.length:=by rw [Array.length_toList];rfl
 have hn:n<x.size:=by omega
 rw [run_index_string w _ _ _ _ underlying9,dif_pos ⟨by omega,by omega⟩];rfl
theorem From.own {p2:Addr} {w0 w w':World} (h2:w0.heap.size≤p2.block) (hE:Pure w0 w) (E:Ext (From p2) w w'):Pure w0 w':=hE.trans' E (fun i hi hf=>by have:p2.block≤i:=hf;omega)
theorem From.kept {p2:Addr} {H:NP} {w w':World} (hH:∀b,H b→b<p2.block) (E:Ext (From p2) w w'):Kept H w w':=E.kept (fun b hb hf=>by have:=hH b hb;have:p2.block≤b:=hf;omega)
abbrev kbox (k:Int) (wd:ByteArray):List Value:=[.bool (Sp.isSigned k),.bool (Sp.isTexted k),.bool (k == 1 || k == 4),.string wd]
theorem jSU (k:Int) (c:Nat) (hc:c<18446744073709551616) (x:ByteArray) (hx:x.size≤64) (wd:ByteArray) (p p2:Addr) {w0 w:World} {H:NP} {T:TypeId} (acc:List UInt8) (ha:acc.length≤1000)
  (hB:Box w p (kbox k wd) T) (hp:p.block<p2.block) (hH:∀b,H b→b<p2.block) (h2:w0.heap.size≤p2.block) (hb:Bld w p2 acc) (hE:Pure w0 w) (ht:Pow w0) :
  m_J_j3 (c:Int) x p p2 w0 H w (fun r w'=>r=⟨(acc++(32 :: Lib.decDigits c)++(if Sp.isTexted k=true then 32 :: Sp.jAH x else [])).toArray⟩∧Pure w0 w'):=by
 unfold m_J_j3
 have hd:=nd20 hc
 have hxl:x.data.toList.length=x.size:=by rw [Array.length_toList];rfl
 refine (jJH c hc w (uR ht hE)).mono ?_
 rintro _ w5 ⟨r4,rfl,rfl,E5⟩
 refine ⟨_,rfl,E5.keptP,_,vZ w5 [32] _ (by simp) (by omega),?_⟩
 have hE5:=hE.trans E5
 refine (jIO (hb.pure E5) ⟨([32]++Lib.decDigits c).toArray⟩ (by simp [ByteArray.size];omega)).mono ?_
 rintro _ w6 ⟨r5,r6,rfl,b6,E6⟩
 have hE6:=From.own h2 hE5 E6
 have B6:=(hB.pure E5).ext E6 (fun hf=>by have:p2.block≤p.block:=hf;omega)
 have ea:acc++(ByteArray.mk ([32]++Lib.decDigits c).toArray).data.toList=acc++(32 :: Lib.decDigits c):=by simp
 rw [ea] at b6
 generalize hacc:acc++(32 :: Lib.decDigits c)=acc2 at *
 have ha2:acc2.length≤1100:=by rw [← hacc];simp;omega
 refine ⟨_,_,rfl,From.kept hH E6,_,B6.cell (i:=1) rfl,fun ht'=>?_,fun ht'=>?_⟩
 ·rw [if_pos ht']
  refine (jIO b6 ⟨#[32,34]⟩ (by simp [ByteArray.size];omega)).mono ?_
  rintro _ w7 ⟨r7,r8,rfl,b7,E7⟩
  have hE7:=From.own h2 hE6 E7
  refine ⟨_,_,rfl,From.kept hH E7,fun i H' w'=>∃n:Nat,i=n∧n≤x.data.toList.length∧(∀b,H' b→b<p2.block)∧Bld w' p2 (acc2++[32,34]++(x.data.toList.take n).flatMap Sp.jAY)∧Pure w0 w',fun i _=>((x.data.toList.length:Int) - i).toNat,⟨0,rfl,Nat.zero_le _,hH,by simpa using b7,hE7⟩,?_⟩
  rintro _ Hl wl hsl ⟨n,rfl,hn,hHl,bl,El⟩
  unfold m_J_l4
  have hfl:((x.data.toList.take n).flatMap Sp.jAY).length≤256:=by
   have:=Sp.jGP (x.data.toList.take n);rw [List.length_take] at this;omega
  refine ⟨fun hlt=>?_,fun hlt=>?_⟩
  ·have hlt:n<x.data.toList.length:=by have:=of_decide_eq_true hlt;omega
   refine ⟨_,jOZ x n hlt wl,?_⟩
   refine (jNG x.data.toList[n] wl).mono ?_
   rintro _ w8 ⟨r9,rfl,rfl,E8⟩
   refine ⟨_,rfl,E8.keptP,?_⟩
   have he:=Sp.jLL x.data.toList[n]
   refine (jIO (bl.pure E8) ⟨(Sp.jAY x.data.toList[n]).toArray⟩ (by rw [List.length_append,List.length_append];simp only [ByteArray.size,List.size_toArray,List.length_cons,List.length_nil];omega)).mono ?_
   rintro _ w9 ⟨r10,r11,rfl,b9,E9⟩
   refine ⟨_,_,rfl,From.kept hHl E9,?_⟩
   rw [vK hlt (by omega)]
   refine ⟨⟨n+1,rfl,hlt,hHl,?_,From.own h2 (El.trans E8) E9⟩,jAK hlt⟩
   rw [List.take_succ_eq_append_getElem hlt,List.flatMap_append,← List.append_assoc]
   simpa using b9
  ·have:n=x.data.toList.length:=by have:=of_decide_eq_false hlt;omega
   subst this
   rw [List.take_length] at bl
   refine (jPL bl 34 (by rw [List.take_length] at hfl;rw [List.length_append,List.length_append];simp only [List.length_cons,List.length_nil];omega)).mono ?_
   rintro _ w10 ⟨r12,rfl,b10,E10⟩
   refine ⟨_,rfl,From.kept hHl E10,?_⟩
   refine (jSZ b10).mono ?_
   rintro _ w11 ⟨r13,rfl,rfl,E11⟩
   refine ⟨_,rfl,From.kept hHl E11,?_,From.own h2 (From.own h2 El E10) E11⟩
   simp [Sp.jAH]
 ·rw [if_neg (by rw [ht'];decide),List.append_nil]
  refine (jSZ b6).mono ?_
  rintro _ w12 ⟨r14,rfl,rfl,E12⟩
  exact ⟨_,rfl,From.kept hH E12,rfl,From.own h2 hE6 E12⟩
theorem jMU {n:Int} (h:n=0∨n=1):Lib.itoa n=Lib.decDigits n.toNat:=by rcases h with rfl | rfl <;> kernel_rfl
theorem jSV (k f:Int) (hf:f=0∨f=1) (c:Nat) (hc:c<18446744073709551616) (x:ByteArray) (hx:x.size≤64) (g:Bool) (p:Addr) {w0 w:World} {H:NP} {T:TypeId}
  (hB:Box w p (kbox k ⟨(Sp.tU k).toArray⟩) T) (hH:∀b,H b→b<w.heap.size) (hE:Pure w0 w) (ht:Pow w0) :
  m_J_j1 f (c:Int) x g p w0 H w (fun r w'=>r=⟨(Sp.tU k++(if g=true then [33] else [])++(if Sp.isSigned k=true then 32 :: Lib.decDigits f.toNat else [])++(32 :: Lib.decDigits c)++(if Sp.isTexted k=true then 32 :: Sp.jAH x else [])).toArray⟩∧Pure w0 w'):=by
 unfold m_J_j1
 intro p2 w3 n2
 have hp2:=n2.at_size
 have E3:Pure w w3:=Ext.new n2
 have B3:=hB.pure E3
 have hpl:=hB.lt
 have h2:w0.heap.size≤p2.block:=by have:=hE.size;omega
 have hH2:∀b,H b→b<p2.block:=fun b hb=>by have:=hH b hb;omega
 have hE3:=hE.trans E3
 have hw:=Sp.jHD k
 refine ⟨_,B3.cell (i:=3) rfl,?_⟩
 refine (jIO (Bld.new n2) ⟨(Sp.tU k).toArray⟩ (by simp [ByteArray.size];omega)).mono ?_
 rintro _ w4 ⟨r2,r3,rfl,b4,E4⟩
 have B4:=B3.ext E4 (fun hf=>by have:p2.block≤p.block:=hf;omega)
 have hE4:=From.own h2 hE3 E4
 rw [show []++(ByteArray.mk (Sp.tU k).toArray).data.toList=Sp.tU k by simp] at b4
 have j2:∀acc w,acc.length≤20→Box w p (kbox k ⟨(Sp.tU k).toArray⟩) T→Bld w p2 acc→Pure w0 w→m_J_j2 f (c:Int) x p p2 w0 H w (fun r w'=>r=⟨(acc++(if Sp.isSigned k=true then 32 :: Lib.decDigits f.toNat else [])++(32 :: Lib.decDigits c)++(if Sp.isTexted k=true then 32 :: Sp.jAH x else [])).toArray⟩∧Pure w0 w'):=by
  intro acc w ha B b E;unfold m_J_j2;refine ⟨_,B.cell0,fun hs=>?_,fun hs=>?_⟩
  ·rw [if_pos hs];refine (c_Itoa f (by omega) (by omega) w (uR ht E)).mono ?_;rintro _ w13 ⟨r15,rfl,rfl,E13⟩;rw [jMU hf];have hd:=nd20 (n:=f.toNat) (by omega);refine ⟨_,rfl,E13.keptP,_,vZ w13 [32] _ (by simp) (by omega),?_⟩;refine (jIO (b.pure E13) ⟨([32]++Lib.decDigits f.toNat).toArray⟩ (by simp [ByteArray.size];omega)).mono ?_;rintro _ w14 ⟨r16,r17,rfl,b14,E14⟩;replace b14:Bld w14 p2 (acc++(32 :: Lib.decDigits f.toNat)):=by simpa using b14
   have B14:=(B.pure E13).ext E14 (fun hf=>by have:p2.block≤p.block:=hf;omega);exact ⟨_,_,rfl,From.kept hH2 E14,jSU k c hc x hx _ p p2 _ (by simp;omega) B14 (by omega) hH2 h2 b14 (From.own h2 (E.trans E13) E14) ht⟩
  ·rw [if_neg (by rw [hs];decide),List.append_nil];exact jSU k c hc x hx _ p p2 _ (by omega) B (by omega) hH2 h2 b E ht
 refine ⟨_,_,rfl,From.kept hH2 E4,fun hg=>?_,fun hg=>?_⟩
 ·rw [if_pos hg]
  refine (jPL b4 33 (by omega)).mono ?_
  rintro _ w15 ⟨r18,rfl,b15,E15⟩
  exact ⟨_,rfl,From.kept hH2 E15,j2 _ w15 (by simp;omega) (B4.ext E15 (fun hf=>by have:p2.block≤p.block:=hf;omega)) b15 (From.own h2 hE4 E15)⟩
 ·rw [if_neg (by rw [hg];decide),List.append_nil]
  exact j2 _ w4 (by omega) B4 b4 hE4
set_option maxRecDepth 100000 in
theorem jJE (l:Sp.Letter) (hc:Sp.uJ l.c) (w0:World) (ht:Pow w0):Calls prog 35 #[.agg #[.int .i64 l.kind,.int .i64 l.frm,.int .u64 l.c,.string l.text,.bool l.fake]] w0 (fun e w'=>∃r:ByteArray,e=.returned (.string r)∧(r=⟨(Sp.jCF l).toArray⟩∧Pure w0 w')):=by
 refine w_J _ _ _ _ _ w0 (fun r w'=>r=⟨(Sp.jCF l).toArray⟩∧Pure w0 w') ?_;unfold m_J;intro H1 w1 hs;have E1:=hs.first;refine (jBW l w1).mono ?_;rintro _ w2 ⟨r1,rfl,hr,E2⟩;have E02:=E1.trans E2;refine ⟨_,rfl,E2.keptP,fun h=>⟨?_,E02⟩,fun h=>?_⟩
 ·unfold Sp.jCF;rw [if_pos (by rw [← hr];exact bne_iff_ne.1 h)]
 have h0:Sp.qO l=0:=by rw [← hr];simpa using h
 obtain ⟨k,f,c,x,g⟩:=l;obtain ⟨hk,hf,_,_,_,hx⟩:=Sp.jFP h0;obtain ⟨c,rfl⟩:∃n:Nat,c=(n:Int):=⟨c.toNat,by have:=hc.1;simp only at this;omega⟩;have hc':c<18446744073709551616:=by have:=hc.2;simp only at this;omega
 have e:Sp.jCF ⟨k,f,(c:Int),x,g⟩=Sp.tU k++(if g=true then [33] else [])++(if Sp.isSigned k=true then 32 :: Lib.decDigits f.toNat else [])++(32 :: Lib.decDigits c)++(if Sp.isTexted k=true then 32 :: Sp.jAH x else []):=by
  unfold Sp.jCF;rw [if_neg (by simpa using h0)];rfl
 rw [e];simp only;have idx:∀w':World,(Instr.index 121 (.agg jIC) (.int .i64 k)).run prog w'=.ok (.agg #[.bool (Sp.isSigned k),.bool (Sp.isTexted k),.bool (k == 1 || k == 4),.string ⟨(Sp.tU k).toArray⟩]) w':=by
  rcases hk with rfl | rfl | rfl | rfl | rfl | rfl | rfl <;> exact fun w'=>by kernel_rfl
 refine ⟨fun _=>True,trivial,?_⟩;rintro w9 e9;have E9:Pure w2 w9:=by rw [e9];exact Ext.drew w2
 have hH:∀b,H1 b→b<w9.heap.size:=fun b hb=>by have:=hs.lt b hb;have:=E9.size;have:=E2.size;omega
 refine ⟨?_,?_⟩
 ·refine (jBV w9).mono ?_;rintro _ w10 ⟨_,rfl,rfl,E10⟩;refine ⟨_,rfl,trivial,E10.keptP,_,_,_,_,fun w' _=>idx w',?_⟩;intro p2 w11 n11;have b11:=n11.at_size;have z10:=E10.size;refine ⟨trivial,(Box.of_newA n11).canWs (by simp),fun hh=>by have:=hH _ hh;omega,?_⟩;rintro w12 e12;have X:Ext (·=p2.block) w11 w12:=by rw [e12];exact Ext.storeRow _ _ _
  have B:Box w12 p2 (kbox k ⟨(Sp.tU k).toArray⟩) 120:=by rw [e12];exact (Box.of_newA n11).store rfl
  have z2:=E02.size;have z9:=E9.size;have z11:w11.heap.size≤w12.heap.size:=X.size;have zn:w10.heap.size≤w11.heap.size:=(Ext.new n11:Pure w10 w11).size;exact jSV k f hf c hc' x hx g p2 B (fun b hb=>by have:=hH b hb;omega) ((((E02.trans E9).trans E10).trans (Ext.new n11)).own (by omega) X) ht
 ·intro p3 w13 n13;refine ⟨trivial,?_⟩;have b13:=n13.at_size;have E13:Pure w9 w13:=Ext.new n13;refine (jBV w13).mono ?_;rintro _ w14 ⟨_,rfl,rfl,E14⟩;have B14:=(Box.of_newA n13).pure E14;refine ⟨_,rfl,trivial,E14.keptP,_,_,_,_,fun w' _=>idx w',B14.canWs (by simp),fun hh=>by have:=hH _ hh;omega,?_⟩;rintro w15 e15;have X:Ext (·=p3.block) w14 w15:=by rw [e15];exact Ext.storeRow _ _ _
  have B:Box w15 p3 (kbox k ⟨(Sp.tU k).toArray⟩) 120:=by rw [e15];exact B14.store rfl
  have z2:=E02.size;have z9:=E9.size;have z13:=E13.size;have z14:=E14.size;have z15:w14.heap.size≤w15.heap.size:=X.size;exact jSV k f hf c hc' x hx g p3 B (fun b hb=>by have:=hH b hb;omega) ((((E02.trans E9).trans E13).trans E14).own (by omega) X) ht
end Go.Proofs
end
section
open Go Go.SE
open Go.IntKind renaming i64 → q6
namespace Go.Proofs
open Tryz
set_option maxRecDepth 100000
set_option maxHeartbeats 4000000
attribute [local irreducible] wpL wpX opE wpE Calls
def s_Y1 (e1:Int):Int :=e1
theorem pw_Y1 (e1:Int) (w0:World) :
  Calls prog 30 #[(vi e1)] w0 (fun e w'=>(e=.returned (vi e1))∧Pure w0 w'):=by
 refine cw (args:=[(vi e1)]) func30 ntmps30 (eg (q0 (vi 0) (ln (eg (q0 (vi e1) (q0 (vi e1) (ln ?_)))))))
 refine er (rs1 results30 (v:=(vi e1)) ⟨by kernel_rfl,Ext.refl _⟩)
theorem p_Y1 (e1:Int) (w0:World):Calls prog 30 #[(.int .i64 e1)] w0 (fun e w'=>e=.returned (.int .i64 (s_Y1 e1))∧Pure w0 w'):=pw_Y1 e1 w0
theorem uK (a0 a1 a2:Int) (a3:ByteArray) (a4:Bool) (b0 b1 b2:Int) (b3:ByteArray) (b4:Bool) (w:World):(Go.binOp .eql 56 (.agg #[(.int .i64 a0),(.int .i64 a1),(.int .u64 a2),(.string a3),(.bool a4)]) (.agg #[(.int .i64 b0),(.int .i64 b1),(.int .u64 b2),(.string b3),(.bool b4)])).run prog w=.ok (.bool ((a0 == b0) && ((a1 == b1) && ((a2 == b2) && ((decide (a3=b3)) && (a4 == b4)))))) w:=by
 simp [Go.binOp,Op.equal,Op.maxDepth,go_sem,jNX,bne]
 repeat' split
 all_goals simp_all
def m_V_j2 (r1:Option Addr) (r2:Int) (x2:Bool) (H:NP) (w:World) (K:Bool→WP):Prop :=Br x2 (Calls prog 67 #[(vp r1),(vi r2)] w (fun e w24=>∃r9,e=.returned (vi r9)∧Kept H w w24∧K (r9 == 6) w24)) (K false w)
def m_V_j1 (r1:Option Addr) (r2:Int) (x1:Bool) (H:NP) (w:World) (K:Bool→WP):Prop :=Br x1 (Calls prog 33 #[(.agg #[(vi 1),(vi 0),(vu 7),(vs (⟨#[97]⟩:ByteArray)),(vb false)])] w (fun e w25=>∃r10,e=.returned (vi r10)∧Kept H w w25∧m_V_j2 r1 r2 (r10 == 1) H w25 K)) (m_V_j2 r1 r2 false H w K)
def m_V  (w0:World) (K:Bool→WP):Prop :=Calls prog 11 #[] w0 (fun e w1=>∃r1,e=.returned (vp r1)∧Kept None w0 w1∧∀H1 w3,Hst w0 None w1 H1 w3→Calls prog 26 #[(vp r1),(.agg #[(vi 1),(vi 0),(vu 7),(vs (⟨#[97]⟩:ByteArray)),(vb false)])] w3 (fun e w4=>∃r2 r3,e=.returned (.tuple #[(vi r2),(vi r3)])∧Kept H1 w3 w4∧Calls prog 40 #[(vp r1),(vi r2)] w4 (fun e w5=>∃aA aB aL aC aM r4,e=.returned (.tuple #[(Af aA aB aL aC aM),(vb r4)])∧Kept H1 w4 w5∧∀H2 w7,Hst w0 H1 w5 H2 w7→Calls prog 28 #[(.agg #[(vi 1),(vi 0),(vu 7),(vs (⟨#[97]⟩:ByteArray)),(vb false)])] w7 (fun e w8=>∃r5:Sl,∃r6,e=.returned (.tuple #[r5.v,(vi r6)])∧Kept H2 w7 w8∧Calls prog 24 #[r5.v] w8 (fun e w9=>∃aD aE aN aF aO r7,e=.returned (.tuple #[(Af aD aE aN aF aO),(vb r7)])∧Kept H2 w8 w9∧∀H3 w11,Hst w0 H2 w9 H3 w11→Calls prog 40 #[(vp r1),(vi 1)] w11 (fun e w12=>∃aQ aR aS aT aU r8,e=.returned (.tuple #[(Af aQ aR aS aT aU),(vb r8)])∧Kept H3 w11 w12∧∀y1:Bool,y1=(((r3 == 0) && r4) && ((aA == 1) && ((aB == 0) && ((aL == 7) && ((decide (aC=(⟨#[97]⟩:ByteArray))) && (aM == false))))))→∀y2:Bool,y2=(((y1 && (r6 == 0)) && r7) && ((aD == 1) && ((aE == 0) && ((aN == 7) && ((decide (aF=(⟨#[97]⟩:ByteArray))) && (aO == false))))))→Br (y2 && (!r8)) (∀H10 w23,Hst w0 H3 w12 H10 w23→Calls prog 35 #[(.agg #[(vi 1),(vi 0),(vu 7),(vs (⟨#[97]⟩:ByteArray)),(vb false)])] w23 (fun e w26=>∃r11,e=.returned (vs r11)∧Kept H10 w23 w26∧m_V_j1 r1 r2 (decide (r11=(⟨#[112,114,111,109,105,115,101,32,48,32,55,32,34,97,34]⟩:ByteArray))) H10 w26 K)) (∀H10 w23,Hst w0 H3 w12 H10 w23→m_V_j1 r1 r2 false H10 w23 K)))))))
theorem w_V  (w0:World) (K:Bool→WP) (h:m_V  w0 K) :
  Calls prog 23 #[] w0 (fun e w'=>∃r12,e=.returned (vb r12)∧K r12 w'):=by
 refine cw (args:=[]) func23 ntmps23 ?_
 obtain ⟨hs,hb⟩:=st0 w0
 refine eg (q (ln (eg (sc call11 (h.mono fun e w1 ⟨r1,k,hk,h⟩=>have ⟨hs,hb⟩:=hk.hh hs hb;⟨_,k,?_⟩)))))
 refine q (ln (eg (q (nw3 (Ah 0 0 0 false) 56 hs hb (zI (zeroValue56 _) rfl) fun p1 w2 H1 hs hb=>sbx 0 (Ab 1 0 7 (⟨#[97]⟩:ByteArray) false) (sizeOf56 _) hs hb gZ fun w3 hs hb=>ln (eg (q (q2 (Af 1 0 7 (⟨#[97]⟩:ByteArray) false) (xa p1 (Ab 1 0 7 (⟨#[97]⟩:ByteArray) false) (isAgg56 _) (sizeOf56 _) (hb.r0 0 5 gZ)) ?_)))))))
 have ⟨h,hs⟩:=hs.hr (h H1 w3)
 refine sc call26 (h.mono fun e w4 ⟨r2,r3,k,hk,h⟩=>have ⟨hs,hb⟩:=hk.hh hs hb;⟨_,k,?_⟩)
 refine q (qd (ln (eg (qb (sc call40 (h.mono fun e w5 ⟨aA,aB,aL,aC,aM,r4,k,hk,h⟩=>have ⟨hs,hb⟩:=hk.hh hs hb;⟨_,k,?_⟩))))))
 refine qc (nw3 (Ah 0 0 0 false) 56 hs hb (zI (zeroValue56 _) rfl) fun p2 w6 H2 hs hb=>sbx 0 (Ab aA aB aL aC aM) (sizeOf56 _) hs hb gZ fun w7 hs hb=>q (ln (eg (q2 (Af 1 0 7 (⟨#[97]⟩:ByteArray) false) (xa p1 (Ab 1 0 7 (⟨#[97]⟩:ByteArray) false) (isAgg56 _) (sizeOf56 _) (hb.r0 1 5 (gS gZ))) ?_))))
 have ⟨h,hs⟩:=hs.hr (h H2 w7)
 refine sc call28 (h.mono fun e w8 ⟨r5,r6,k,hk,h⟩=>have ⟨hs,hb⟩:=hk.hh hs hb;⟨_,k,?_⟩)
 refine q (qd (ln (eg (q (sc call24 (h.mono fun e w9 ⟨aD,aE,aN,aF,aO,r7,k,hk,h⟩=>have ⟨hs,hb⟩:=hk.hh hs hb;⟨_,k,?_⟩))))))
 refine qc (nw3 (Ah 0 0 0 false) 56 hs hb (zI (zeroValue56 _) rfl) fun p3 w10 H3 hs hb=>sbx 0 (Ab aD aE aN aF aO) (sizeOf56 _) hs hb gZ fun w11 hs hb=>q (ln (eg (q ?_))))
 have ⟨h,hs⟩:=hs.hr (h H3 w11)
 refine sc call40 (h.mono fun e w12 ⟨aQ,aR,aS,aT,aU,r8,k,hk,h⟩=>have ⟨hs,hb⟩:=hk.hh hs hb;⟨_,k,?_⟩)
 refine qc (nw3 (Ah 0 0 0 false) 56 hs hb (zI (zeroValue56 _) rfl) fun p4 w13 H4 hs hb=>sbx 0 (Ab aQ aR aS aT aU) (sizeOf56 _) hs hb gZ fun w14 hs hb=>q (ln (eg (q (sc call30 ((p_Y1 r3 w14).mono ?_))))))
 rintro e w15 ⟨he,hE⟩
 refine ⟨_,he,?_⟩
 obtain ⟨hs,hb⟩:=hs.pp hb hE
 refine qb (zK 2 (fun ρ wJ=>∃b1'0:Bool,∃HJ:NP,((r3 == 0)=b1'0)∧Hst w0 H3 w12 HJ wJ∧HB HJ wJ [(p4,(Ab aQ aR aS aT aU),56),(p3,(Ab aD aE aN aF aO),56),(p2,(Ab aA aB aL aC aM),56),(p1,(Ab 1 0 7 (⟨#[97]⟩:ByteArray) false),56)]∧Has ρ [(1,(vp r1)),(2,(vp (some p1))),(3,(vi r2)),(5,(vp (some p2))),(8,(vi r6)),(9,(vp (some p3))),(10,(vb r7)),(12,(vb r8)),(47,(vb (b1'0 && r4)))]) ?_ ?_)
 rintro ρ w16 ⟨b1'0,H5,he0,hs,hb,hH⟩
 subst he0
 refine zP hH (q (zK 4 (fun ρ wJ=>∃b2'0 y1:Bool,∃HJ:NP,(((r3 == 0) && r4)=b2'0)∧(y1=(b2'0 && ((aA == 1) && ((aB == 0) && ((aL == 7) && ((decide (aC=(⟨#[97]⟩:ByteArray))) && (aM == false)))))))∧Hst w0 H3 w12 HJ wJ∧HB HJ wJ [(p4,(Ab aQ aR aS aT aU),56),(p3,(Ab aD aE aN aF aO),56),(p2,(Ab aA aB aL aC aM),56),(p1,(Ab 1 0 7 (⟨#[97]⟩:ByteArray) false),56)]∧Has ρ [(1,(vp r1)),(2,(vp (some p1))),(3,(vi r2)),(8,(vi r6)),(9,(vp (some p3))),(10,(vb r7)),(12,(vb r8)),(52,(vb y1))]) ?_ ?_))
 rintro ρ w17 ⟨b2'0,y1,H6,he0,hy1,hs,hb,hH⟩
 subst he0
 have h:=h y1 hy1
 refine zP hH (q (zK 4 (fun ρ wJ=>∃b3'0:Bool,∃HJ:NP,(y1=b3'0)∧Hst w0 H3 w12 HJ wJ∧HB HJ wJ [(p4,(Ab aQ aR aS aT aU),56),(p3,(Ab aD aE aN aF aO),56),(p2,(Ab aA aB aL aC aM),56),(p1,(Ab 1 0 7 (⟨#[97]⟩:ByteArray) false),56)]∧Has ρ [(1,(vp r1)),(2,(vp (some p1))),(3,(vi r2)),(9,(vp (some p3))),(10,(vb r7)),(12,(vb r8)),(57,(vb (b3'0 && (r6 == 0))))]) ?_ ?_))
 rintro ρ w19 ⟨b3'0,H7,he0,hs,hb,hH⟩
 subst he0
 refine zP hH (q (zK 2 (fun ρ wJ=>∃b4'0:Bool,∃HJ:NP,((y1 && (r6 == 0))=b4'0)∧Hst w0 H3 w12 HJ wJ∧HB HJ wJ [(p4,(Ab aQ aR aS aT aU),56),(p3,(Ab aD aE aN aF aO),56),(p2,(Ab aA aB aL aC aM),56),(p1,(Ab 1 0 7 (⟨#[97]⟩:ByteArray) false),56)]∧Has ρ [(1,(vp r1)),(2,(vp (some p1))),(3,(vi r2)),(9,(vp (some p3))),(12,(vb r8)),(60,(vb (b4'0 && r7)))]) ?_ ?_))
 rintro ρ w21 ⟨b4'0,H8,he0,hs,hb,hH⟩
 subst he0
 refine zP hH (q (zK 4 (fun ρ wJ=>∃b5'0 y2:Bool,∃HJ:NP,(((y1 && (r6 == 0)) && r7)=b5'0)∧(y2=(b5'0 && ((aD == 1) && ((aE == 0) && ((aN == 7) && ((decide (aF=(⟨#[97]⟩:ByteArray))) && (aO == false)))))))∧Hst w0 H3 w12 HJ wJ∧HB HJ wJ [(p4,(Ab aQ aR aS aT aU),56),(p3,(Ab aD aE aN aF aO),56),(p2,(Ab aA aB aL aC aM),56),(p1,(Ab 1 0 7 (⟨#[97]⟩:ByteArray) false),56)]∧Has ρ [(1,(vp r1)),(2,(vp (some p1))),(3,(vi r2)),(12,(vb r8)),(65,(vb y2))]) ?_ ?_))
 rintro ρ w22 ⟨b5'0,y2,H9,he0,hy2,hs,hb,hH⟩
 subst he0
 have h:=h y2 hy2
 refine zP hH (q (zK 3 (fun ρ wJ=>∃b6'0:Bool,∃HJ:NP,(y2=b6'0)∧Hst w0 H3 w12 HJ wJ∧HB HJ wJ [(p4,(Ab aQ aR aS aT aU),56),(p3,(Ab aD aE aN aF aO),56),(p2,(Ab aA aB aL aC aM),56),(p1,(Ab 1 0 7 (⟨#[97]⟩:ByteArray) false),56)]∧Has ρ [(1,(vp r1)),(2,(vp (some p1))),(3,(vi r2)),(69,(vb (b6'0 && (!r8))))]) ?_ ?_))
 rintro ρ w23 ⟨b6'0,H10,he0,hs,hb,hH⟩
 subst he0
 refine zP hH (q (zK 4 (fun ρ w=>∃x1,∃H:NP,Has ρ [(1,(vp r1)),(2,(vp (some p1))),(3,(vi r2)),(74,(vb x1))]∧Hst w0 H w H w∧HB H w [(p4,(Ab aQ aR aS aT aU),56),(p3,(Ab aD aE aN aF aO),56),(p2,(Ab aA aB aL aC aM),56),(p1,(Ab 1 0 7 (⟨#[97]⟩:ByteArray) false),56)]∧m_V_j1 r1 r2 x1 H w K) ?_ ?_))
 rintro ρ w ⟨x1,H,hH,hs,hb,h⟩
 refine zP hH (q (zK 4 (fun ρ w=>∃x2,∃H:NP,Has ρ [(1,(vp r1)),(3,(vi r2)),(79,(vb x2))]∧Hst w0 H w H w∧HB H w [(p4,(Ab aQ aR aS aT aU),56),(p3,(Ab aD aE aN aF aO),56),(p2,(Ab aA aB aL aC aM),56),(p1,(Ab 1 0 7 (⟨#[97]⟩:ByteArray) false),56)]∧m_V_j2 r1 r2 x2 H w K) ?_ ?_))
 rintro ρ w ⟨x2,H,hH,hs,hb,h⟩
 refine zP hH (q ?_)
 obtain ⟨hg13,h⟩|⟨hg13,h⟩:=h.br
 refine qk 80 hg13 (qk 80 hg13 (qG (wy 80 hg13) (xc call67) (h.mono ?_)))
 rintro e w24 ⟨r9,rfl,hk,h⟩
 refine ⟨_,rfl,?_⟩
 obtain ⟨hs,hb⟩:=hk.hh hs hb
 refine qk 80 hg13 (q2 (vb (r9 == 6)) (xT hg13) (q (ln (er (rs1 results23 ⟨(r9 == 6),rfl,h⟩)))))
 refine sj4 80 hg13 (q2 (vb false) (xF hg13) (q (ln (er (rs1 results23 ⟨false,rfl,h⟩)))))
 obtain ⟨hg14,h⟩|⟨hg14,h⟩:=h.br
 refine stq (v:=(Af 1 0 7 (⟨#[97]⟩:ByteArray) false)) (wy 75 hg14) (xa p1 (Ab 1 0 7 (⟨#[97]⟩:ByteArray) false) (isAgg56 _) (sizeOf56 _) (hb.r0 3 5 (gS (gS (gS gZ))))) (qG (wy 75 hg14) (xc call33) (h.mono ?_))
 rintro e w25 ⟨r10,rfl,hk,h⟩
 refine ⟨_,rfl,?_⟩
 obtain ⟨hs,hb⟩:=hk.hh hs hb
 refine qk 75 hg14 (q2 (vb (r10 == 1)) (xT hg14) (zC ⟨(r10 == 1),H,hm,hs,hb,h⟩))
 refine sj3 75 hg14 (q2 (vb false) (xF hg14) (zC ⟨false,H,hm,hs,hb,h⟩))
 obtain ⟨hg15,h⟩|⟨hg15,h⟩:=h.br
 refine stq (v:=(Af 1 0 7 (⟨#[97]⟩:ByteArray) false)) (wy 70 hg15) (xa p1 (Ab 1 0 7 (⟨#[97]⟩:ByteArray) false) (isAgg56 _) (sizeOf56 _) (hb.r0 3 5 (gS (gS (gS gZ))))) ?_
 have ⟨h,hs⟩:=hs.hr (h H10 w23)
 refine qG (wy 70 hg15) (xc call35) (h.mono ?_)
 rintro e w26 ⟨r11,rfl,hk,h⟩
 refine ⟨_,rfl,?_⟩
 obtain ⟨hs,hb⟩:=hk.hh hs hb
 refine stq (v:=(vb (decide (r11=(⟨#[112,114,111,109,105,115,101,32,48,32,55,32,34,97,34]⟩:ByteArray))))) (wy 70 hg15) (jAO (by kernel_rfl) (by kernel_rfl)) (q2 (vb (decide (r11=(⟨#[112,114,111,109,105,115,101,32,48,32,55,32,34,97,34]⟩:ByteArray)))) (xT hg15) (zC ⟨(decide (r11=(⟨#[112,114,111,109,105,115,101,32,48,32,55,32,34,97,34]⟩:ByteArray))),H10,hm,hs,hb,h⟩))
 refine sj3 70 hg15 (q2 (vb false) (xF hg15) (zC ?_))
 have ⟨h,hs⟩:=hs.hr (h H10 w23)
 exact ⟨false,H10,hm,hs,hb,h⟩
 rcases bte y2 with hg12 | hg12
 refine qk 66 hg12 (qk 66 hg12 (q2 (vb (!r8)) (xT hg12) (zC ⟨true,_,hg12,hs,hb,hm⟩)))
 refine sj2 66 hg12 (q2 (vb false) (xF hg12) (zC ⟨false,_,hg12,hs,hb,hm⟩))
 rcases bte ((y1 && (r6 == 0)) && r7) with hg10 | hg10
 refine stq (v:=(Af aD aE aN aF aO)) (wy 61 hg10) (xa p3 (Ab aD aE aN aF aO) (isAgg56 _) (sizeOf56 _) (hb.r0 1 5 (gS gZ))) (stq (v:=(Af 1 0 7 (⟨#[97]⟩:ByteArray) false)) (wy 61 hg10) (xa p1 (Ab 1 0 7 (⟨#[97]⟩:ByteArray) false) (isAgg56 _) (sizeOf56 _) (hb.r0 3 5 (gS (gS (gS gZ))))) (stq (v:=(vb ((aD == 1) && ((aE == 0) && ((aN == 7) && ((decide (aF=(⟨#[97]⟩:ByteArray))) && (aO == false))))))) (wy 61 hg10) (jJK (by kernel_rfl) (by kernel_rfl) (by kernel_rfl) (uK aD aE aN aF aO 1 0 7 (⟨#[97]⟩:ByteArray) false _)) (q2 (vb ((aD == 1) && ((aE == 0) && ((aN == 7) && ((decide (aF=(⟨#[97]⟩:ByteArray))) && (aO == false)))))) (xT hg10) (zC ⟨true,_,_,hg10,rfl,hs,hb,hm⟩))))
 refine sj3 61 hg10 (q2 (vb false) (xF hg10) (zC ⟨false,_,_,hg10,rfl,hs,hb,hm⟩))
 rcases bte (y1 && (r6 == 0)) with hg8 | hg8
 refine qk 58 hg8 (q2 (vb r7) (xT hg8) (zC ⟨true,_,hg8,hs,hb,hm⟩))
 refine sj 58 hg8 (q2 (vb false) (xF hg8) (zC ⟨false,_,hg8,hs,hb,hm⟩))
 rcases bte y1 with hg6 | hg6
 refine qk 53 hg6 (qG (wy 53 hg6) (xc call30) ((p_Y1 r6 w17).mono ?_))
 rintro e w20 ⟨he,hE⟩
 refine ⟨_,he,?_⟩
 obtain ⟨hs,hb⟩:=hs.pp hb hE
 refine qk 53 hg6 (q2 (vb (r6 == 0)) (xT hg6) (zC ⟨true,_,hg6,hs,hb,hm⟩))
 refine sj3 53 hg6 (q2 (vb false) (xF hg6) (zC ⟨false,_,hg6,hs,hb,hm⟩))
 rcases bte ((r3 == 0) && r4) with hg4 | hg4
 refine stq (v:=(Af aA aB aL aC aM)) (wy 48 hg4) (xa p2 (Ab aA aB aL aC aM) (isAgg56 _) (sizeOf56 _) (hb.r0 2 5 (gS (gS gZ)))) (stq (v:=(Af 1 0 7 (⟨#[97]⟩:ByteArray) false)) (wy 48 hg4) (xa p1 (Ab 1 0 7 (⟨#[97]⟩:ByteArray) false) (isAgg56 _) (sizeOf56 _) (hb.r0 3 5 (gS (gS (gS gZ))))) (stq (v:=(vb ((aA == 1) && ((aB == 0) && ((aL == 7) && ((decide (aC=(⟨#[97]⟩:ByteArray))) && (aM == false))))))) (wy 48 hg4) (jJK (by kernel_rfl) (by kernel_rfl) (by kernel_rfl) (uK aA aB aL aC aM 1 0 7 (⟨#[97]⟩:ByteArray) false _)) (q2 (vb ((aA == 1) && ((aB == 0) && ((aL == 7) && ((decide (aC=(⟨#[97]⟩:ByteArray))) && (aM == false)))))) (xT hg4) (zC ⟨true,_,_,hg4,rfl,hs,hb,hm⟩))))
 refine sj3 48 hg4 (q2 (vb false) (xF hg4) (zC ⟨false,_,_,hg4,rfl,hs,hb,hm⟩))
 rcases bte (r3 == 0) with hg2 | hg2
 refine qk 45 hg2 (q2 (vb r4) (xT hg2) (zC ⟨true,_,hg2,hs,hb,hm⟩))
 refine sj 45 hg2 (q2 (vb false) (xF hg2) (zC ⟨false,_,hg2,hs,hb,hm⟩))
def m_O_j2 (i1 aZ:Int) (bA bB:Int) (bC:ByteArray) (bD:Bool) (H:NP) (w:World) (Kc1:Int→Int→Int→Int→ByteArray→Bool→NP→WP) (_K:Bool→WP):Prop :=Kc1 (q6.wrap (i1+1)) aZ bA bB bC bD H w
def m_O_j3 (l2Kind1 l2From1 l2C1:Int) (l2Text1:ByteArray) (l2Fake1:Bool) (i1:Int) (x1:Bool) (w0:World) (H:NP) (w:World) (Kc1:Int→Int→Int→Int→ByteArray→Bool→NP→WP) (K:Bool→WP):Prop :=Br x1 (K false w) (∀w11,Hst w0 H w H w11→m_O_j2 i1 l2Kind1 l2From1 l2C1 l2Text1 l2Fake1 H w11 Kc1 K)
def m_O_l1 (l2Kind1 l2From1 l2C1:Int) (l2Text1:ByteArray) (l2Fake1:Bool) (r2:Option Addr) (r3:Option Addr) (i1 aG:Int) (aH aI:Int) (aJ:ByteArray) (aK:Bool) (w0:World) (Hl1:NP) (wl1:World) (Kc1:Int→Int→Int→Int→ByteArray→Bool→NP→WP) (K:Bool→WP):Prop :=Br (decide (i1<2)) (Calls prog 26 #[(vp r2),(.agg #[(vi aG),(vi aH),(vu aI),(vs aJ),(vb aK)])] wl1 (fun e w7=>∃r4 r5,e=.returned (.tuple #[(vi r4),(vi r5)])∧Kept Hl1 wl1 w7∧Calls prog 27 #[(vp r3),(.agg #[(vi aG),(vi aH),(vu aI),(vs aJ),(vb aK)])] w7 (fun e w8=>∃r6 r7,e=.returned (.tuple #[(vi r6),(vi r7)])∧Kept Hl1 w7 w8∧Calls prog 28 #[(.agg #[(vi aG),(vi aH),(vu aI),(vs aJ),(vb aK)])] w8 (fun e w9=>∃r8:Sl,∃r9,e=.returned (.tuple #[r8.v,(vi r9)])∧Kept Hl1 w8 w9∧Calls prog 29 #[(.agg #[(vi aG),(vi aH),(vu aI),(vs aJ),(vb aK)])] w9 (fun e w10=>∃r10:Sl,∃r11,e=.returned (.tuple #[r10.v,(vi r11)])∧Kept Hl1 w9 w10∧∃C1:WP,C1 w10.drew∧∀w12,w12=w10.drew→Br (r4 != r6) (m_O_j3 l2Kind1 l2From1 l2C1 l2Text1 l2Fake1 i1 true w0 Hl1 w12 Kc1 K) (Calls prog 30 #[(vi r5)] w12 (fun e w13=>∃r12,e=.returned (vi r12)∧C1 w13∧Kept Hl1 w12 w13∧Br (r12 != r7) (m_O_j3 l2Kind1 l2From1 l2C1 l2Text1 l2Fake1 i1 true w0 Hl1 w13 Kc1 K) (Calls prog 31 #[(.agg #[(vi aG),(vi aH),(vu aI),(vs aJ),(vb aK)])] w13 (fun e w14=>∃r13,e=.returned (vi r13)∧C1 w14∧Kept Hl1 w13 w14∧Calls prog 30 #[(vi r13)] w14 (fun e w15=>∃r14,e=.returned (vi r14)∧C1 w15∧Kept Hl1 w14 w15∧Calls prog 32 #[(.agg #[(vi aG),(vi aH),(vu aI),(vs aJ),(vb aK)])] w15 (fun e w16=>∃r15,e=.returned (vi r15)∧C1 w16∧Kept Hl1 w15 w16∧Br (r14 != r15) (m_O_j3 l2Kind1 l2From1 l2C1 l2Text1 l2Fake1 i1 true w0 Hl1 w16 Kc1 K) (Calls prog 33 #[(.agg #[(vi aG),(vi aH),(vu aI),(vs aJ),(vb aK)])] w16 (fun e w17=>∃r16,e=.returned (vi r16)∧C1 w17∧Kept Hl1 w16 w17∧Calls prog 34 #[(.agg #[(vi aG),(vi aH),(vu aI),(vs aJ),(vb aK)])] w17 (fun e w18=>∃r17,e=.returned (vi r17)∧C1 w18∧Kept Hl1 w17 w18∧Br (r16 != r17) (m_O_j3 l2Kind1 l2From1 l2C1 l2Text1 l2Fake1 i1 true w0 Hl1 w18 Kc1 K) (Calls prog 35 #[(.agg #[(vi aG),(vi aH),(vu aI),(vs aJ),(vb aK)])] w18 (fun e w19=>∃r18,e=.returned (vs r18)∧C1 w19∧Kept Hl1 w18 w19∧Calls prog 36 #[(.agg #[(vi aG),(vi aH),(vu aI),(vs aJ),(vb aK)])] w19 (fun e w20=>∃r19,e=.returned (vs r19)∧C1 w20∧Kept Hl1 w19 w20∧Br (!(decide (r18=r19))) (m_O_j3 l2Kind1 l2From1 l2C1 l2Text1 l2Fake1 i1 true w0 Hl1 w20 Kc1 K) (∃c1,(∀w',C1 w'→(convert 54 9 r8.v).run prog w'=.ok (vs c1) w')∧∃c2,(∀w',C1 w'→(convert 54 9 r10.v).run prog w'=.ok (vs c2) w')∧Br (!(decide (c1=c2))) (m_O_j3 l2Kind1 l2From1 l2C1 l2Text1 l2Fake1 i1 true w0 Hl1 w20 Kc1 K) (Calls prog 30 #[(vi r9)] w20 (fun e w21=>∃r20,e=.returned (vi r20)∧C1 w21∧Kept Hl1 w20 w21∧Br (r20 != r11) (m_O_j3 l2Kind1 l2From1 l2C1 l2Text1 l2Fake1 i1 true w0 Hl1 w21 Kc1 K) (Calls prog 38 #[(vp r2),(vi r4)] w21 (fun e w22=>∃aA aB bE bF aC bG,e=.returned (Aa aA aB bE bF aC bG)∧C1 w22∧Kept Hl1 w21 w22∧Calls prog 20 #[(vp r3),(vi r6)] w22 (fun e w23=>∃aD aE bH bI aF bJ,e=.returned (Aa aD aE bH bI aF bJ)∧C1 w23∧Kept Hl1 w22 w23∧Calls prog 37 #[(.agg #[(vi aA),(vi aB),(vi bE),(vu bF),(vs aC),bG.v]),(.agg #[(vi aD),(vi aE),(vi bH),(vu bI),(vs aF),bJ.v])] w23 (fun e w24=>∃r21,e=.returned (vb r21)∧C1 w24∧Kept Hl1 w23 w24∧m_O_j3 l2Kind1 l2From1 l2C1 l2Text1 l2Fake1 i1 (!r21) w0 Hl1 w24 Kc1 K)))))))))))))))))))))))) (∃C2:WP,C2 wl1.drew∧∀w25,w25=wl1.drew→∃a1,r3=some a1∧∃v1:Sl,(∀w',C2 w'→w'.cell? a1=some v1.v)∧Calls prog 22 #[(vp r2)] w25 (fun e w26=>∃r22,e=.returned (vi r22)∧C2 w26∧Kept Hl1 w25 w26∧Br (r22 == (v1.len:Int)) (Calls prog 23 #[] w26 (fun e w27=>∃r23,e=.returned (vb r23)∧C2 w27∧Kept Hl1 w26 w27∧K r23 w27)) (K false w26)))
def m_O (aV aW aX:Int) (aP:ByteArray) (aY:Bool) (l2Kind1 l2From1 l2C1:Int) (l2Text1:ByteArray) (l2Fake1:Bool) (w0:World) (K:Bool→WP):Prop :=Br ((decide ((aP.size:Int)>5000)) || (decide ((l2Text1.size:Int)>5000))) (∀H3 w3,Hst w0 None w0 H3 w3→Calls prog 23 #[] w3 (fun e w4=>∃r1,e=.returned (vb r1)∧Kept H3 w3 w4∧K r1 w4)) (∀H3 w3,Hst w0 None w0 H3 w3→Calls prog 11 #[] w3 (fun e w5=>∃r2,e=.returned (vp r2)∧Kept H3 w3 w5∧Calls prog 12 #[] w5 (fun e w6=>∃r3,e=.returned (vp r3)∧Kept H3 w5 w6∧Br (Option.isNone r2) (K false w6) (∃(I1:Int→Int→Int→Int→ByteArray→Bool→NP→WP) (mu1:Int→Int→Int→Int→ByteArray→Bool→World→Nat),I1 0 aV aW aX aP aY H3 w6∧∀(i1 aG:Int) (aH aI:Int) (aJ:ByteArray) (aK:Bool) (Hl1:NP) (wl1:World),Hst w0 Hl1 wl1 Hl1 wl1→I1 i1 aG aH aI aJ aK Hl1 wl1→m_O_l1 l2Kind1 l2From1 l2C1 l2Text1 l2Fake1 r2 r3 i1 aG aH aI aJ aK w0 Hl1 wl1 (fun y'0 y'1 y'2 y'3 y'4 y'5 H' w'=>I1 y'0 y'1 y'2 y'3 y'4 y'5 H' w'∧mu1 y'0 y'1 y'2 y'3 y'4 y'5 w'<mu1 i1 aG aH aI aJ aK wl1) K))))
theorem w_O (aV aW aX aP aY l2Kind1 l2From1 l2C1 l2Text1 l2Fake1 w0 K) (h:m_O aV aW aX aP aY l2Kind1 l2From1 l2C1 l2Text1 l2Fake1 w0 K):
  Calls prog 5 #[(.agg #[(vi aV),(vi aW),(vu aX),(vs aP),(vb aY)]),(.agg #[(vi l2Kind1),(vi l2From1),(vu l2C1),(vs l2Text1),(vb l2Fake1)])] w0 (fun e w'=>∃r24,e=.returned (vb r24)∧K r24 w'):=by
 refine cw (args:=[(Af aV aW aX aP aY),(Af l2Kind1 l2From1 l2C1 l2Text1 l2Fake1)]) func5 ntmps5 ?_
 obtain ⟨hs,hb⟩:=st0 w0
 refine eg (nw3 (Ab aV aW aX aP aY) 56 hs hb xb fun p1 w1 H1 hs hb=>nw3 (Ab l2Kind1 l2From1 l2C1 l2Text1 l2Fake1) 56 hs hb xb fun p2 w2 H2 hs hb=>q (ln (zB (zB (vJ (fun ρ wJ=>∃b1'0:Bool,∃HJ:NP,((decide ((aP.size:Int)>5000))=b1'0)∧Hst w0 None w0 HJ wJ∧HB HJ wJ [(p2,(Ab l2Kind1 l2From1 l2C1 l2Text1 l2Fake1),56),(p1,(Ab aV aW aX aP aY),56)]∧Has ρ [(2,(vp (some p1))),(3,(vp (some p2))),(25,(vb (b1'0 || (decide ((l2Text1.size:Int)>5000)))))]) ?_ ?_)))))
 refine rg (q (q3 (xl (isAgg9 _) (hb.d 1 3 (gS gZ))) (qc ?_)))
 rcases bte (decide ((aP.size:Int)>5000)) with hg2 | hg2
 refine sj4 20 hg2 (q2 (vb true) (xT hg2) (ln ⟨true,_,hg2,hs,hb,hm⟩))
 refine qk 20 hg2 (q4 20 hg2 (xl (isAgg9 _) (hb.d 0 3 gZ)) (qk 20 hg2 (qk 20 hg2 (q2 (vb (decide ((l2Text1.size:Int)>5000))) (xF hg2) (ln ⟨false,_,hg2,hs,hb,hm⟩)))))
 rintro ρ w3 ⟨b1'0,H3,he0,hs,hb,hH⟩
 subst he0
 refine zW hH (zN (cbr h ?_ ?_))<;>intro h
 refine eg ?_
 have ⟨h,hs⟩:=hs.hr (h H3 w3)
 refine sc call23 (h.mono fun e w4 ⟨r1,k,hk,h⟩=>have ⟨hs,hb⟩:=hk.hh hs hb;⟨_,k,?_⟩)
 refine q (ln (er (vA (rs1 results5 ⟨r1,rfl,h⟩))))
 refine zD (zN (eg ?_))
 have ⟨h,hs⟩:=hs.hr (h H3 w3)
 refine sc call11 (h.mono fun e w5 ⟨r2,k,hk,h⟩=>have ⟨hs,hb⟩:=hk.hh hs hb;⟨_,k,?_⟩)
 refine q (ln (eg (sc call12 (h.mono fun e w6 ⟨r3,k,hk,h⟩=>have ⟨hs,hb⟩:=hk.hh hs hb;⟨_,k,?_⟩))))
 refine q (ln (zB (eg (q (q2 (vb (Option.isNone r2)) (uF (by kernel_rfl) rfl underlying29) (ln (cbr h ?_ ?_)))))))<;>intro h
 refine eg (q (ln (er (vA (rs1 results5 ⟨false,rfl,h⟩)))))
 refine zD (zN (zB (eg (q (ln (zL ?_))))))
 obtain ⟨I1,mu1,h0,hr⟩:=h
 refine vU (σ:=Int×Int×Int×Int×ByteArray×Bool×NP×World) (fun s ρ w=>w=s.2.2.2.2.2.2.2∧Has ρ [(2,(vp (some p1))),(3,(vp (some p2))),(5,(vp r2)),(6,(vp r3)),(7,(vi s.1))]∧Hst w0 s.2.2.2.2.2.2.1 w s.2.2.2.2.2.2.1 w∧HB s.2.2.2.2.2.2.1 w [(p2,(Ab l2Kind1 l2From1 l2C1 l2Text1 l2Fake1),56),(p1,(Ab (s.2.1) (s.2.2.1) (s.2.2.2.1) (s.2.2.2.2.1) (s.2.2.2.2.2.1)),56)]∧I1 s.1 s.2.1 s.2.2.1 s.2.2.2.1 s.2.2.2.2.1 s.2.2.2.2.2.1 s.2.2.2.2.2.2.1 s.2.2.2.2.2.2.2) (fun s=>mu1 s.1 s.2.1 s.2.2.1 s.2.2.2.1 s.2.2.2.2.1 s.2.2.2.2.2.1 s.2.2.2.2.2.2.2) (0,aV,aW,aX,aP,aY,H3,w6) ⟨rfl,hm,hs,hb,h0⟩ ?_
 rintro ⟨i1,aG,aH,aI,aJ,aK,Hl1,wl1⟩ ρ w ⟨hw,hH,hs,hb,hI⟩
 dsimp only at hw hH hs hb;subst w
 have h:=hr i1 aG aH aI aJ aK Hl1 wl1 hs hI
 refine zQ hH (zB (eg (qb (ln (cbr h ?_ ?_)))))<;>intro h
 refine zD (zN (zB (zY (fun ρ w=>∃aZ bA bB bC bD,∃H:NP,Has ρ [(2,(vp (some p1))),(3,(vp (some p2))),(5,(vp r2)),(6,(vp r3)),(7,(vi i1))]∧Hst w0 H w H w∧HB H w [(p2,(Ab l2Kind1 l2From1 l2C1 l2Text1 l2Fake1),56),(p1,(Ab aZ bA bB bC bD),56)]∧m_O_j2 i1 aZ bA bB bC bD H w (fun y'0 y'1 y'2 y'3 y'4 y'5 H' w'=>I1 y'0 y'1 y'2 y'3 y'4 y'5 H' w'∧mu1 y'0 y'1 y'2 y'3 y'4 y'5 w'<mu1 i1 aG aH aI aJ aK wl1) K) ?_ ?_)))
 rintro ρ w ⟨aZ,bA,bB,bC,bD,H,hH,hs,hb,h⟩
 refine zQ hH (rg (qc (ln ⟨((q6.wrap (i1+1)),aZ,bA,bB,bC,bD,H,w),⟨rfl,hm,hs,hb,h.1⟩,h.2⟩)))
 refine zL (eg (q (q2 (Af aG aH aI aJ aK) (xa p1 (Ab aG aH aI aJ aK) (isAgg56 _) (sizeOf56 _) (hb.r0 1 5 (gS gZ))) (sc call26 (h.mono fun e w7 ⟨r4,r5,k,hk,h⟩=>have ⟨hs,hb⟩:=hk.hh hs hb;⟨_,k,?_⟩)))))
 refine q (qd (ln (eg (q (q2 (Af aG aH aI aJ aK) (xa p1 (Ab aG aH aI aJ aK) (isAgg56 _) (sizeOf56 _) (hb.r0 1 5 (gS gZ))) (sc call27 (h.mono fun e w8 ⟨r6,r7,k,hk,h⟩=>have ⟨hs,hb⟩:=hk.hh hs hb;⟨_,k,?_⟩)))))))
 refine q (qd (ln (eg (q2 (Af aG aH aI aJ aK) (xa p1 (Ab aG aH aI aJ aK) (isAgg56 _) (sizeOf56 _) (hb.r0 1 5 (gS gZ))) (sc call28 (h.mono fun e w9 ⟨r8,r9,k,hk,h⟩=>have ⟨hs,hb⟩:=hk.hh hs hb;⟨_,k,?_⟩))))))
 refine q (qd (ln (eg (q2 (Af aG aH aI aJ aK) (xa p1 (Ab aG aH aI aJ aK) (isAgg56 _) (sizeOf56 _) (hb.r0 1 5 (gS gZ))) (sc call29 (h.mono fun e w10 ⟨r10,r11,k,hk,h⟩=>have ⟨hs,hb⟩:=hk.hh hs hb;⟨_,k,?_⟩))))))
 refine q (qd (ln (zB (zB (zY (fun ρ w=>∃x1,∃H:NP,Has ρ [(2,(vp (some p1))),(3,(vp (some p2))),(5,(vp r2)),(6,(vp r3)),(7,(vi i1)),(110,(vb x1))]∧Hst w0 H w H w∧HB H w [(p2,(Ab l2Kind1 l2From1 l2C1 l2Text1 l2Fake1),56),(p1,(Ab aG aH aI aJ aK),56)]∧m_O_j3 l2Kind1 l2From1 l2C1 l2Text1 l2Fake1 i1 x1 w0 H w (fun y'0 y'1 y'2 y'3 y'4 y'5 H' w'=>I1 y'0 y'1 y'2 y'3 y'4 y'5 H' w'∧mu1 y'0 y'1 y'2 y'3 y'4 y'5 w'<mu1 i1 aG aH aI aJ aK wl1) K) ?_ ?_)))))
 rintro ρ w ⟨x1,H,hH,hs,hb,h⟩
 refine zQ hH (cbr h ?_ ?_)<;>intro h
 refine eg (q (ln (er (vA (yC (vA (vA (yC (vA (rs1 results5 ⟨false,rfl,h⟩))))))))))
 refine zD (zN (rg (q2 (Af l2Kind1 l2From1 l2C1 l2Text1 l2Fake1) (xa p2 (Ab l2Kind1 l2From1 l2C1 l2Text1 l2Fake1) (isAgg56 _) (sizeOf56 _) (hb.r0 0 5 gZ)) (yK (zJ rfl) (xo p1 (Ab l2Kind1 l2From1 l2C1 l2Text1 l2Fake1) (sizeOf56 _) (hb.k0 1 5 (gS gZ))) ?_))))
 intro w11 hn3
 obtain ⟨hs,hb⟩:=hb.st1 1 hs hn3 (gS gZ)
 refine zC (xE ?_)
 have ⟨h,hs⟩:=hs.hr (h w11)
 refine zN ⟨l2Kind1,l2From1,l2C1,l2Text1,l2Fake1,H,hm,hs,hb,h⟩
 obtain ⟨C1,hC,h⟩:=h
 refine dr2 (fun x=>C1 x∧HB Hl1 x _) [5,11,12,14,19,21,26,28,40,47,50,51] [] ⟨hC,hb.drew⟩ h hs hb fun w12 hs hb h=>?_
 have hs:=hs.here
 refine qx 0 (vi r4) Kp0 (qx 1 (vi r6) Kp1 (qx 2 (vb (r4 != r6)) Kp2 (qx 3 (vb (r4 != r6)) Kp3 (qg 4 ?_))))
 obtain ⟨hg3,h⟩|⟨hg3,h⟩:=h.br
 refine zV Kp4 (zH rfl (yD 60 hg3) rfl) (qn 6 Kp6 (zH rfl (yD 60 hg3) rfl) (lg 5 (zV Kp5 (zH rfl (yD 60 hg3) rfl) (qn 7 Kp7 (zH rfl (yD 60 hg3) rfl) (qz 8 (vb true) Kp8 (fun _ _=>(xT hg3)) (qx 9 (vb true) Kp9 (qn 10 (zG (S8 (zA (zA zF)))) (zH rfl (yD (c:=true) 66 rfl) rfl) (qn 13 (zG (S8 (S4 (zA zF)))) (zH rfl (yD (c:=true) 66 rfl) rfl) (lg 11 (zV (zG (S8 (zA (zA (zA zF))))) (zH rfl (yD (c:=true) 66 rfl) rfl) (lg 12 (zV (zG (S8 (S4 zF))) (zH rfl (yD (c:=true) 66 rfl) rfl) (lg 14 (zV (zG (S8 (S4 (zA (zA zF))))) (zH rfl (yD (c:=true) 66 rfl) rfl) (qn 15 (zG (S8 (S4 (zA (zA (zA zF)))))) (zH rfl (yD (c:=true) 66 rfl) rfl) (qx 16 (vb true) (zG (S8 (S8 zF))) (qx 17 (vb true) (zG (S8 (S8 (zA zF)))) (qn 18 (zG (S8 (S8 (zA (zA zF))))) (zH rfl (yD (c:=true) 74 rfl) rfl) (qn 20 (zG (S8 (S8 (S4 zF)))) (zH rfl (yD (c:=true) 74 rfl) rfl) (lg 19 (zV (zG (S8 (S8 (zA (zA (zA zF)))))) (zH rfl (yD (c:=true) 74 rfl) rfl) (lg 21 (zV (zG (S8 (S8 (S4 (zA zF))))) (zH rfl (yD (c:=true) 74 rfl) rfl) ?_)))))))))))))))))))))))
 refine qn 22 (zG (S8 (S8 (S4 (zA (zA zF)))))) (zH rfl (yD (c:=true) 74 rfl) rfl) (qx 23 (vb true) (zG (S8 (S8 (S4 (zA (zA (zA zF))))))) (qx 24 (vb true) (zG (S8 (S8 (S8 zF)))) (qn 25 (zG (S8 (S8 (S8 (zA zF))))) (zH rfl (yD (c:=true) 81 rfl) rfl) (qn 27 (zG (S8 (S8 (S8 (zA (zA (zA zF))))))) (zH rfl (yD (c:=true) 81 rfl) rfl) (lg 26 (zV (zG (S8 (S8 (S8 (zA (zA zF)))))) (zH rfl (yD (c:=true) 81 rfl) rfl) (lg 28 (zV (zG (S8 (S8 (S8 (S4 zF))))) (zH rfl (yD (c:=true) 81 rfl) rfl) (qn 29 (zG (S8 (S8 (S8 (S4 (zA zF)))))) (zH rfl (yD (c:=true) 81 rfl) rfl) (qx 30 (vb true) (zG (S8 (S8 (S8 (S4 (zA (zA zF))))))) (qx 31 (vb true) (zG (S8 (S8 (S8 (S4 (zA (zA (zA zF)))))))) (qn 32 (zG (S8 (S8 (S8 (S8 zF))))) (zH rfl (yD (c:=true) 88 rfl) rfl) (qn 33 (zG (S8 (S8 (S8 (S8 (zA zF)))))) (zH rfl (yD (c:=true) 88 rfl) rfl) (qn 34 (zG (S8 (S8 (S8 (S8 (zA (zA zF))))))) (zH rfl (yD (c:=true) 88 rfl) rfl) (qn 35 (zG (S8 (S8 (S8 (S8 (zA (zA (zA zF)))))))) (zH rfl (yD (c:=true) 88 rfl) rfl) (qn 36 (zG (S8 (S8 (S8 (S8 (S4 zF)))))) (zH rfl (yD (c:=true) 88 rfl) rfl) (qx 37 (vb true) (zG (S8 (S8 (S8 (S8 (S4 (zA zF))))))) (qx 38 (vb true) (zG (S8 (S8 (S8 (S8 (S4 (zA (zA zF)))))))) (qn 39 (zG (S8 (S8 (S8 (S8 (S4 (zA (zA (zA zF))))))))) (zH rfl (yD (c:=true) 95 rfl) rfl) (qn 41 (zG (S8 (S8 (S8 (S8 (S8 (zA zF))))))) (zH rfl (yD (c:=true) 95 rfl) rfl) (lg 40 (zV (zG (S8 (S8 (S8 (S8 (S8 zF)))))) (zH rfl (yD (c:=true) 95 rfl) rfl) (qn 42 (zG (S8 (S8 (S8 (S8 (S8 (zA (zA zF)))))))) (zH rfl (yD (c:=true) 95 rfl) rfl) ?_)))))))))))))))))))))))
 refine qx 43 (vb true) (zG (S8 (S8 (S8 (S8 (S8 (zA (zA (zA zF))))))))) (qx 44 (vb true) (zG (S8 (S8 (S8 (S8 (S8 (S4 zF))))))) (qn 45 (zG (S8 (S8 (S8 (S8 (S8 (S4 (zA zF)))))))) (zH rfl (yD (c:=true) 101 rfl) rfl) (qn 46 (zG (S8 (S8 (S8 (S8 (S8 (S4 (zA (zA zF))))))))) (zH rfl (yD (c:=true) 101 rfl) rfl) (qn 48 (zG (S8 (S8 (S8 (S8 (S8 (S8 zF))))))) (zH rfl (yD (c:=true) 101 rfl) rfl) (qn 49 (zG (S8 (S8 (S8 (S8 (S8 (S8 (zA zF)))))))) (zH rfl (yD (c:=true) 101 rfl) rfl) (lg 47 (zV (zG (S8 (S8 (S8 (S8 (S8 (S4 (zA (zA (zA zF)))))))))) (zH rfl (yD (c:=true) 101 rfl) rfl) (lg 50 (zV (zG (S8 (S8 (S8 (S8 (S8 (S8 (zA (zA zF))))))))) (zH rfl (yD (c:=true) 101 rfl) rfl) (lg 51 (zV (zG (S8 (S8 (S8 (S8 (S8 (S8 (zA (zA (zA zF)))))))))) (zH rfl (yD (c:=true) 101 rfl) rfl) (qn 52 (zG (S8 (S8 (S8 (S8 (S8 (S8 (S4 zF)))))))) (zH rfl (yD (c:=true) 101 rfl) rfl) (qx 53 (vb true) (zG (S8 (S8 (S8 (S8 (S8 (S8 (S4 (zA zF))))))))) (wn (zN ⟨true,Hl1,hm,hs,hb,h⟩)))))))))))))))
 refine sz (v:=(vi r5)) Kp4 (wy 60 hg3) (fun _ _=>(by kernel_rfl)) (qw 6 (vi r7) Kp6 (wy 60 hg3) (lg 5 (yP Kp5 (wy 60 hg3) (by kernel_rfl) (xc call30) (h.mono ?_))))
 rintro e w13 ⟨r12,rfl,hC,hk,h⟩
 refine ⟨_,rfl,.inr ⟨hC,hb.kept hk⟩,?_⟩
 obtain ⟨hs,hb⟩:=hk.hh hs hb
 refine qw 7 (vb (r12 != r7)) Kp7 (wy 60 hg3) (qz 8 (vb (r12 != r7)) Kp8 (fun _ _=>(xF hg3)) (qx 9 (vb (r12 != r7)) Kp9 (qg 10 ?_)))
 obtain ⟨hg4,h⟩|⟨hg4,h⟩:=h.br
 refine zV (zG (S8 (zA (zA zF)))) (zH rfl (yD 66 hg4) rfl) (qn 13 (zG (S8 (S4 (zA zF)))) (zH rfl (yD 66 hg4) rfl) (lg 11 (zV (zG (S8 (zA (zA (zA zF))))) (zH rfl (yD 66 hg4) rfl) (lg 12 (zV (zG (S8 (S4 zF))) (zH rfl (yD 66 hg4) rfl) (lg 14 (zV (zG (S8 (S4 (zA (zA zF))))) (zH rfl (yD 66 hg4) rfl) (qn 15 (zG (S8 (S4 (zA (zA (zA zF)))))) (zH rfl (yD 66 hg4) rfl) (qz 16 (vb true) (zG (S8 (S8 zF))) (fun _ _=>(xT hg4)) (qx 17 (vb true) (zG (S8 (S8 (zA zF)))) (qn 18 (zG (S8 (S8 (zA (zA zF))))) (zH rfl (yD (c:=true) 74 rfl) rfl) (qn 20 (zG (S8 (S8 (S4 zF)))) (zH rfl (yD (c:=true) 74 rfl) rfl) (lg 19 (zV (zG (S8 (S8 (zA (zA (zA zF)))))) (zH rfl (yD (c:=true) 74 rfl) rfl) (lg 21 (zV (zG (S8 (S8 (S4 (zA zF))))) (zH rfl (yD (c:=true) 74 rfl) rfl) (qn 22 (zG (S8 (S8 (S4 (zA (zA zF)))))) (zH rfl (yD (c:=true) 74 rfl) rfl) (qx 23 (vb true) (zG (S8 (S8 (S4 (zA (zA (zA zF))))))) (qx 24 (vb true) (zG (S8 (S8 (S8 zF)))) (qn 25 (zG (S8 (S8 (S8 (zA zF))))) (zH rfl (yD (c:=true) 81 rfl) rfl) (qn 27 (zG (S8 (S8 (S8 (zA (zA (zA zF))))))) (zH rfl (yD (c:=true) 81 rfl) rfl) (lg 26 (zV (zG (S8 (S8 (S8 (zA (zA zF)))))) (zH rfl (yD (c:=true) 81 rfl) rfl) ?_)))))))))))))))))))))))
 refine lg 28 (zV (zG (S8 (S8 (S8 (S4 zF))))) (zH rfl (yD (c:=true) 81 rfl) rfl) (qn 29 (zG (S8 (S8 (S8 (S4 (zA zF)))))) (zH rfl (yD (c:=true) 81 rfl) rfl) (qx 30 (vb true) (zG (S8 (S8 (S8 (S4 (zA (zA zF))))))) (qx 31 (vb true) (zG (S8 (S8 (S8 (S4 (zA (zA (zA zF)))))))) (qn 32 (zG (S8 (S8 (S8 (S8 zF))))) (zH rfl (yD (c:=true) 88 rfl) rfl) (qn 33 (zG (S8 (S8 (S8 (S8 (zA zF)))))) (zH rfl (yD (c:=true) 88 rfl) rfl) (qn 34 (zG (S8 (S8 (S8 (S8 (zA (zA zF))))))) (zH rfl (yD (c:=true) 88 rfl) rfl) (qn 35 (zG (S8 (S8 (S8 (S8 (zA (zA (zA zF)))))))) (zH rfl (yD (c:=true) 88 rfl) rfl) (qn 36 (zG (S8 (S8 (S8 (S8 (S4 zF)))))) (zH rfl (yD (c:=true) 88 rfl) rfl) (qx 37 (vb true) (zG (S8 (S8 (S8 (S8 (S4 (zA zF))))))) (qx 38 (vb true) (zG (S8 (S8 (S8 (S8 (S4 (zA (zA zF)))))))) (qn 39 (zG (S8 (S8 (S8 (S8 (S4 (zA (zA (zA zF))))))))) (zH rfl (yD (c:=true) 95 rfl) rfl) (qn 41 (zG (S8 (S8 (S8 (S8 (S8 (zA zF))))))) (zH rfl (yD (c:=true) 95 rfl) rfl) (lg 40 (zV (zG (S8 (S8 (S8 (S8 (S8 zF)))))) (zH rfl (yD (c:=true) 95 rfl) rfl) (qn 42 (zG (S8 (S8 (S8 (S8 (S8 (zA (zA zF)))))))) (zH rfl (yD (c:=true) 95 rfl) rfl) (qx 43 (vb true) (zG (S8 (S8 (S8 (S8 (S8 (zA (zA (zA zF))))))))) (qx 44 (vb true) (zG (S8 (S8 (S8 (S8 (S8 (S4 zF))))))) (qn 45 (zG (S8 (S8 (S8 (S8 (S8 (S4 (zA zF)))))))) (zH rfl (yD (c:=true) 101 rfl) rfl) (qn 46 (zG (S8 (S8 (S8 (S8 (S8 (S4 (zA (zA zF))))))))) (zH rfl (yD (c:=true) 101 rfl) rfl) (qn 48 (zG (S8 (S8 (S8 (S8 (S8 (S8 zF))))))) (zH rfl (yD (c:=true) 101 rfl) rfl) (qn 49 (zG (S8 (S8 (S8 (S8 (S8 (S8 (zA zF)))))))) (zH rfl (yD (c:=true) 101 rfl) rfl) (lg 47 ?_)))))))))))))))))))))))
 refine zV (zG (S8 (S8 (S8 (S8 (S8 (S4 (zA (zA (zA zF)))))))))) (zH rfl (yD (c:=true) 101 rfl) rfl) (lg 50 (zV (zG (S8 (S8 (S8 (S8 (S8 (S8 (zA (zA zF))))))))) (zH rfl (yD (c:=true) 101 rfl) rfl) (lg 51 (zV (zG (S8 (S8 (S8 (S8 (S8 (S8 (zA (zA (zA zF)))))))))) (zH rfl (yD (c:=true) 101 rfl) rfl) (qn 52 (zG (S8 (S8 (S8 (S8 (S8 (S8 (S4 zF)))))))) (zH rfl (yD (c:=true) 101 rfl) rfl) (qx 53 (vb true) (zG (S8 (S8 (S8 (S8 (S8 (S8 (S4 (zA zF))))))))) (wn (zN ⟨true,Hl1,hm,hs,hb,h⟩))))))))
 refine sz (v:=(Af aG aH aI aJ aK)) (zG (S8 (zA (zA zF)))) (wy 66 hg4) (fun w' hw'=>(xa p1 (Ab aG aH aI aJ aK) (isAgg56 _) (sizeOf56 _) (hw'.2.r0 1 5 (gS gZ)))) (qg 13 (sz (v:=(Af aG aH aI aJ aK)) (zG (S8 (S4 (zA zF)))) (wy 66 hg4) (fun w' hw'=>(xa p1 (Ab aG aH aI aJ aK) (isAgg56 _) (sizeOf56 _) (hw'.2.r0 1 5 (gS gZ)))) (lg 11 (yP (zG (S8 (zA (zA (zA zF))))) (wy 66 hg4) (by kernel_rfl) (xc call31) (h.mono ?_)))))
 rintro e w14 ⟨r13,rfl,hC,hk,h⟩
 refine ⟨_,rfl,.inr ⟨hC,hb.kept hk⟩,?_⟩
 obtain ⟨hs,hb⟩:=hk.hh hs hb
 refine lg 12 (yP (zG (S8 (S4 zF))) (wy 66 hg4) (by kernel_rfl) (xc call30) (h.mono ?_))
 rintro e w15 ⟨r14,rfl,hC,hk,h⟩
 refine ⟨_,rfl,.inr ⟨hC,hb.kept hk⟩,?_⟩
 obtain ⟨hs,hb⟩:=hk.hh hs hb
 refine lg 14 (yP (zG (S8 (S4 (zA (zA zF))))) (wy 66 hg4) (by kernel_rfl) (xc call32) (h.mono ?_))
 rintro e w16 ⟨r15,rfl,hC,hk,h⟩
 refine ⟨_,rfl,.inr ⟨hC,hb.kept hk⟩,?_⟩
 obtain ⟨hs,hb⟩:=hk.hh hs hb
 refine qw 15 (vb (r14 != r15)) (zG (S8 (S4 (zA (zA (zA zF)))))) (wy 66 hg4) (qz 16 (vb (r14 != r15)) (zG (S8 (S8 zF))) (fun _ _=>(xF hg4)) (qx 17 (vb (r14 != r15)) (zG (S8 (S8 (zA zF)))) (qg 18 ?_)))
 obtain ⟨hg5,h⟩|⟨hg5,h⟩:=h.br
 refine zV (zG (S8 (S8 (zA (zA zF))))) (zH rfl (yD 74 hg5) rfl) (qn 20 (zG (S8 (S8 (S4 zF)))) (zH rfl (yD 74 hg5) rfl) (lg 19 (zV (zG (S8 (S8 (zA (zA (zA zF)))))) (zH rfl (yD 74 hg5) rfl) (lg 21 (zV (zG (S8 (S8 (S4 (zA zF))))) (zH rfl (yD 74 hg5) rfl) (qn 22 (zG (S8 (S8 (S4 (zA (zA zF)))))) (zH rfl (yD 74 hg5) rfl) (qz 23 (vb true) (zG (S8 (S8 (S4 (zA (zA (zA zF))))))) (fun _ _=>(xT hg5)) (qx 24 (vb true) (zG (S8 (S8 (S8 zF)))) (qn 25 (zG (S8 (S8 (S8 (zA zF))))) (zH rfl (yD (c:=true) 81 rfl) rfl) (qn 27 (zG (S8 (S8 (S8 (zA (zA (zA zF))))))) (zH rfl (yD (c:=true) 81 rfl) rfl) (lg 26 (zV (zG (S8 (S8 (S8 (zA (zA zF)))))) (zH rfl (yD (c:=true) 81 rfl) rfl) (lg 28 (zV (zG (S8 (S8 (S8 (S4 zF))))) (zH rfl (yD (c:=true) 81 rfl) rfl) (qn 29 (zG (S8 (S8 (S8 (S4 (zA zF)))))) (zH rfl (yD (c:=true) 81 rfl) rfl) (qx 30 (vb true) (zG (S8 (S8 (S8 (S4 (zA (zA zF))))))) (qx 31 (vb true) (zG (S8 (S8 (S8 (S4 (zA (zA (zA zF)))))))) (qn 32 (zG (S8 (S8 (S8 (S8 zF))))) (zH rfl (yD (c:=true) 88 rfl) rfl) (qn 33 (zG (S8 (S8 (S8 (S8 (zA zF)))))) (zH rfl (yD (c:=true) 88 rfl) rfl) (qn 34 (zG (S8 (S8 (S8 (S8 (zA (zA zF))))))) (zH rfl (yD (c:=true) 88 rfl) rfl) (qn 35 (zG (S8 (S8 (S8 (S8 (zA (zA (zA zF)))))))) (zH rfl (yD (c:=true) 88 rfl) rfl) (qn 36 (zG (S8 (S8 (S8 (S8 (S4 zF)))))) (zH rfl (yD (c:=true) 88 rfl) rfl) (qx 37 (vb true) (zG (S8 (S8 (S8 (S8 (S4 (zA zF))))))) ?_)))))))))))))))))))))))
 refine qx 38 (vb true) (zG (S8 (S8 (S8 (S8 (S4 (zA (zA zF)))))))) (qn 39 (zG (S8 (S8 (S8 (S8 (S4 (zA (zA (zA zF))))))))) (zH rfl (yD (c:=true) 95 rfl) rfl) (qn 41 (zG (S8 (S8 (S8 (S8 (S8 (zA zF))))))) (zH rfl (yD (c:=true) 95 rfl) rfl) (lg 40 (zV (zG (S8 (S8 (S8 (S8 (S8 zF)))))) (zH rfl (yD (c:=true) 95 rfl) rfl) (qn 42 (zG (S8 (S8 (S8 (S8 (S8 (zA (zA zF)))))))) (zH rfl (yD (c:=true) 95 rfl) rfl) (qx 43 (vb true) (zG (S8 (S8 (S8 (S8 (S8 (zA (zA (zA zF))))))))) (qx 44 (vb true) (zG (S8 (S8 (S8 (S8 (S8 (S4 zF))))))) (qn 45 (zG (S8 (S8 (S8 (S8 (S8 (S4 (zA zF)))))))) (zH rfl (yD (c:=true) 101 rfl) rfl) (qn 46 (zG (S8 (S8 (S8 (S8 (S8 (S4 (zA (zA zF))))))))) (zH rfl (yD (c:=true) 101 rfl) rfl) (qn 48 (zG (S8 (S8 (S8 (S8 (S8 (S8 zF))))))) (zH rfl (yD (c:=true) 101 rfl) rfl) (qn 49 (zG (S8 (S8 (S8 (S8 (S8 (S8 (zA zF)))))))) (zH rfl (yD (c:=true) 101 rfl) rfl) (lg 47 (zV (zG (S8 (S8 (S8 (S8 (S8 (S4 (zA (zA (zA zF)))))))))) (zH rfl (yD (c:=true) 101 rfl) rfl) (lg 50 (zV (zG (S8 (S8 (S8 (S8 (S8 (S8 (zA (zA zF))))))))) (zH rfl (yD (c:=true) 101 rfl) rfl) (lg 51 (zV (zG (S8 (S8 (S8 (S8 (S8 (S8 (zA (zA (zA zF)))))))))) (zH rfl (yD (c:=true) 101 rfl) rfl) (qn 52 (zG (S8 (S8 (S8 (S8 (S8 (S8 (S4 zF)))))))) (zH rfl (yD (c:=true) 101 rfl) rfl) (qx 53 (vb true) (zG (S8 (S8 (S8 (S8 (S8 (S8 (S4 (zA zF))))))))) (wn (zN ?_)))))))))))))))))))))
 exact ⟨true,Hl1,hm,hs,hb,h⟩
 refine sz (v:=(Af aG aH aI aJ aK)) (zG (S8 (S8 (zA (zA zF))))) (wy 74 hg5) (fun w' hw'=>(xa p1 (Ab aG aH aI aJ aK) (isAgg56 _) (sizeOf56 _) (hw'.2.r0 1 5 (gS gZ)))) (qg 20 (sz (v:=(Af aG aH aI aJ aK)) (zG (S8 (S8 (S4 zF)))) (wy 74 hg5) (fun w' hw'=>(xa p1 (Ab aG aH aI aJ aK) (isAgg56 _) (sizeOf56 _) (hw'.2.r0 1 5 (gS gZ)))) (lg 19 (yP (zG (S8 (S8 (zA (zA (zA zF)))))) (wy 74 hg5) (by kernel_rfl) (xc call33) (h.mono ?_)))))
 rintro e w17 ⟨r16,rfl,hC,hk,h⟩
 refine ⟨_,rfl,.inr ⟨hC,hb.kept hk⟩,?_⟩
 obtain ⟨hs,hb⟩:=hk.hh hs hb
 refine lg 21 (yP (zG (S8 (S8 (S4 (zA zF))))) (wy 74 hg5) (by kernel_rfl) (xc call34) (h.mono ?_))
 rintro e w18 ⟨r17,rfl,hC,hk,h⟩
 refine ⟨_,rfl,.inr ⟨hC,hb.kept hk⟩,?_⟩
 obtain ⟨hs,hb⟩:=hk.hh hs hb
 refine qw 22 (vb (r16 != r17)) (zG (S8 (S8 (S4 (zA (zA zF)))))) (wy 74 hg5) (qz 23 (vb (r16 != r17)) (zG (S8 (S8 (S4 (zA (zA (zA zF))))))) (fun _ _=>(xF hg5)) (qx 24 (vb (r16 != r17)) (zG (S8 (S8 (S8 zF)))) (qg 25 ?_)))
 obtain ⟨hg6,h⟩|⟨hg6,h⟩:=h.br
 refine zV (zG (S8 (S8 (S8 (zA zF))))) (zH rfl (yD 81 hg6) rfl) (qn 27 (zG (S8 (S8 (S8 (zA (zA (zA zF))))))) (zH rfl (yD 81 hg6) rfl) (lg 26 (zV (zG (S8 (S8 (S8 (zA (zA zF)))))) (zH rfl (yD 81 hg6) rfl) (lg 28 (zV (zG (S8 (S8 (S8 (S4 zF))))) (zH rfl (yD 81 hg6) rfl) (qn 29 (zG (S8 (S8 (S8 (S4 (zA zF)))))) (zH rfl (yD 81 hg6) rfl) (qz 30 (vb true) (zG (S8 (S8 (S8 (S4 (zA (zA zF))))))) (fun _ _=>(xT hg6)) (qx 31 (vb true) (zG (S8 (S8 (S8 (S4 (zA (zA (zA zF)))))))) (qn 32 (zG (S8 (S8 (S8 (S8 zF))))) (zH rfl (yD (c:=true) 88 rfl) rfl) (qn 33 (zG (S8 (S8 (S8 (S8 (zA zF)))))) (zH rfl (yD (c:=true) 88 rfl) rfl) (qn 34 (zG (S8 (S8 (S8 (S8 (zA (zA zF))))))) (zH rfl (yD (c:=true) 88 rfl) rfl) (qn 35 (zG (S8 (S8 (S8 (S8 (zA (zA (zA zF)))))))) (zH rfl (yD (c:=true) 88 rfl) rfl) (qn 36 (zG (S8 (S8 (S8 (S8 (S4 zF)))))) (zH rfl (yD (c:=true) 88 rfl) rfl) (qx 37 (vb true) (zG (S8 (S8 (S8 (S8 (S4 (zA zF))))))) (qx 38 (vb true) (zG (S8 (S8 (S8 (S8 (S4 (zA (zA zF)))))))) (qn 39 (zG (S8 (S8 (S8 (S8 (S4 (zA (zA (zA zF))))))))) (zH rfl (yD (c:=true) 95 rfl) rfl) (qn 41 (zG (S8 (S8 (S8 (S8 (S8 (zA zF))))))) (zH rfl (yD (c:=true) 95 rfl) rfl) (lg 40 (zV (zG (S8 (S8 (S8 (S8 (S8 zF)))))) (zH rfl (yD (c:=true) 95 rfl) rfl) (qn 42 (zG (S8 (S8 (S8 (S8 (S8 (zA (zA zF)))))))) (zH rfl (yD (c:=true) 95 rfl) rfl) (qx 43 (vb true) (zG (S8 (S8 (S8 (S8 (S8 (zA (zA (zA zF))))))))) (qx 44 (vb true) (zG (S8 (S8 (S8 (S8 (S8 (S4 zF))))))) (qn 45 (zG (S8 (S8 (S8 (S8 (S8 (S4 (zA zF)))))))) (zH rfl (yD (c:=true) 101 rfl) rfl) ?_)))))))))))))))))))))))
 refine qn 46 (zG (S8 (S8 (S8 (S8 (S8 (S4 (zA (zA zF))))))))) (zH rfl (yD (c:=true) 101 rfl) rfl) (qn 48 (zG (S8 (S8 (S8 (S8 (S8 (S8 zF))))))) (zH rfl (yD (c:=true) 101 rfl) rfl) (qn 49 (zG (S8 (S8 (S8 (S8 (S8 (S8 (zA zF)))))))) (zH rfl (yD (c:=true) 101 rfl) rfl) (lg 47 (zV (zG (S8 (S8 (S8 (S8 (S8 (S4 (zA (zA (zA zF)))))))))) (zH rfl (yD (c:=true) 101 rfl) rfl) (lg 50 (zV (zG (S8 (S8 (S8 (S8 (S8 (S8 (zA (zA zF))))))))) (zH rfl (yD (c:=true) 101 rfl) rfl) (lg 51 (zV (zG (S8 (S8 (S8 (S8 (S8 (S8 (zA (zA (zA zF)))))))))) (zH rfl (yD (c:=true) 101 rfl) rfl) (qn 52 (zG (S8 (S8 (S8 (S8 (S8 (S8 (S4 zF)))))))) (zH rfl (yD (c:=true) 101 rfl) rfl) (qx 53 (vb true) (zG (S8 (S8 (S8 (S8 (S8 (S8 (S4 (zA zF))))))))) (wn (zN ⟨true,Hl1,hm,hs,hb,h⟩))))))))))))
 refine sz (v:=(Af aG aH aI aJ aK)) (zG (S8 (S8 (S8 (zA zF))))) (wy 81 hg6) (fun w' hw'=>(xa p1 (Ab aG aH aI aJ aK) (isAgg56 _) (sizeOf56 _) (hw'.2.r0 1 5 (gS gZ)))) (qg 27 (sz (v:=(Af aG aH aI aJ aK)) (zG (S8 (S8 (S8 (zA (zA (zA zF))))))) (wy 81 hg6) (fun w' hw'=>(xa p1 (Ab aG aH aI aJ aK) (isAgg56 _) (sizeOf56 _) (hw'.2.r0 1 5 (gS gZ)))) (lg 26 (yP (zG (S8 (S8 (S8 (zA (zA zF)))))) (wy 81 hg6) (by kernel_rfl) (xc call35) (h.mono ?_)))))
 rintro e w19 ⟨r18,rfl,hC,hk,h⟩
 refine ⟨_,rfl,.inr ⟨hC,hb.kept hk⟩,?_⟩
 obtain ⟨hs,hb⟩:=hk.hh hs hb
 refine lg 28 (yP (zG (S8 (S8 (S8 (S4 zF))))) (wy 81 hg6) (by kernel_rfl) (xc call36) (h.mono ?_))
 rintro e w20 ⟨r19,rfl,hC,hk,h⟩
 refine ⟨_,rfl,.inr ⟨hC,hb.kept hk⟩,?_⟩
 obtain ⟨hs,hb⟩:=hk.hh hs hb
 refine qg 29 (sz (v:=(vb (!(decide (r18=r19))))) (zG (S8 (S8 (S8 (S4 (zA zF)))))) (wy 81 hg6) (fun _ _=>(uO (by kernel_rfl) (by kernel_rfl))) (qz 30 (vb (!(decide (r18=r19)))) (zG (S8 (S8 (S8 (S4 (zA (zA zF))))))) (fun _ _=>(xF hg6)) (qx 31 (vb (!(decide (r18=r19)))) (zG (S8 (S8 (S8 (S4 (zA (zA (zA zF)))))))) (qg 32 ?_))))
 obtain ⟨hg7,h⟩|⟨hg7,h⟩:=h.br
 refine zV (zG (S8 (S8 (S8 (S8 zF))))) (zH rfl (yD 88 hg7) rfl) (qn 33 (zG (S8 (S8 (S8 (S8 (zA zF)))))) (zH rfl (yD 88 hg7) rfl) (qn 34 (zG (S8 (S8 (S8 (S8 (zA (zA zF))))))) (zH rfl (yD 88 hg7) rfl) (qn 35 (zG (S8 (S8 (S8 (S8 (zA (zA (zA zF)))))))) (zH rfl (yD 88 hg7) rfl) (qn 36 (zG (S8 (S8 (S8 (S8 (S4 zF)))))) (zH rfl (yD 88 hg7) rfl) (qz 37 (vb true) (zG (S8 (S8 (S8 (S8 (S4 (zA zF))))))) (fun _ _=>(xT hg7)) (qx 38 (vb true) (zG (S8 (S8 (S8 (S8 (S4 (zA (zA zF)))))))) (qn 39 (zG (S8 (S8 (S8 (S8 (S4 (zA (zA (zA zF))))))))) (zH rfl (yD (c:=true) 95 rfl) rfl) (qn 41 (zG (S8 (S8 (S8 (S8 (S8 (zA zF))))))) (zH rfl (yD (c:=true) 95 rfl) rfl) (lg 40 (zV (zG (S8 (S8 (S8 (S8 (S8 zF)))))) (zH rfl (yD (c:=true) 95 rfl) rfl) (qn 42 (zG (S8 (S8 (S8 (S8 (S8 (zA (zA zF)))))))) (zH rfl (yD (c:=true) 95 rfl) rfl) (qx 43 (vb true) (zG (S8 (S8 (S8 (S8 (S8 (zA (zA (zA zF))))))))) (qx 44 (vb true) (zG (S8 (S8 (S8 (S8 (S8 (S4 zF))))))) (qn 45 (zG (S8 (S8 (S8 (S8 (S8 (S4 (zA zF)))))))) (zH rfl (yD (c:=true) 101 rfl) rfl) (qn 46 (zG (S8 (S8 (S8 (S8 (S8 (S4 (zA (zA zF))))))))) (zH rfl (yD (c:=true) 101 rfl) rfl) (qn 48 (zG (S8 (S8 (S8 (S8 (S8 (S8 zF))))))) (zH rfl (yD (c:=true) 101 rfl) rfl) (qn 49 (zG (S8 (S8 (S8 (S8 (S8 (S8 (zA zF)))))))) (zH rfl (yD (c:=true) 101 rfl) rfl) (lg 47 (zV (zG (S8 (S8 (S8 (S8 (S8 (S4 (zA (zA (zA zF)))))))))) (zH rfl (yD (c:=true) 101 rfl) rfl) (lg 50 (zV (zG (S8 (S8 (S8 (S8 (S8 (S8 (zA (zA zF))))))))) (zH rfl (yD (c:=true) 101 rfl) rfl) (lg 51 (zV (zG (S8 (S8 (S8 (S8 (S8 (S8 (zA (zA (zA zF)))))))))) (zH rfl (yD (c:=true) 101 rfl) rfl) ?_)))))))))))))))))))))))
 refine qn 52 (zG (S8 (S8 (S8 (S8 (S8 (S8 (S4 zF)))))))) (zH rfl (yD (c:=true) 101 rfl) rfl) (qx 53 (vb true) (zG (S8 (S8 (S8 (S8 (S8 (S8 (S4 (zA zF))))))))) (wn (zN ⟨true,Hl1,hm,hs,hb,h⟩)))
 refine sz (v:=r8.v) (zG (S8 (S8 (S8 (S8 zF))))) (wy 88 hg7) (fun _ _=>(by kernel_rfl)) (qg 33 ?_)
 obtain ⟨c1,hv2,h⟩:=h
 refine sz (v:=(vs c1)) (zG (S8 (S8 (S8 (S8 (zA zF)))))) (wy 88 hg7) (fun w' hw'=>(xS (by kernel_rfl) (hv2 w' hw'.1))) (qw 34 r10.v (zG (S8 (S8 (S8 (S8 (zA (zA zF))))))) (wy 88 hg7) (qg 35 ?_))
 obtain ⟨c2,hv1,h⟩:=h
 refine sz (v:=(vs c2)) (zG (S8 (S8 (S8 (S8 (zA (zA (zA zF)))))))) (wy 88 hg7) (fun w' hw'=>(xS (by kernel_rfl) (hv1 w' hw'.1))) (qg 36 (sz (v:=(vb (!(decide (c1=c2))))) (zG (S8 (S8 (S8 (S8 (S4 zF)))))) (wy 88 hg7) (fun _ _=>(uO (by kernel_rfl) (by kernel_rfl))) (qz 37 (vb (!(decide (c1=c2)))) (zG (S8 (S8 (S8 (S8 (S4 (zA zF))))))) (fun _ _=>(xF hg7)) (qx 38 (vb (!(decide (c1=c2)))) (zG (S8 (S8 (S8 (S8 (S4 (zA (zA zF)))))))) (qg 39 ?_)))))
 obtain ⟨hg8,h⟩|⟨hg8,h⟩:=h.br
 refine zV (zG (S8 (S8 (S8 (S8 (S4 (zA (zA (zA zF))))))))) (zH rfl (yD 95 hg8) rfl) (qn 41 (zG (S8 (S8 (S8 (S8 (S8 (zA zF))))))) (zH rfl (yD 95 hg8) rfl) (lg 40 (zV (zG (S8 (S8 (S8 (S8 (S8 zF)))))) (zH rfl (yD 95 hg8) rfl) (qn 42 (zG (S8 (S8 (S8 (S8 (S8 (zA (zA zF)))))))) (zH rfl (yD 95 hg8) rfl) (qz 43 (vb true) (zG (S8 (S8 (S8 (S8 (S8 (zA (zA (zA zF))))))))) (fun _ _=>(xT hg8)) (qx 44 (vb true) (zG (S8 (S8 (S8 (S8 (S8 (S4 zF))))))) (qn 45 (zG (S8 (S8 (S8 (S8 (S8 (S4 (zA zF)))))))) (zH rfl (yD (c:=true) 101 rfl) rfl) (qn 46 (zG (S8 (S8 (S8 (S8 (S8 (S4 (zA (zA zF))))))))) (zH rfl (yD (c:=true) 101 rfl) rfl) (qn 48 (zG (S8 (S8 (S8 (S8 (S8 (S8 zF))))))) (zH rfl (yD (c:=true) 101 rfl) rfl) (qn 49 (zG (S8 (S8 (S8 (S8 (S8 (S8 (zA zF)))))))) (zH rfl (yD (c:=true) 101 rfl) rfl) (lg 47 (zV (zG (S8 (S8 (S8 (S8 (S8 (S4 (zA (zA (zA zF)))))))))) (zH rfl (yD (c:=true) 101 rfl) rfl) (lg 50 (zV (zG (S8 (S8 (S8 (S8 (S8 (S8 (zA (zA zF))))))))) (zH rfl (yD (c:=true) 101 rfl) rfl) (lg 51 (zV (zG (S8 (S8 (S8 (S8 (S8 (S8 (zA (zA (zA zF)))))))))) (zH rfl (yD (c:=true) 101 rfl) rfl) (qn 52 (zG (S8 (S8 (S8 (S8 (S8 (S8 (S4 zF)))))))) (zH rfl (yD (c:=true) 101 rfl) rfl) (qx 53 (vb true) (zG (S8 (S8 (S8 (S8 (S8 (S8 (S4 (zA zF))))))))) (wn (zN ?_))))))))))))))))))))
 exact ⟨true,Hl1,hm,hs,hb,h⟩
 refine sz (v:=(vi r9)) (zG (S8 (S8 (S8 (S8 (S4 (zA (zA (zA zF))))))))) (wy 95 hg8) (fun _ _=>(by kernel_rfl)) (qw 41 (vi r11) (zG (S8 (S8 (S8 (S8 (S8 (zA zF))))))) (wy 95 hg8) (lg 40 (yP (zG (S8 (S8 (S8 (S8 (S8 zF)))))) (wy 95 hg8) (by kernel_rfl) (xc call30) (h.mono ?_))))
 rintro e w21 ⟨r20,rfl,hC,hk,h⟩
 refine ⟨_,rfl,.inr ⟨hC,hb.kept hk⟩,?_⟩
 obtain ⟨hs,hb⟩:=hk.hh hs hb
 refine qw 42 (vb (r20 != r11)) (zG (S8 (S8 (S8 (S8 (S8 (zA (zA zF)))))))) (wy 95 hg8) (qz 43 (vb (r20 != r11)) (zG (S8 (S8 (S8 (S8 (S8 (zA (zA (zA zF))))))))) (fun _ _=>(xF hg8)) (qx 44 (vb (r20 != r11)) (zG (S8 (S8 (S8 (S8 (S8 (S4 zF))))))) (qg 45 ?_)))
 obtain ⟨hg9,h⟩|⟨hg9,h⟩:=h.br
 refine zV (zG (S8 (S8 (S8 (S8 (S8 (S4 (zA zF)))))))) (zH rfl (yD 101 hg9) rfl) (qn 46 (zG (S8 (S8 (S8 (S8 (S8 (S4 (zA (zA zF))))))))) (zH rfl (yD 101 hg9) rfl) (qn 48 (zG (S8 (S8 (S8 (S8 (S8 (S8 zF))))))) (zH rfl (yD 101 hg9) rfl) (qn 49 (zG (S8 (S8 (S8 (S8 (S8 (S8 (zA zF)))))))) (zH rfl (yD 101 hg9) rfl) (lg 47 (zV (zG (S8 (S8 (S8 (S8 (S8 (S4 (zA (zA (zA zF)))))))))) (zH rfl (yD 101 hg9) rfl) (lg 50 (zV (zG (S8 (S8 (S8 (S8 (S8 (S8 (zA (zA zF))))))))) (zH rfl (yD 101 hg9) rfl) (lg 51 (zV (zG (S8 (S8 (S8 (S8 (S8 (S8 (zA (zA (zA zF)))))))))) (zH rfl (yD 101 hg9) rfl) (qn 52 (zG (S8 (S8 (S8 (S8 (S8 (S8 (S4 zF)))))))) (zH rfl (yD 101 hg9) rfl) (qz 53 (vb true) (zG (S8 (S8 (S8 (S8 (S8 (S8 (S4 (zA zF))))))))) (fun _ _=>(xT hg9)) (wn (zN ⟨true,Hl1,hm,hs,hb,h⟩)))))))))))))
 refine sz (v:=(vp r2)) (zG (S8 (S8 (S8 (S8 (S8 (S4 (zA zF)))))))) (wy 101 hg9) (fun _ _=>(by kernel_rfl)) (qw 46 (vi r4) (zG (S8 (S8 (S8 (S8 (S8 (S4 (zA (zA zF))))))))) (wy 101 hg9) (qw 48 (vp r3) (zG (S8 (S8 (S8 (S8 (S8 (S8 zF))))))) (wy 101 hg9) (qw 49 (vi r6) (zG (S8 (S8 (S8 (S8 (S8 (S8 (zA zF)))))))) (wy 101 hg9) (lg 47 (yP (zG (S8 (S8 (S8 (S8 (S8 (S4 (zA (zA (zA zF)))))))))) (wy 101 hg9) (by kernel_rfl) (xc call38) (h.mono ?_))))))
 rintro e w22 ⟨aA,aB,bE,bF,aC,bG,rfl,hC,hk,h⟩
 refine ⟨_,rfl,.inr ⟨hC,hb.kept hk⟩,?_⟩
 obtain ⟨hs,hb⟩:=hk.hh hs hb
 refine lg 50 (yP (zG (S8 (S8 (S8 (S8 (S8 (S8 (zA (zA zF))))))))) (wy 101 hg9) (by kernel_rfl) (xc call20) (h.mono ?_))
 rintro e w23 ⟨aD,aE,bH,bI,aF,bJ,rfl,hC,hk,h⟩
 refine ⟨_,rfl,.inr ⟨hC,hb.kept hk⟩,?_⟩
 obtain ⟨hs,hb⟩:=hk.hh hs hb
 refine lg 51 (yP (zG (S8 (S8 (S8 (S8 (S8 (S8 (zA (zA (zA zF)))))))))) (wy 101 hg9) (by kernel_rfl) (xc call37) (h.mono ?_))
 rintro e w24 ⟨r21,rfl,hC,hk,h⟩
 refine ⟨_,rfl,.inr ⟨hC,hb.kept hk⟩,?_⟩
 obtain ⟨hs,hb⟩:=hk.hh hs hb
 refine qw 52 (vb (!r21)) (zG (S8 (S8 (S8 (S8 (S8 (S8 (S4 zF)))))))) (wy 101 hg9) (qz 53 (vb (!r21)) (zG (S8 (S8 (S8 (S8 (S8 (S8 (S4 (zA zF))))))))) (fun _ _=>(xF hg9)) (wn (zN ⟨(!r21),Hl1,hm,hs,hb,h⟩)))
 refine vQ (xG (xG (xA (zN (zB ?_)))))
 obtain ⟨C2,hC,h⟩:=h
 refine dr2 (fun x=>C2 x∧HB Hl1 x _) [1,9] [] ⟨hC,hb.drew⟩ h hs hb fun w25 hs hb h=>?_
 have hs:=hs.here
 refine qx 0 (vp r2) Kp0 (qx 2 (vp r3) Kp2 (qg 3 ?_))
 obtain ⟨a1,hp1,h⟩:=h
 refine sy Kp3 (fun _ _=>xn hp1) (qx 4 (vp (some a1)) Kp4 (qg 5 ?_))
 obtain ⟨v1,hv3,h⟩:=h
 refine sy Kp5 (fun _ k=>xl (isAgg49 _) (hv3 _ k.1)) (qx 6 (vi (v1.len:Int)) Kp6 (lg 1 (slc Kp1 call22 (h.mono ?_))))
 rintro e w26 ⟨r22,rfl,hC,hk,h⟩
 refine ⟨_,rfl,.inr ⟨hC,hb.kept hk⟩,?_⟩
 obtain ⟨hs,hb⟩:=hk.hh hs hb
 refine qx 7 (vb (r22 == (v1.len:Int))) Kp7 (qx 8 (vb (r22 == (v1.len:Int))) Kp8 (lg 9 ?_))
 obtain ⟨hg10,h⟩|⟨hg10,h⟩:=h.br
 refine yP Kp9 (wy 120 hg10) (by kernel_rfl) (xc call23) (h.mono ?_)
 rintro e w27 ⟨r23,rfl,hC,hk,h⟩
 refine ⟨_,rfl,.inr ⟨hC,hb.kept hk⟩,?_⟩
 obtain ⟨hs,hb⟩:=hk.hh hs hb
 refine qz 10 (vb r23) (zG (S8 (zA (zA zF)))) (fun _ _=>(xT hg10)) (qx 11 (vb r23) (zG (S8 (zA (zA (zA zF))))) (wn (zN (er (rs1 results5 ⟨r23,rfl,h⟩)))))
 refine zV Kp9 (zH rfl (yD 120 hg10) rfl) (qz 10 (vb false) (zG (S8 (zA (zA zF)))) (fun _ _=>(xF hg10)) (qx 11 (vb false) (zG (S8 (zA (zA (zA zF))))) (wn (zN (er (rs1 results5 ⟨false,rfl,h⟩))))))
end Go.Proofs
end
section
open Go Go.SE
namespace Go.Sp
open Go.Proofs
def l11:Letter:=⟨1,0,7,⟨#[97]⟩,false⟩
theorem l11a:(vO [] l11).1=6∧(vO [] l11).2.1=0:=by constructor <;> kernel_rfl
theorem l11b:jSL (vO [] l11).2.2 6=(l11,true)∧(jSL (vO [] l11).2.2 1).2=false∧sizeOf (vO [] l11).2.2 6=6:=by refine ⟨?_,?_,?_⟩ <;> kernel_rfl
theorem l11c:(tS l11).2=0∧jOV (tS l11).1=(l11,true):=by constructor <;> kernel_rfl
theorem l11d:(⟨(jCF l11).toArray⟩:ByteArray)=⟨#[112,114,111,109,105,115,101,32,48,32,55,32,34,97,34]⟩:=by
 have e0:qO l11=0:=by kernel_rfl
 have h0:Lib.decDigits l11.frm.toNat=[48]:=Lib.decDigits_one (i:=0) (by omega);have h7:Lib.decDigits l11.c.toNat=[55]:=Lib.decDigits_one (i:=7) (by omega);have hx:jAH l11.text=[34,97,34]:=by decide
 have e:jCF l11=[112,114,111,109,105,115,101,32,48,32,55,32,34,97,34]:=by
  unfold jCF;rw [if_neg (by rw [e0];simp),h0,h7,hx];rfl
 rw [e]
theorem l11e:toS l11=1:=by kernel_rfl
end Go.Sp
namespace Go.Proofs
open Tryz
attribute [local irreducible] Calls
theorem jLO (w0:World) (ht:Pow w0):Calls prog 23 #[] w0 (fun e w'=>∃r:Bool,e=.returned (.bool r)∧(r=true∧Pure w0 w')):=by
 refine w_V w0 (fun r w'=>r=true∧Pure w0 w') ?_;unfold m_V;refine (jPW w0).mono ?_;rintro _ w1 ⟨_,rfl,p,rfl,E1,F,hP,hF⟩;refine ⟨_,rfl,E1.keptP,fun H1 w3 hs=>?_⟩;have hn:Sp.uJ Sp.l11.c:=⟨by decide,by decide⟩;have hW:=Sp.jBX Sp.Wf.nil Sp.l11;have hN:=Sp.tN Sp.tO.nil hn;have E3:Pure w0 w3:=E1.hst hs;have hP3:zS w3 p [] F:=hP.ext hs.ext (fun b hb hh=>(hs.new b hh).elim id (fun h=>by have:=hP.lt hb;omega));have hFl:∀b,F b→b<w1.heap.size:=fun b hb=>hP.lt hb;have hHF:∀b,H1 b→¬ F b:=fun b hh hb=>(hs.new b hh).elim id (fun h=>by have:=hFl b hb;omega);refine (jKS p Sp.l11 w3 hP3 Sp.Wf.nil.ok).mono ?_;rintro _ w4 ⟨r2,r3,rfl,e2,e3,F4,hP4,E4,hF4⟩;rw [Sp.l11a.1] at e2;rw [Sp.l11a.2] at e3;subst e2;subst e3;have E04:Pure w0 w4:=E3.trans' E4 (fun i hi hf=>by have:=hF i hf;omega);refine ⟨_,_,rfl,E4.kept hHF,?_⟩;refine (tM p 6 w4 hP4 hW.ok).mono ?_;rintro _ w5 ⟨k,f,c,x,g,ok,rfl,hr,E5⟩;rw [Sp.l11b.1] at hr;obtain ⟨hl,rfl⟩:=Prod.mk.inj hr;unfold Sp.l11 at hl;simp only [Sp.Letter.mk.injEq] at hl;obtain ⟨rfl,rfl,rfl,rfl,rfl⟩:=hl;refine ⟨_,_,_,_,_,_,rfl,E5.keptP,fun H2 w7 hs7=>?_⟩;have E07:Pure w0 w7:=(E04.trans E5).hst hs7;have hH2:∀b,H2 b→b<w7.heap.size:=hs7.lt;have hHF4:∀b,F4 b→¬ H1 b:=fun b hb hh=>(hF4 b hb).elim (fun h=>hHF b hh h) (fun h=>by have:=hs.lt b hh;omega);have hP7:zS w7 p (vO [] Sp.l11).2.2 F4:=(hP4.pure E5).ext hs7.ext (hs7.disj (fun b hb=>⟨by have:=hP4.lt hb;have:=E5.size;omega,hHF4 b hb⟩));have hHF7:∀b,F4 b→¬ H2 b:=hs7.disj (fun b hb=>⟨by have:=hP4.lt hb;have:=E5.size;omega,hHF4 b hb⟩);refine (jFT Sp.l11 hn w7).mono ?_;rintro _ w8 ⟨r5,r6,rfl,e6,hR⟩;rw [Sp.l11c.1] at e6;subst e6;refine ⟨_,_,rfl,hR.pure.keptP,?_⟩;refine (jNF r5 _ w8 hR.rows.lst (jSJ hR.rows)).mono ?_;rintro _ w9 ⟨k2,f2,c2,x2,g2,ok2,rfl,hr2,E9⟩;rw [Sp.l11c.2] at hr2;obtain ⟨hl2,rfl⟩:=Prod.mk.inj hr2;unfold Sp.l11 at hl2;simp only [Sp.Letter.mk.injEq] at hl2;obtain ⟨rfl,rfl,rfl,rfl,rfl⟩:=hl2;refine ⟨_,_,_,_,_,_,rfl,E9.keptP,fun H3 w11 hs11=>?_⟩;have E89:=hR.pure.trans E9;have E011:Pure w0 w11:=(E07.trans E89).hst hs11;have hHF11:∀b,F4 b→¬ H3 b:=hs11.disj (fun b hb=>⟨by have:=hP7.lt hb;have:=E89.size;omega,hHF7 b hb⟩);have hP11:zS w11 p (vO [] Sp.l11).2.2 F4:=(hP7.pure E89).ext hs11.ext hHF11;refine (tM p 1 w11 hP11 hW.ok).mono ?_;rintro _ w12 ⟨k3,f3,c3,x3,g3,ok3,rfl,hr3,E12⟩;have hok3:ok3=false:=by
  have:=congrArg Prod.snd hr3;simp only at this;rw [this];exact Sp.l11b.2.1
 subst hok3;refine ⟨_,_,_,_,_,_,rfl,E12.keptP,?_⟩;rintro y1 rfl y2 rfl;refine ⟨fun _=>?_,fun h=>absurd h (by decide)⟩;intro H10 w23 hs23;have E023:Pure w0 w23:=(E011.trans E12).hst hs23;have hHF23:∀b,F4 b→¬ H10 b:=hs23.disj (fun b hb=>⟨by have:=hP11.lt hb;have:=E12.size;omega,hHF11 b hb⟩);have hP23:zS w23 p (vO [] Sp.l11).2.2 F4:=(hP11.pure E12).ext hs23.ext hHF23;refine (jJE Sp.l11 hn w23 (uR ht E023)).mono ?_;rintro _ w26 ⟨r11,rfl,e11,E26⟩;refine ⟨_,rfl,E26.keptP,?_⟩;rw [e11,Sp.l11d];unfold m_V_j1;refine ⟨fun _=>?_,fun h=>absurd h (by decide)⟩;refine (jSW Sp.l11 w26).mono ?_;rintro _ w25 ⟨_,rfl,rfl,E25⟩;refine ⟨_,rfl,E25.keptP,?_⟩;rw [Sp.l11e];unfold m_V_j2;refine ⟨fun _=>?_,fun h=>absurd h (by decide)⟩;refine (jTA p 6 w25 ((hP23.pure E26).pure E25) hW.ok).mono ?_;rintro _ w24 ⟨_,rfl,rfl,rfl⟩;refine ⟨_,rfl,Kept.refl _,?_,(E023.trans E26).trans E25⟩;rw [Sp.l11b.2.2];rfl
end Go.Proofs
end
section
open Go Go.SE
namespace Go.Sp
end Go.Sp
namespace Go.Proofs
attribute [local irreducible] Calls
end Go.Proofs
end
section
open Go Go.SE
namespace Go.Proofs
open Tryz
attribute [local irreducible] Calls
abbrev MkR (S:Int×Int×Sp.Pool) (p:Addr) (F:NP) (w0 w':World):Prop:=∃F',qK w' p S.2.2 F'∧Ext F w0 w'∧∀b,F' b→F b∨w0.heap.size≤b
theorem jER (p:Addr) (l:Sp.Letter) (w0:World) {L:Sp.Pool} {F:NP} (hP:qK w0 p L F) (hok:Sp.Ok L) :
  Calls prog 27 #[.pointer (some p),.agg #[.int .i64 l.kind,.int .i64 l.frm,.int .u64 l.c,.string l.text,.bool l.fake]] w0 (fun e w'=>∃r1 r2:Int,e=.returned (.tuple #[.int .i64 r1,.int .i64 r2])∧(r1=(vO L l).1∧r2=(vO L l).2.1∧MkR (vO L l) p F w0 w')):=by
 refine w_O2 (some p) l.kind l.frm l.c l.text l.fake w0 (fun r1 r2 w'=>r1=(vO L l).1∧r2=(vO L l).2.1∧MkR (vO L l) p F w0 w') ?_
 unfold m_O2
 rw [tH l]
 have hF:∀b,F b→b<w0.heap.size:=fun b hb=>hP.lt hb
 refine ⟨fun hc H w2 hs=>?_,fun hc H w2 hs=>?_⟩
 ·have e:vO L l=(0,Sp.qO l,L):=by unfold vO;rw [if_pos (bne_iff_ne.1 hc)]
  rw [e];exact ⟨rfl,rfl,F,hP.pure hs.first,Ext.pure hs.first,fun b hb=>.inl hb⟩
 have hc:Sp.qO l=0:=by simpa using hc
 have e:vO L l=Sp.of L (Sp.vW l true true):=by unfold vO;rw [if_neg (by simpa using hc)]
 rw [e]
 have E2:=hs.first
 refine (jIQ w2.heap.size l.kind l.frm l.c l.text l.fake true true w2 (Nat.le_refl _) (jFQ hc)).mono ?_
 rintro _ w3 ⟨s3,he,hT3,E3⟩
 have hT3:TreeAt (w2.heap.size≤·) w3 s3 (Sp.vW l true true):=hT3
 have he:_=Ending.returned (.agg (yV (Sp.vW l true true) s3).toArray):=he
 generalize Sp.vW l true true=T at *
 obtain ⟨tk,tf,tt,tu,tx,tks⟩:=T
 have he:_=Ending.returned (.agg #[.int .i64 tk,.int .i64 tf,.int .i64 tt,.int .u64 tu,.string tx,s3.v]):=he
 refine ⟨tk,tf,tt,tu,tx,s3,he,E3.keptP,?_⟩
 have E03:=E2.trans E3
 refine (jNB (S:=fun b=>w2.heap.size≤b∧b<w3.heap.size) p (.mk tk tf tt tu tx tks) s3 w3 hT3.lt (hP.pure E03) hok (fun b hb hh=>by have:=hF b hb;have:=E2.size;omega) (fun b hb=>hb.2)).mono ?_
 rintro _ w4 ⟨r1,r2,rfl,h12,F',hP4,X4,hF4⟩
 obtain ⟨e1,e2⟩:=Prod.mk.inj h12
 refine ⟨r1,r2,rfl,X4.kept (fun b hb hh=>by have:=hs.old b hb;have:=hF b hh;omega),e1,e2,F',hP4,(Ext.pure E03).trans X4,fun b hb=>(hF4 b hb).imp id (fun h=>by have:=E03.size;omega)⟩
theorem jJD (l:Sp.Letter) (hl:Sp.uJ l.c) (w0:World) :
  Calls prog 29 #[.agg #[.int .i64 l.kind,.int .i64 l.frm,.int .u64 l.c,.string l.text,.bool l.fake]] w0 (fun e w'=>∃r:Sl,∃n:Int,e=.returned (.tuple #[r.v,.int .i64 n])∧(n=(Sp.tS l).2∧RetO w0 5 1 (byr (Sp.tS l).1) r w')):=by
 refine w_P2 _ _ _ _ _ w0 (fun r n w'=>n=(Sp.tS l).2∧RetO w0 5 1 (byr (Sp.tS l).1) r w') ?_
 unfold m_P2
 intro H1 w1 hs
 have E1:=hs.first
 refine (jEQ w1).mono ?_
 rintro _ w2 ⟨_,rfl,p,F,rfl,hP,E2,hF⟩
 refine ⟨_,rfl,E2.keptP,?_⟩
 refine (jER p l w2 hP Sp.Wf.nil.ok).mono ?_
 rintro _ w3 ⟨r2,r3,rfl,e2,e3,F3,hP3,E3,hF3⟩
 have E02:=E1.trans E2
 have E03:Pure w0 w3:=E02.trans' E3 (fun i hi hf=>by have:=hF i hf;have:=E1.size;omega)
 refine ⟨_,_,rfl,E3.kept (fun b hb hf=>by have:=hs.lt b hb;have:=hF b hf;omega),fun hc=>?_,fun hc=>?_⟩
 ·have hc:=bne_iff_ne.1 hc
  have e:Sp.tS l=([],(vO [] l).2.1):=by unfold Sp.tS;rw [if_pos (by rw [← e3];exact hc)]
  rw [e]
  exact ⟨e3,Rws.nil _ _ _,fun b hb=>(by obtain ⟨a,ha,_⟩:=hb;cases ha),E03⟩
 ·have hc:r3=0:=by simpa using hc
  have e:Sp.tS l=jEO (vO [] l).2.2 (vO [] l).1:=by unfold Sp.tS;rw [if_neg (by rw [← e3];simpa using hc)]
  rw [e,← e2]
  refine (jEZ p r2 w3 (Sp.jBX Sp.Wf.nil l) (Sp.tN Sp.tO.nil hl) hP3).mono ?_
  rintro _ w4 ⟨r4,r5,rfl,e5,hR⟩
  exact ⟨_,_,rfl,hR.pure.keptP,e5,hR.rows,fun b hb=>by have:=hR.own b hb;have:=E03.size;omega,E03.trans hR.pure⟩
set_option maxRecDepth 100000 in
theorem jND (k:Int) (hk:k=1∨k=2∨k=3∨k=4∨k=5∨k=6∨k=7) (w0:World):Calls prog 82 #[.int .i64 k] w0 (fun e w'=>∃r:ByteArray,e=.returned (.string r)∧(r=⟨(Sp.tU k).toArray⟩∧Pure w0 w')):=by
 refine w_Q2 _ w0 (fun r w'=>r=⟨(Sp.tU k).toArray⟩∧Pure w0 w') ?_;unfold m_Q2;intro p1 w1 n1;have E1:Pure w0 w1:=Ext.new n1;have B:=Box.of_newA n1;rcases hk with rfl | rfl | rfl | rfl | rfl | rfl | rfl
 ·exact ⟨p1.add 1,⟨by omega,by show (1:Int)<((8:Nat):Int);omega,p1,rfl,rfl⟩,_,B.cell (i:=1) rfl,rfl,E1⟩
 ·exact ⟨p1.add 2,⟨by omega,by show (2:Int)<((8:Nat):Int);omega,p1,rfl,rfl⟩,_,B.cell (i:=2) rfl,rfl,E1⟩
 ·exact ⟨p1.add 3,⟨by omega,by show (3:Int)<((8:Nat):Int);omega,p1,rfl,rfl⟩,_,B.cell (i:=3) rfl,rfl,E1⟩
 ·exact ⟨p1.add 4,⟨by omega,by show (4:Int)<((8:Nat):Int);omega,p1,rfl,rfl⟩,_,B.cell (i:=4) rfl,rfl,E1⟩
 ·exact ⟨p1.add 5,⟨by omega,by show (5:Int)<((8:Nat):Int);omega,p1,rfl,rfl⟩,_,B.cell (i:=5) rfl,rfl,E1⟩
 ·exact ⟨p1.add 6,⟨by omega,by show (6:Int)<((8:Nat):Int);omega,p1,rfl,rfl⟩,_,B.cell (i:=6) rfl,rfl,E1⟩
 ·exact ⟨p1.add 7,⟨by omega,by show (7:Int)<((8:Nat):Int);omega,p1,rfl,rfl⟩,_,B.cell (i:=7) rfl,rfl,E1⟩
theorem jSN (x:ByteArray) (n:Nat) (h:n<x.data.toList.length) (hx:x.size≤1000000) (w:World):(Instr.sliceAt 9 (.string x) (some (.int .i64 (n:Int))) (some (.int .i64 (IntKind.i64.wrap ((n:Int)+1)))) none).run prog w=.ok (.string ⟨[x.data.toList[n]].toArray⟩) w:=by
 have hs:x.size=x.data.toList.length:=by rw [Array.length_toList];rfl
 have hw:IntKind.i64.wrap ((n:Int)+1)=((n+1:Nat):Int):=by rw [IntWalk.i64_in _ (by omega)];omega
 rw [hw,run_sliceAt_string _ _ _ _ _ _ underlying9,run_slice_string_if _ _ _ _ _ _ _ underlying9,if_pos ⟨by omega,by omega⟩,if_pos ⟨by omega,by omega⟩];simp only [Int.toNat_natCast];have e:x=⟨x.data.toList.toArray⟩:=by cases x;simp
 have e2:x.extract n (n+1)=⟨((x.data.toList.drop n).take (n+1 - n)).toArray⟩:=by
  conv=>lhs;rw [e]
  exact ByteArray.extract_mk _ _ _
 rw [e2,List.drop_eq_getElem_cons h];simp
theorem jHK {P:Program} {t:TypeId} (n:Nat) (h:n<256) (w:World):(Go.binOp .quo t (.int .u8 (n:Int)) (.int .u8 16)).run P w=.ok (.int .u8 ((n / 16:Nat):Int)) w:=by
 have:IntKind.u8.wrap ((n:Int).tdiv 16)=((n / 16:Nat):Int):=by
  rw [Int.tdiv_eq_ediv_of_nonneg (by omega)];simp only [IntKind.wrap,IntKind.bits,IntKind.signed];simp;omega
 show ((pure (Value.int .u8 (IntKind.u8.wrap ((n:Int).tdiv 16))):Sem Value)).run P w=_;rw [this];rfl
theorem jHJ {P:Program} {t:TypeId} (n:Nat) (w:World):(Go.binOp .rem t (.int .u8 (n:Int)) (.int .u8 16)).run P w=.ok (.int .u8 ((n % 16:Nat):Int)) w:=by
 have:(n:Int).tmod 16=((n % 16:Nat):Int):=by
  rw [Int.tmod_eq_emod_of_nonneg (by omega)];simp
 simp [Go.binOp,Op.intDiv,this]
theorem jJC (x:ByteArray) (hx:x.size≤5000) (w0:World):Calls prog 83 #[.string x] w0 (fun e w'=>∃r:ByteArray,e=.returned (.string r)∧(r=⟨(Sp.jAH x).toArray⟩∧Pure w0 w')):=by
 refine w_R1 _ w0 (fun r w'=>r=⟨(Sp.jAH x).toArray⟩∧Pure w0 w') ?_;unfold m_R1;have hxl:x.data.toList.length=x.size:=by rw [Array.length_toList];rfl
 refine ⟨fun o i H w=>∃n:Nat,i=n∧n≤x.data.toList.length∧o=⟨(34 :: (x.data.toList.take n).flatMap Sp.jAY).toArray⟩∧Pure w0 w,fun _ i _=>((x.data.toList.length:Int) - i).toNat,⟨0,rfl,Nat.zero_le _,rfl,Ext.refl _⟩,?_⟩;rintro _ _ Hl wl hsl ⟨n,rfl,hn,rfl,El⟩;unfold m_R1_l1;have hfl:(34 :: (x.data.toList.take n).flatMap Sp.jAY).length≤20001:=by
  have:=Sp.jGP (x.data.toList.take n);rw [List.length_take] at this;rw [List.length_cons];omega
 refine ⟨fun hlt=>?_,fun hlt=>?_⟩
 ·have hlt:n<x.data.toList.length:=by have:=of_decide_eq_true hlt;omega
  have hc:=x.data.toList[n].toNat_lt;have next:∀y w',y=Sp.jAY x.data.toList[n]→Pure w0 w'→(∃m:Nat,IntKind.i64.wrap ((n:Int)+1)=m∧m≤x.data.toList.length∧(⟨(34 :: (x.data.toList.take n).flatMap Sp.jAY++y).toArray⟩:ByteArray)=⟨(34 :: (x.data.toList.take m).flatMap Sp.jAY).toArray⟩∧Pure w0 w')∧((x.data.toList.length:Int) - IntKind.i64.wrap ((n:Int)+1)).toNat<((x.data.toList.length:Int) - (n:Int)).toNat:=by
   rintro _ w' rfl E;rw [vK hlt (by omega)];refine ⟨⟨n+1,rfl,hlt,?_,E⟩,jAK hlt⟩;rw [List.take_succ_eq_append_getElem hlt,List.flatMap_append];simp
  refine ⟨_,jOZ x n hlt wl,fun h=>?_,fun h=>⟨fun h2=>?_,fun h2=>⟨fun h3=>?_,fun h3=>?_⟩⟩⟩
  ·intro H2 w2 hs;have h:x.data.toList[n].toNat=34∨x.data.toList[n].toNat=92:=by simp at h ⊢;omega
   have hb:=vZ (P:=prog) (t:=9) w2 (34 :: (x.data.toList.take n).flatMap Sp.jAY) [92] (by omega) (by simp);have hb2:=vZ (P:=prog) (t:=9) w2 (34 :: (x.data.toList.take n).flatMap Sp.jAY++[92]) [x.data.toList[n]] (by rw [List.length_append];simp only [List.length_cons,List.length_nil] at hfl ⊢;omega) (by simp);refine ⟨_,hb,_,jSN x n hlt (by omega) w2,_,hb2,?_⟩;have e:=next [92,x.data.toList[n]] w2 (by unfold Sp.jAY;rw [if_pos h]) (El.hst hs)
   rw [List.append_assoc];exact e
  ·intro H2 w2 hs;have h:¬ (x.data.toList[n].toNat=34∨x.data.toList[n].toNat=92):=by simp at h ⊢;omega
   have h2:x.data.toList[n].toNat=10:=by simp at h2 ⊢;omega
   refine ⟨_,vZ w2 (34 :: (x.data.toList.take n).flatMap Sp.jAY) [92,110] (by omega) (by simp),?_⟩;exact next [92,110] w2 (by unfold Sp.jAY;rw [if_neg h,if_pos h2]) (El.hst hs)
  ·intro H5 w7 hs;have h:¬ (x.data.toList[n].toNat=34∨x.data.toList[n].toNat=92):=by simp at h ⊢;omega
   have h2:¬ x.data.toList[n].toNat=10:=by simp at h2 ⊢;omega
   have h3:¬ (32≤x.data.toList[n].toNat∧x.data.toList[n].toNat≤126):=by simp at h3 ⊢;omega
   have len2:∀a b:UInt8,((34 :: (x.data.toList.take n).flatMap Sp.jAY)++[a,b]).length≤100000:=fun a b=>by rw [List.length_append];simp only [List.length_cons,List.length_nil] at hfl ⊢;omega
   have len3:∀a b c:UInt8,(((34 :: (x.data.toList.take n).flatMap Sp.jAY)++[a,b])++[c]).length≤100000:=fun a b c=>by rw [List.length_append,List.length_append];simp only [List.length_cons,List.length_nil] at hfl ⊢;omega
   refine ⟨_,vZ w7 (34 :: (x.data.toList.take n).flatMap Sp.jAY) [92,120] (by omega) (by simp),_,jHK _ hc w7,_,jHK _ hc w7,_,jLH _ (by omega) w7,_,vZ w7 _ [Sp.jPA (x.data.toList[n].toNat / 16)] (len2 _ _) (by simp),_,jHJ _ w7,_,jHJ _ w7,_,jLH _ (by omega) w7,_,vZ w7 _ [Sp.jPA (x.data.toList[n].toNat % 16)] (len3 _ _ _) (by simp),?_⟩;have e:=next [92,120,Sp.jPA (x.data.toList[n].toNat / 16),Sp.jPA (x.data.toList[n].toNat % 16)] w7 (by unfold Sp.jAY;rw [if_neg h,if_neg h2,if_neg h3]) (El.hst hs)
   rw [List.append_assoc,List.append_assoc];exact e
  ·intro H5 w5 hs;have h:¬ (x.data.toList[n].toNat=34∨x.data.toList[n].toNat=92):=by simp at h ⊢;omega
   have h2:¬ x.data.toList[n].toNat=10:=by simp at h2 ⊢;omega
   have h3:32≤x.data.toList[n].toNat∧x.data.toList[n].toNat≤126:=by simp at h3 ⊢;omega
   refine ⟨_,jSN x n hlt (by omega) w5,_,vZ w5 (34 :: (x.data.toList.take n).flatMap Sp.jAY) [x.data.toList[n]] (by omega) (by simp),?_⟩;exact next [x.data.toList[n]] w5 (by unfold Sp.jAY;rw [if_neg h,if_neg h2,if_pos h3]) (El.hst hs)
 ·have:n=x.data.toList.length:=by have:=of_decide_eq_false hlt;omega
  subst this;rw [List.take_length] at *;refine ⟨_,vZ wl (34 :: x.data.toList.flatMap Sp.jAY) [34] (by omega) (by simp),?_,El⟩;simp [Sp.jAH]
theorem jKQ (l:Sp.Letter) (hc:Sp.uJ l.c) (w0:World):Calls prog 36 #[.agg #[.int .i64 l.kind,.int .i64 l.frm,.int .u64 l.c,.string l.text,.bool l.fake]] w0 (fun e w'=>∃r:ByteArray,e=.returned (.string r)∧(r=⟨(Sp.jCF l).toArray⟩∧Pure w0 w')):=by
 refine w_T _ _ _ _ _ w0 (fun r w'=>r=⟨(Sp.jCF l).toArray⟩∧Pure w0 w') ?_;unfold m_T;rw [tH l];refine ⟨fun h H1 w2 hs=>⟨?_,hs.first⟩,fun h H1 w2 hs=>?_⟩
 ·unfold Sp.jCF;rw [if_pos (bne_iff_ne.1 h)]
 have h0:Sp.qO l=0:=by simpa using h
 obtain ⟨k,f,c,x,g⟩:=l;obtain ⟨hk,hf,_,_,_,hx⟩:=Sp.jFP h0;obtain ⟨c,rfl⟩:∃n:Nat,c=(n:Int):=⟨c.toNat,by have:=hc.1;simp only at this;omega⟩;have hc':c<18446744073709551616:=by have:=hc.2;simp only at this;omega
 have e:Sp.jCF ⟨k,f,(c:Int),x,g⟩=Sp.tU k++(if g=true then [33] else [])++(if Sp.isSigned k=true then 32 :: Lib.decDigits f.toNat else [])++(32 :: Lib.decDigits c)++(if Sp.isTexted k=true then 32 :: Sp.jAH x else []):=by
  unfold Sp.jCF;rw [if_neg (by simpa using h0)];rfl
 rw [e];simp only;have E2:=hs.first;have hw:=Sp.jHD k;have hq:(Sp.jAH x).length≤300:=by
  have:=Sp.jGP x.data.toList;have hxl:x.data.toList.length=x.size:=by rw [Array.length_toList];rfl
  unfold Sp.jAH;rw [List.length_cons,List.length_append];simp only [List.length_cons,List.length_nil];omega
 have hd:=nd20 hc';have hd2:=nd20 (n:=f.toNat) (by omega);refine (jND k hk w2).mono ?_;rintro _ w3 ⟨_,rfl,rfl,E3⟩;refine ⟨_,rfl,E3.keptP,?_⟩;have E03:=E2.trans E3;have j2:∀acc w H,acc.length≤60→Pure w0 w→m_T_j2 k (c:Int) x ⟨acc.toArray⟩ w0 H w (fun r w'=>r=⟨(acc++(32 :: Lib.decDigits c)++(if Sp.isTexted k=true then 32 :: Sp.jAH x else [])).toArray⟩∧Pure w0 w'):=by
  intro acc w H ha E;unfold m_T_j2;refine ⟨_,vZ w acc [32] (by omega) (by simp),?_⟩;refine (jLR c hc' w).mono ?_;rintro _ w5 ⟨r2,rfl,rfl,rfl⟩;refine ⟨_,rfl,Kept.refl _,_,vZ w5 (acc++[32]) (Lib.decDigits c) (by simp;omega) (by omega),?_⟩;have ht:(s_C k || (k == 6))=Sp.isTexted k:=by
   rcases hk with rfl | rfl | rfl | rfl | rfl | rfl | rfl <;> rfl
  rw [ht];have ea:acc++[32]++Lib.decDigits c=acc++(32 :: Lib.decDigits c):=by simp
  rw [ea];refine ⟨fun h w6 hs6=>?_,fun h w6 hs6=>?_⟩
  ·rw [if_pos h];refine ⟨_,vZ w6 (acc++(32 :: Lib.decDigits c)) [32] (by simp;omega) (by simp),?_⟩;refine (jJC x (by omega) w6).mono ?_;rintro _ w7 ⟨_,rfl,rfl,E7⟩;refine ⟨_,rfl,E7.keptP,_,vZ w7 (acc++(32 :: Lib.decDigits c)++[32]) (Sp.jAH x) (by simp;omega) (by omega),?_,(E.hst hs6).trans E7⟩;simp
  ·rw [if_neg (by rw [h];decide),List.append_nil];exact ⟨rfl,E.hst hs6⟩
 have j1:∀acc w H,acc.length≤10→Pure w0 w→m_T_j1 k f (c:Int) x ⟨acc.toArray⟩ w0 H w (fun r w'=>r=⟨(acc++(if Sp.isSigned k=true then 32 :: Lib.decDigits f.toNat else [])++(32 :: Lib.decDigits c)++(if Sp.isTexted k=true then 32 :: Sp.jAH x else [])).toArray⟩∧Pure w0 w'):=by
  intro acc w H ha E;unfold m_T_j1;have hsg:s_C k=Sp.isSigned k:=by rcases hk with rfl | rfl | rfl | rfl | rfl | rfl | rfl <;> rfl
  rw [hsg];refine ⟨fun h w4 hs4=>?_,fun h w4 hs4=>?_⟩
  ·rw [if_pos h];refine ⟨_,vZ w4 acc [32] (by omega) (by simp),?_⟩;have hfu:IntKind.u64.wrap f=((f.toNat:Nat):Int):=by rcases hf with rfl | rfl <;> rfl
   rw [hfu];refine (jLR f.toNat (by omega) w4).mono ?_;rintro _ w8 ⟨r4,rfl,rfl,rfl⟩;refine ⟨_,rfl,Kept.refl _,_,vZ w8 (acc++[32]) (Lib.decDigits f.toNat) (by simp;omega) (by omega),?_⟩;have ea:acc++[32]++Lib.decDigits f.toNat=acc++(32 :: Lib.decDigits f.toNat):=by simp
   rw [ea];exact j2 _ _ _ (by simp;omega) (E.hst hs4)
  ·rw [if_neg (by rw [h];decide),List.append_nil];exact j2 _ _ _ (by omega) (E.hst hs4)
 refine ⟨fun hg=>?_,fun hg=>?_⟩
 ·rw [if_pos hg];exact ⟨_,vZ w3 (Sp.tU k) [33] (by omega) (by simp),j1 _ w3 H1 (by simp;omega) E03⟩
 ·rw [if_neg (by rw [hg];decide),List.append_nil];exact j1 _ w3 H1 (by omega) E03
theorem jAI (l l2:Sp.Letter) (hl:Sp.uJ l.c) (hl2:Sp.uJ l2.c) (w0:World) (ht:Pow w0) :
  Calls prog 5 #[.agg #[.int .i64 l.kind,.int .i64 l.frm,.int .u64 l.c,.string l.text,.bool l.fake],.agg #[.int .i64 l2.kind,.int .i64 l2.frm,.int .u64 l2.c,.string l2.text,.bool l2.fake]] w0 (fun e w'=>∃r:Bool,e=.returned (.bool r)∧(r=true∧Pure w0 w')):=by
 refine w_O _ _ _ _ _ _ _ _ _ _ w0 (fun r w'=>r=true∧Pure w0 w') ?_
 unfold m_O
 have live:∀(H':NP) (w:World),Pure w0 w→Calls prog 23 #[] w (fun e w'=>∃r:Bool,e=.returned (.bool r)∧Kept H' w w'∧(r=true∧Pure w0 w')):=fun H' w E=>by
  refine (jLO w (uR ht E)).mono ?_;rintro _ w' ⟨_,rfl,rfl,E'⟩;exact ⟨_,rfl,E'.keptP,rfl,E.trans E'⟩
 refine ⟨fun _ H w hs=>live H w hs.first,fun _=>?_⟩
 intro H3 w3 hs3
 have E3:Pure w0 w3:=hs3.first
 refine (jPW w3).mono ?_
 rintro _ w5 ⟨_,rfl,p,rfl,E5,F,hP,hF⟩
 refine ⟨_,rfl,E5.keptP,?_⟩
 refine (jEQ w5).mono ?_
 rintro _ w6 ⟨_,rfl,q,FR,rfl,hR,E6,hFR⟩
 have E06:=(E3.trans E5).trans E6
 refine ⟨_,rfl,E6.keptP,⟨fun h=>(by cases h),fun _=>?_⟩⟩
 have hH3:∀b,H3 b→b<w3.heap.size:=hs3.lt
 have P6:Pl2 w0 H3 w6 p q [] [] F FR:=by
  refine ⟨E06,hP.pure E6,hR,fun b hb=>⟨?_,fun hh=>?_,fun hh=>?_⟩,fun b hb=>⟨?_,fun hh=>?_⟩⟩
  ·have:=hF b hb;have:=E3.size;omega
  ·have:=hF b hb;have:=hH3 b hh;omega
  ·have:=hFR b hh;have:=hP.lt hb;omega
  ·have:=hFR b hb;have:=(E3.trans E5).size;omega
  ·have:=hFR b hb;have:=hH3 b hh;have:=E5.size;omega
 refine ⟨fun i k f c x g H w=>0≤i∧Sp.uJ c∧∃L F FR,Sp.Wf L∧Sp.tO L∧Pl2 w0 H w p q L L F FR,fun i _ _ _ _ _ _=>(2 - i).toNat,⟨by omega,hl,[],F,FR,Sp.Wf.nil,Sp.tO.nil,P6⟩,?_⟩
 rintro i k f c x g H w hs ⟨hi,hc,L,F1,FR1,hW,hN,P⟩
 unfold m_O_l1
 refine ⟨fun hlt=>?_,fun _=>?_⟩
 ·have hlt:=of_decide_eq_true hlt
  have hHw:∀b,H b→b<w.heap.size:=hs.lt
  refine (jKS p ⟨k,f,c,x,g⟩ w P.pool hW.ok).mono ?_
  rintro _ w7 ⟨r4,r5,rfl,e4,e5,F7,hP7,X7,hF7⟩
  refine ⟨_,_,rfl,X7.kept (fun b hb hf=>(P.o1 b hf).2.1 hb),?_⟩
  have P7:=P.of1 hHw hP7 X7 hF7
  have hH7:∀b,H b→b<w7.heap.size:=fun b hb=>by have:=hHw b hb;have:=X7.size;omega
  refine (jER q ⟨k,f,c,x,g⟩ w7 P7.ref hW.ok).mono ?_
  rintro _ w8 ⟨r6,r7,rfl,e6,e7,F8,hP8,X8,hF8⟩
  refine ⟨_,_,rfl,X8.kept (fun b hb hf=>(P7.o2 b hf).2 hb),?_⟩
  have P8:=P7.of2 hH7 hP8 X8 hF8
  have hW':=Sp.jBX hW ⟨k,f,c,x,g⟩
  have hN':=Sp.tN hN (l:=⟨k,f,c,x,g⟩) hc
  rw [← e4] at e6
  rw [← e5] at e7
  subst e6;subst e7
  generalize (vO L ⟨k,f,c,x,g⟩).2.2=Q at *
  refine (jFT ⟨k,f,c,x,g⟩ hc w8).mono ?_
  rintro _ w9 ⟨r8,r9,rfl,e9,R9⟩
  refine ⟨_,_,rfl,R9.kept,?_⟩
  refine (jJD ⟨k,f,c,x,g⟩ hc w9).mono ?_
  rintro _ w10 ⟨r10,r11,rfl,e11,R10⟩
  refine ⟨_,_,rfl,R10.kept,?_⟩
  rw [← e9] at e11
  subst e11
  have P10:=(P8.pureE R9.pure).pureE R10.pure
  have hH10:∀b,H b→b<w10.heap.size:=fun b hb=>by have:=hH7 b hb;have:=X8.size;have:=R9.pure.size;have:=R10.pure.size;omega
  refine ⟨fun w'=>Pure w10 w',Ext.drew w10,fun w12 hw12=>?_⟩
  have E12:Pure w10 w12:=by rw [hw12];exact Ext.drew w10
  have ne:∀a:Int,(a != a)=false:=fun a=>by simp
  refine Br.f (ne _) ?_
  refine (p_Y1 r7 w12).mono ?_
  rintro _ w13 ⟨rfl,E13⟩
  have K13:=E12.trans E13
  refine ⟨_,rfl,K13,E13.keptP,Br.f (ne _) ?_⟩
  refine (jBW ⟨k,f,c,x,g⟩ w13).mono ?_
  rintro _ w14 ⟨r13,rfl,e13,E14⟩
  have K14:=K13.trans E14
  refine ⟨_,rfl,K14,E14.keptP,?_⟩
  refine (p_Y1 r13 w14).mono ?_
  rintro _ w15 ⟨rfl,E15⟩
  have K15:=K14.trans E15
  refine ⟨_,rfl,K15,E15.keptP,?_⟩
  refine (p_K k f c x g w15).mono ?_
  rintro _ w16 ⟨rfl,E16⟩
  have K16:=K15.trans E16
  refine ⟨_,rfl,K16,E16.keptP,Br.f (by rw [tH ⟨k,f,c,x,g⟩,← e13];exact ne _) ?_⟩
  refine (jSW ⟨k,f,c,x,g⟩ w16).mono ?_
  rintro _ w17 ⟨r16,rfl,e16,E17⟩
  have K17:=K16.trans E17
  refine ⟨_,rfl,K17,E17.keptP,?_⟩
  refine (p_Z1 k f c x g w17).mono ?_
  rintro _ w18 ⟨rfl,E18⟩
  have K18:=K17.trans E18
  refine ⟨_,rfl,K18,E18.keptP,Br.f (by rw [jQT ⟨k,f,c,x,g⟩,← e16];exact ne _) ?_⟩
  have ht18:Pow w18:=uR ht (P10.pure.trans K18)
  refine (jJE ⟨k,f,c,x,g⟩ hc w18 ht18).mono ?_
  rintro _ w19 ⟨r18,rfl,e18,E19⟩
  have K19:=K18.trans E19
  refine ⟨_,rfl,K19,E19.keptP,?_⟩
  refine (jKQ ⟨k,f,c,x,g⟩ hc w19).mono ?_
  rintro _ w20 ⟨r19,rfl,e19,E20⟩
  have K20:=K19.trans E20
  rw [← e18] at e19
  subst e19
  refine ⟨_,rfl,K20,E20.keptP,Br.f (by simp) ?_⟩
  refine ⟨_,fun w' hw'=>jSG ((R9.rows.pure R10.pure).pure hw').lst,_,fun w' hw'=>jSG (R10.rows.pure hw').lst,Br.f (by simp) ?_⟩
  refine (p_Y1 r11 w20).mono ?_
  rintro _ w21 ⟨rfl,E21⟩
  have K21:=K20.trans E21
  refine ⟨_,rfl,K21,E21.keptP,Br.f (ne _) ?_⟩
  have P21:=P10.pureE K21
  refine (c_Tree p hW' _ r6 w21 F7 rfl P21.pool).mono ?_
  rintro _ w22 ⟨s1,he22,hT22,E22⟩
  have hT22:TreeAt (w21.heap.size≤·) w22 s1 (Sp.zU Q r6):=hT22
  have he22:_=Ending.returned (.agg (yV (Sp.zU Q r6) s1).toArray):=he22
  have c23:=jIV q hW' _ r6 w22 F8 rfl (P21.ref.pure E22)
  generalize Sp.zU Q r6=A at hT22 he22 c23
  obtain ⟨ak,af,aT,au,ax,aks⟩:=A
  have he22:_=Ending.returned (.agg #[.int .i64 ak,.int .i64 af,.int .i64 aT,.int .u64 au,.string ax,s1.v]):=he22
  have K22:=K21.trans E22
  refine ⟨ak,af,aT,au,ax,s1,he22,K22,E22.keptP,c23.mono ?_⟩
  rintro _ w23 ⟨s2,he23,hT23,E23⟩
  have hT23:TreeAt (w22.heap.size≤·) w23 s2 (.mk ak af aT au ax aks):=hT23
  have he23:_=Ending.returned (.agg #[.int .i64 ak,.int .i64 af,.int .i64 aT,.int .u64 au,.string ax,s2.v]):=he23
  have K23:=K22.trans E23
  refine ⟨ak,af,aT,au,ax,s2,he23,K23,E23.keptP,?_⟩
  refine (jIX (S:=fun b=>b<w23.heap.size) (.mk ak af aT au ax aks) (.mk ak af aT au ax aks) s1 s2 w23 ((hT22.pure E23).lt.mono (fun b hb=>hb.2)) (hT23.lt.mono (fun b hb=>hb.2)) (fun b hb=>hb)).mono ?_
  rintro _ w24 ⟨_,rfl,rfl,E24⟩
  have K24:=K23.trans E24
  refine ⟨_,rfl,K24,E24.keptP,?_⟩
  rw [(Sp.jQM _ _).2 rfl]
  unfold m_O_j3
  refine Br.f rfl ?_
  intro w11 hs11
  have P24:=P10.pureE K24
  unfold m_O_j2
  have hwi:IntKind.i64.wrap (i+1)=i+1:=IntWalk.i64_in _ (by omega)
  rw [hwi]
  exact ⟨⟨by omega,hl2,Q,F7,F8,hW',hN',P24.hst hs11⟩,by show (2 - (i+1)).toNat<(2 - i).toNat;omega⟩
 ·refine ⟨fun w'=>Pure w w',Ext.drew w,fun w25 hw25=>?_⟩
  have E25:Pure w w25:=by rw [hw25];exact Ext.drew w
  obtain ⟨s1,s2,s3,R,_⟩:=id P.ref
  refine ⟨q,rfl,s1,fun w' hw'=>(R.box.ext hw' (fun h=>h)).cell0,?_⟩
  refine (jAE p w25 (P.pool.pure E25)).mono ?_
  rintro _ w26 ⟨_,rfl,rfl,hw26⟩
  subst w26
  refine ⟨_,rfl,E25,Kept.refl _,?_⟩
  have hsl:(s1.len:Int)=L.length:=by have:=R.r1.len;rw [List.length_map] at this;omega
  refine ⟨fun _=>?_,fun h=>absurd (by rw [hsl]) (beq_eq_false_iff_ne.1 h)⟩
  refine (jLO w25 (uR ht (P.pure.trans E25))).mono ?_
  rintro _ w27 ⟨_,rfl,rfl,E27⟩
  exact ⟨_,rfl,E25.trans E27,E27.keptP,rfl,(P.pure.trans E25).trans E27⟩
end Go.Proofs
end
section
namespace Go.SE
open Go.ChangeShapes Go.WideShapes Go.ChangeAt Go.RowKit
section
variable {H:Type} {enc:TypeId×Value→H} {P:Program}
theorem jBY (hl:laidOutB P=true) {W W':World} (hb:Below W.heap.size W W'):∀(ts:List TypeId) (vs:List Value) (ds:List (DataW H)) (ps:List MemPlace),(ts.all fun t=>P.readableRec t && decide (t<P.types.size))=true →
  DataW.TrodAll enc P W 0 (fun _=>true) true ts vs ds ps→(∀x∈ps,x.block<W.heap.size)→DataW.TrodAll enc P W' 0 (fun b=>decide (b<W.heap.size)) true ts vs ds ps
 | [],_,_,_,_,h,_=>by
  obtain ⟨rfl,rfl,rfl⟩:=trodAll_nil h;exact h
 | t :: ts,_,_,_,hr,h,hlt=>by
  obtain ⟨v,vs1,d,ds1,a,b,rfl,rfl,rfl,h1,h2⟩:=trodAll_cons h;simp only [List.all_cons,Bool.and_eq_true,decide_eq_true_eq] at hr;exact ⟨a,b,Below.trod hl hr.1.1 hr.1.2 h1 hb (fun x hx=>hlt x (by simp [hx])),jBY hl hb ts vs1 ds1 b (by simpa using hr.2) h2 (fun x hx=>hlt x (by simp [hx])),rfl⟩
theorem jRJ {f:Func} {s:ChangeSpec} {W W':World} {args:Array Value} {ds gs:List (DataW H)} {before:List MemPlace} {t:TypeId} (hl:laidOutB P=true)
  (hv:s.vars=[]) (hf:∀ds:List (DataW H),ds.length=f.params.size→s.fn H ds={ results:=[.lit (.bool true)],args:=ds }) (hrt:f.resultTypes=#[t]) (ht:P.underlying t=some .bool)
  (hr:(f.params.toList.all fun t=>P.readableRec t && decide (t<P.types.size))=true)
  (hW:DataW.Whole enc P f.params.toList s.vars false W args.toList ds gs before) (E:Pure W W') :
  s.post enc P f false true false false W args (.bool true) W':=by
 have hW':=hW
 obtain ⟨p,q,hA,hV,rfl,hfz,hnd⟩:=hW
 rw [hv] at hV
 obtain ⟨rfl,rfl⟩:=trodVars_none hV
 have hlen:ds.length=f.params.size:=by
  have:∀(ts:List TypeId) (vs:List Value) (ds:List (DataW H)) (ps:List MemPlace),DataW.TrodAll enc P W 0 (fun _=>true) true ts vs ds ps→ds.length=ts.length:=by
   intro ts;induction ts with
   | nil=>intro vs ds ps h;obtain ⟨_,rfl,_⟩:=trodAll_nil h;rfl
   | cons t ts ih =>
    intro vs ds ps h
    obtain ⟨v,vs1,d,ds1,a,b,_,rfl,_,_,h2⟩:=trodAll_cons h
    simp [ih _ _ _ h2]
  simpa using this _ _ _ _ hA
 have hfn:=hf ds hlen
 have hfn':s.fn H (ds++[])={ results:=[.lit (.bool true)],args:=ds }:=by rw [List.append_nil];exact hfn
 have hlt:∀x∈p,x.block<W.heap.size:=fun x hx=>by simpa using hW'.lt x (by simp [hx])
 have bel:=E.below
 refine ⟨ds,[],p++[],[],p,[],hW',?_,?_,?_,bel.frame _,fun h=>by cases h⟩
 ·rw [hfn',hrt];exact trodAll_mk1 (shut_bool ht _)
 ·rw [hfn'];exact jBY hl bel _ _ _ _ hr hA hlt
 ·rw [hfn',hv];exact hV
end
end Go.SE
namespace Go.SE
open Go.ChangeShapes Go.WideShapes Go.ChangeAt Go.RowKit
section
variable {P:Program} {W:World} {r:Reach} {b0:Nat} {t:TypeId} {v:Value}
theorem jCP {fs:Array Field} {ts:List TypeId} (ht:P.underlying t=some (.struct fs)) (hc:P.cellTypes P.depth t=some ts) (hn:P.cellsOf t=ts.length) (h:Value.okWide P W r b0 t v) :
  ∃cs:Array Value,v=.agg cs∧cs.size=ts.length∧∀(i:Nat) (u:TypeId) (c:Value),ts[i]?=some u→cs[i]?=some c→Cell.okWide P W r b0 u c:=by
 unfold Value.okWide at h
 rw [ht] at h
 obtain ⟨cs,rfl,hs,ts',hts,_,hall⟩:=h
 rw [hc] at hts
 cases hts
 refine ⟨cs,rfl,hs.trans hn,fun i u c hu hcs=>?_⟩
 obtain ⟨u',hu',hok⟩:=hall i c hcs
 have hlt:i<ts.length:=(List.getElem?_eq_some_iff.1 hu).1
 rw [Nat.mod_eq_of_lt hlt,hu] at hu'
 cases hu'
 exact hok
end
end Go.SE
end
section
open Go Go.SE
namespace Go.Proofs
theorem jFM {α β:Type} {f:α→Option β}:∀{l:List α} {r:List β},l.mapM f=some r→r.length=l.length∧∀(i:Nat) (a:α),l[i]?=some a→∃b,f a=some b∧r[i]?=some b
 | [],r,h=>by
  have:r=[]:=by simpa using h.symm
  subst this;exact ⟨rfl,fun i a h=>by simp at h⟩
 | x :: xs,r,h=>by
  rw [List.mapM_cons] at h;cases hx:f x with
  | none=>simp [hx] at h
  | some y =>
   cases hxs:xs.mapM f with
   | none=>simp [hx,hxs] at h
   | some ys =>
    have:r=y :: ys:=by simpa [hx,hxs] using h.symm
    subst this
    obtain ⟨h1,h2⟩:=jFM hxs
    refine ⟨by simp [h1],fun i a ha=>?_⟩
    cases i with
    | zero=>cases ha;exact ⟨y,hx,rfl⟩
    | succ i=>exact h2 i a (by simpa using ha)
section
variable {H:Type} {enc:TypeId×Value→H} {P:Program} {W:World} {base:Nat} {sp:Nat→Bool} {held:Bool}
theorem jHF {t:TypeId} {k:IntKind} (ht:P.underlying t=some (.int k)) {n:Nat} {c:Value} {x:DataW H×List MemPlace} (h:DataW.trod enc P W base sp held n t [c]=some x):∃m,c=.int k m:=by
 cases n with
 | zero=>cases h
 | succ n =>
  rw [DataW.trod_step] at h
  unfold DataW.trodStep at h
  rw [ht] at h
  cases c <;> simp at h
  obtain ⟨⟨rfl,_⟩,_⟩:=h
  exact ⟨_,rfl⟩
theorem jQI {t:TypeId} (ht:P.underlying t=some (.int .u64)) {n:Nat} {c:Value} {x:DataW H×List MemPlace} (h:DataW.trod enc P W base sp held n t [c]=some x):∃m,c=.int .u64 m∧Sp.uJ m:=by
 cases n with
 | zero=>cases h
 | succ n =>
  rw [DataW.trod_step] at h
  unfold DataW.trodStep at h
  rw [ht] at h
  cases c with
  | int k z =>
   simp only at h
   split at h
   ·rename_i hw
    obtain ⟨rfl,hw⟩:=hw
    have h1:IntKind.u64.min=0:=by rfl
    have h2:IntKind.u64.max=18446744073709551615:=by rfl
    simp only [Lit.wf,Bool.and_eq_true,decide_eq_true_eq,h1,h2] at hw
    exact ⟨z,rfl,by omega,by omega⟩
   ·cases h
  | _=>simp at h
theorem jNU {t:TypeId} (ht:P.underlying t=some .string) {n:Nat} {c:Value} {x:DataW H×List MemPlace} (h:DataW.trod enc P W base sp held n t [c]=some x):∃m,c=.string m:=by
 cases n with
 | zero=>cases h
 | succ n =>
  rw [DataW.trod_step] at h
  unfold DataW.trodStep at h
  rw [ht] at h
  cases c <;> simp at h
  exact ⟨_,rfl⟩
end
end Go.Proofs
end
section
open Go Go.SE
namespace Go.Sp
def Dep (L:Pool) (S:List Way) (t y:Int):Prop :=
 (∃v∈S,v.t=t∧v.rule≠0∧y=v.frm)∨(t ∉ jAG S∧0<y∧(y=(jTY L S t).1∨y=(jTY L S t).2.1))
inductive Dp (L:Pool) (S:List Way):Int→Int→Prop
 | refl (t:Int):Dp L S t t
 | step {t y z:Int}:Dep L S t y→Dp L S y z→Dp L S t z
theorem Dep.made {L:Pool} {S:List Way} {t y a b:Int} {f m:Bool} (h:jTY L S t=(a,b,f,m)) (ht:t ∉ jAG S):Dep L S t y↔0<y∧(y=a∨y=b):=by
 unfold Dep;rw [h];constructor
 ·rintro (⟨v,hv,rfl,_⟩ | ⟨_,h⟩)
  ·exact absurd (List.mem_map.2 ⟨v,hv,rfl⟩) ht
  ·exact h
 ·exact fun h=>.inr ⟨ht,h⟩
theorem Dep.way {L:Pool} {S:List Way} {t y r f:Int} (hn:(jAG S).Nodup) (hl:SE.look (S.map fun v=>(v.t,(v.rule,v.frm))) t=some (r,f)):Dep L S t y↔r≠0∧y=f:=by
 have hm:=jBP hl;obtain ⟨v,hv,e⟩:=List.mem_map.1 hm;simp only [Prod.mk.injEq] at e;obtain ⟨rfl,rfl,rfl⟩:=e;have hk:v.t∈jAG S:=List.mem_map.2 ⟨v,hv,rfl⟩;unfold Dep;constructor
 ·rintro (⟨u,hu,e,hr,rfl⟩ | ⟨h,_⟩)
  ·have hnd:((S.map fun v=>(v.t,(v.rule,v.frm))).map Prod.fst).Nodup:=by rw [List.map_map];exact hn
   have h2:=jKC hnd (List.mem_map.2 ⟨u,hu,rfl⟩);rw [e,hl] at h2;simp only [Option.some.injEq,Prod.mk.injEq] at h2;exact ⟨by rw [h2.1];exact hr,h2.2.symm⟩
  ·exact absurd hk h
 ·rintro ⟨h1,rfl⟩;exact .inl ⟨v,hv,rfl,h1,rfl⟩
theorem Dp.all {L:Pool} {S:List Way} {M:List Step} (hc:∀s∈M,∀y,Dep L S s.t y→y∈M.map Step.t) {t x:Int} (ht:t∈M.map Step.t) (h:Dp L S t x):x∈M.map Step.t:=by
 induction h with
 | refl=>exact ht
 | step hd _ ih =>
  obtain ⟨s,hs,rfl⟩:=List.mem_map.1 ht
  exact ih (hc s hs _ hd)
end Go.Sp
namespace Go.Proofs
attribute [local irreducible] Calls
section
variable {w w':World} {k p c1 c2 c3 c4 c5:Addr} {ma mb:Nat} {L:Sp.Pool} {G:List Int} {S:List Sp.Way} {F FP:NP} {sl:Sl} {l:List Sp.Step} {B:List Int}
end
section
variable {w0 w w':World} {H H':NP} {k p c1 c2 c3 c4 c5:Addr} {ma mb:Nat} {L:Sp.Pool} {G:List Int} {S:List Sp.Way} {F FP:NP} {sl sl1 sl2:Sl} {l M M2:List Sp.Step} {B0 B B2:List Int} {t:Int}
end
end Go.Proofs
end
section
open Go Go.SE
namespace Go.Proofs
section
variable {H:Type} {enc:TypeId×Value→H} {P:Program} {W:World} {base:Nat} {sp:Nat→Bool} {held:Bool}
theorem jJP {t:TypeId} {fs:Array Field} (ht:P.underlying t=some (.struct fs)) {n:Nat} {cs:List Value} {x:DataW H×List MemPlace} (h:DataW.trod enc P W base sp held n t cs=some x) :
  ∃m,cs.length=P.cellsOf t∧∀(i:Nat) (f:Field),fs.toList[i]?=some f→∃y,DataW.trod enc P W base sp held m f.type ((cs.drop f.offset).take (P.cellsOf f.type))=some y:=by
 cases n with
 | zero=>cases h
 | succ n =>
  rw [DataW.trod_step] at h
  unfold DataW.trodStep at h
  rw [ht] at h
  simp only at h
  split at h
  ·rename_i hl
   cases hm:fs.toList.mapM (fun f=>DataW.trod enc P W base sp held n f.type ((cs.drop f.offset).take (P.cellsOf f.type))) with
   | none=>rw [hm] at h;cases h
   | some r =>
    refine ⟨n,hl,fun i f hf=>?_⟩
    obtain ⟨b,hb,_⟩:=(jFM hm).2 i f hf
    exact ⟨b,hb⟩
  ·cases h
end
section
variable {H:Type} {enc:TypeId×Value→H} {W:World} {base:Nat} {sp:Nat→Bool} {held:Bool}
end
end Go.Proofs
end
section
open Go Go.SE
namespace Go.SE
theorem Rws.lit {w w':World} {p:Addr} {cs:Array Value} {e:TypeId} {sz:Nat} {rs:List (List Value)} (hn:New w (.cells cs e) p w') (hc:cs.toList=rs.flatten) (hl:∀r∈rs,r.length=sz) (hm:rs.length≤maxLen):Rws w' e sz ⟨some p,rs.length,rs.length⟩ rs:=by
 obtain ⟨hp,hw⟩:=hn;have hsz:cs.size=rs.length*sz:=by rw [← vL hl,← hc,Array.length_toList]
 refine ⟨hl,rfl,.inr ⟨w.heap.size,cs,by rw [hp],?_,Nat.le_refl _,hm,hsz,?_⟩⟩
 ·rw [hw];exact heap_alloc_new w _
 ·rw [hc,List.take_of_length_le (by rw [vL hl];exact Nat.le_refl _)]
end Go.SE
namespace Go.Proofs
def lrow (l:Sp.Letter):List Value:=[.int .i64 l.kind,.int .i64 l.frm,.int .u64 l.c,.string l.text,.bool l.fake]
end Go.Proofs
end
section
open Go Go.SE
namespace Go.Proofs
open Tryz
section
variable {H:Type} {enc:TypeId×Value→H} {P:Program} {W:World} {base:Nat} {sp:Nat→Bool} {held:Bool}
theorem jLY {t:TypeId} (ht:P.underlying t=some .bool) {n:Nat} {c:Value} {x:DataW H×List MemPlace} (h:DataW.trod enc P W base sp held n t [c]=some x):∃m,c=.bool m:=by
 cases n with
 | zero=>cases h
 | succ n =>
  rw [DataW.trod_step] at h
  unfold DataW.trodStep at h
  rw [ht] at h
  cases c <;> simp at h
  exact ⟨_,rfl⟩
end
set_option maxRecDepth 100000 in
theorem jCS {H:Type} {enc:TypeId×Value→H} {W:World} {base:Nat} {sp:Nat→Bool} {held:Bool} {n:Nat} {cs:List Value} {x:DataW H×List MemPlace} (h:DataW.trod enc prog W base sp held n 56 cs=some x):∃l:Sp.Letter,cs=lrow l∧Sp.uJ l.c:=by
 obtain ⟨m,hl,hf⟩:=jJP underlying56 h;rw [show (prog.cellsOf 56)=5 by kernel_rfl] at hl;match cs,hl with
 | [c0,c1,c2,c3,c4],_ =>
  obtain ⟨_,h0⟩:=hf 0 _ rfl
  obtain ⟨_,h1⟩:=hf 1 _ rfl
  obtain ⟨_,h2⟩:=hf 2 _ rfl
  obtain ⟨_,h3⟩:=hf 3 _ rfl
  obtain ⟨_,h4⟩:=hf 4 _ rfl
  simp only [show (prog.cellsOf 3)=1 by kernel_rfl,show (prog.cellsOf 26)=1 by kernel_rfl,show (prog.cellsOf 9)=1 by kernel_rfl,show (prog.cellsOf 4)=1 by kernel_rfl] at h0 h1 h2 h3 h4
  obtain ⟨m0,rfl⟩:=jHF underlying3 h0
  obtain ⟨m1,rfl⟩:=jHF underlying3 h1
  obtain ⟨m2,rfl,hm⟩:=jQI underlying26 h2
  obtain ⟨m3,rfl⟩:=jNU underlying9 h3
  obtain ⟨m4,rfl⟩:=jLY underlying4 h4
  exact ⟨⟨m0,m1,m2,m3,m4⟩,rfl,hm⟩
end Go.Proofs
end
