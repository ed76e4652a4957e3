import Derived.Test.YtbfdlpbchhjhoaaGreatPa4
import Derived.Test.YtbfdlpbchhjhoaaGreatPa3
import Derived.Test.YtbfdlpbchhjhoaaGreatPa1
import Derived.Test.YtbfdlpbchhjhoaaGreatProg
import Derived.KernelRfl
import Derived.Test.YtbfdlpbchhjhoaaGreatPa2
section
open Go Go.SE
namespace Go.Sp
open Go.Proofs
theorem jGK (Lq:Pool):∀(l1 l2:List Int) (L:Pool) (own:Int→Int),vM Lq (l1++l2) L own=if (vM Lq l1 L own).2.1≠0 then vM Lq l1 L own else vM Lq l2 (vM Lq l1 L own).1 (vM Lq l1 L own).2.2:=by
 intro l1;induction l1 with
 | nil=>intro l2 L own;rw [List.nil_append];exact (if_neg (fun h=>h rfl)).symm
 | cons z l1 ih =>
  intro l2 L own
  obtain ⟨x,e,L',hm⟩:∃x e L',make L { nodeOf Lq z with a:=own (nodeOf Lq z).a,b:=own (nodeOf Lq z).b }=(x,e,L'):=⟨_,_,_,rfl⟩
  rw [List.cons_append,yC Lq z (l1++l2) L own rfl hm,yC Lq z l1 L own rfl hm]
  by_cases he:e≠0
  ·rw [if_pos he,if_pos he,if_pos he]
  ·rw [if_neg he,if_neg he,ih]
theorem jDI (Lq:Pool):∀(l:List Int) (L:Pool) (own:Int→Int),∃M,(vM Lq l L own).1=L++M:=by
 intro l;induction l with
 | nil=>intro L own;exact ⟨[],(List.append_nil L).symm⟩
 | cons z l ih =>
  intro L own
  obtain ⟨x,e,L',hm⟩:∃x e L',make L { nodeOf Lq z with a:=own (nodeOf Lq z).a,b:=own (nodeOf Lq z).b }=(x,e,L'):=⟨_,_,_,rfl⟩
  rw [yC Lq z l L own rfl hm]
  split
  ·exact ⟨[],by simp⟩
  ·obtain ⟨M1,e1⟩:=lD L { nodeOf Lq z with a:=own (nodeOf Lq z).a,b:=own (nodeOf Lq z).b }
   rw [hm] at e1
   obtain ⟨M2,e2⟩:=ih L' (fun y=>if y=z then x else own y)
   simp only at e1
   exact ⟨M1++M2,by rw [e2,e1,List.append_assoc]⟩
theorem jRY {Lq:Pool}:∀(l:List Int) (L:Pool) (own:Int→Int),Wf L→Wf (vM Lq l L own).1:=by
 intro l;induction l with
 | nil=>intro L own h;exact h
 | cons z l ih =>
  intro L own h
  obtain ⟨x,e,L',hm⟩:∃x e L',make L { nodeOf Lq z with a:=own (nodeOf Lq z).a,b:=own (nodeOf Lq z).b }=(x,e,L'):=⟨_,_,_,rfl⟩
  have hw:=lJ h { nodeOf Lq z with a:=own (nodeOf Lq z).a,b:=own (nodeOf Lq z).b }
  rw [yC Lq z l L own rfl hm]
  rw [hm] at hw
  split
  ·exact h
  ·exact ih _ _ hw
theorem jLZ {Lq:Pool} {l post:List Int} {z:Int} {L:Pool} {own:Int→Int} (h0:(vM Lq l L own).2.1=0) {n:Node} (hn:{ nodeOf Lq z with a:=(vM Lq l L own).2.2 (nodeOf Lq z).a,b:=(vM Lq l L own).2.2 (nodeOf Lq z).b }=n) (he:(make (vM Lq l L own).1 n).2.1≠0) :
  (vM Lq (l++z :: post) L own).2.1=(make (vM Lq l L own).1 n).2.1:=by
 obtain ⟨x,e,L',hm⟩:∃x e L',make (vM Lq l L own).1 n=(x,e,L'):=⟨_,_,_,rfl⟩
 rw [hm] at he ⊢
 rw [jGK,if_neg (by rw [h0];exact fun h=>h rfl),yC Lq z post _ _ hn hm,if_pos he]
theorem jLY {Lq:Pool} {l:List Int} {z:Int} {L:Pool} {own:Int→Int} (h0:(vM Lq l L own).2.1=0) {n:Node} (hn:{ nodeOf Lq z with a:=(vM Lq l L own).2.2 (nodeOf Lq z).a,b:=(vM Lq l L own).2.2 (nodeOf Lq z).b }=n) (he:(make (vM Lq l L own).1 n).2.1=0) :
  vM Lq (l++[z]) L own=((make (vM Lq l L own).1 n).2.2,0,fun x=>if x=z then (make (vM Lq l L own).1 n).1 else (vM Lq l L own).2.2 x):=by
 obtain ⟨x,e,L',hm⟩:∃x e L',make (vM Lq l L own).1 n=(x,e,L'):=⟨_,_,_,rfl⟩
 rw [hm] at he ⊢
 rw [jGK,if_neg (by rw [h0];exact fun h=>h rfl),yC Lq z [] _ _ hn hm,if_neg (fun h=>h he)]
 rfl
end Go.Sp
namespace Go.Proofs
open Tryz
attribute [local irreducible] Calls CallsD
theorem jNJ {w:World} {a:Addr} {k:Nat} {v:Value}:Ext (·=a.block) w (w.setCell (a.add k) v):=(Ext.setCell _ _).mono (fun i _ e=>by rw [zV] at e;exact e)
def ownM (M:List (Int×Int)) (x:Int):Int:=(SE.look M x).getD 0
def CoV (p2 p3 p4 p5 p6 p8:Addr) (mb:Nat) (F' FQ:NP) (b:Nat):Prop:=b=p2.block∨b=p3.block∨b=p4.block∨b=p5.block∨b=p6.block∨b=p8.block∨b=mb∨F' b∨FQ b
structure CoB (A:World) (p q p2 p3 p4 p5 p6 p8:Addr) (mb n:Nat):Prop where
 b2:Box A p2 [.pointer (some p)] 91
 b3:Box A p3 [.pointer (some q)] 91
 b4:Box A p4 [.int .i64 0] 78
 b5:Box A p5 [.int .i64 0] 33
 b6:Box A p6 [.int .i64 (n:Int)] 3
 b8:Box A p8 [.map (some mb)] 207
theorem CoB.ext {A A':World} {p q p2 p3 p4 p5 p6 p8:Addr} {mb n:Nat} {F' FQ G:NP} (h:CoB A p q p2 p3 p4 p5 p6 p8 mb n) (E:Ext G A A') (hG:∀b,(b=p2.block∨b=p3.block∨b=p4.block∨b=p5.block∨b=p6.block∨b=p8.block)→¬ G b):CoB A' p q p2 p3 p4 p5 p6 p8 mb n :=
 ⟨h.b2.ext E (hG _ (.inl rfl)),h.b3.ext E (hG _ (.inr (.inl rfl))),h.b4.ext E (hG _ (.inr (.inr (.inl rfl)))),h.b5.ext E (hG _ (.inr (.inr (.inr (.inl rfl))))),h.b6.ext E (hG _ (.inr (.inr (.inr (.inr (.inl rfl)))))),h.b8.ext E (hG _ (.inr (.inr (.inr (.inr (.inr rfl))))))⟩
theorem CoB.pure {A A':World} {p q p2 p3 p4 p5 p6 p8:Addr} {mb n:Nat} (h:CoB A p q p2 p3 p4 p5 p6 p8 mb n) (E:Pure A A'):CoB A' p q p2 p3 p4 p5 p6 p8 mb n:=h.ext (F':=None) (FQ:=None) E (fun _ _ h=>h)
theorem CoB.lt {A:World} {p q p2 p3 p4 p5 p6 p8:Addr} {mb n b:Nat} (h:CoB A p q p2 p3 p4 p5 p6 p8 mb n) (hb:b=p2.block∨b=p3.block∨b=p4.block∨b=p5.block∨b=p6.block∨b=p8.block):b<A.heap.size:=by
 rcases hb with rfl | rfl | rfl | rfl | rfl | rfl
 ·exact h.b2.lt
 ·exact h.b3.lt
 ·exact h.b4.lt
 ·exact h.b5.lt
 ·exact h.b6.lt
 ·exact h.b8.lt
theorem c_Copy (p q:Addr) (t:Int) (w0:World) {L Lq:Sp.Pool} {FP FQ:NP} (hW:Sp.Wf L) (hQ:Sp.Wf Lq) (hP:zR w0 p L FP) (hPQ:zR w0 q Lq FQ) (hd:∀b,FP b→¬ FQ b) :
  Calls prog 75 #[.pointer (some p),.pointer (some q),.int .i64 t] w0 (fun e w'=>∃r1 r2:Int,e=.returned (.tuple #[.int .i64 r1,.int .i64 r2])∧(r1=(qX L Lq t).1∧r2=(qX L Lq t).2.1∧∃F',zR w' p (qX L Lq t).2.2 F'∧Ext FP w0 w'∧∀b,F' b→FP b∨w0.heap.size≤b)):=by
 refine w_R4 _ _ _ w0 (fun r1 r2 w'=>r1=(qX L Lq t).1∧r2=(qX L Lq t).2.1∧∃F',zR w' p (qX L Lq t).2.2 F'∧Ext FP w0 w'∧∀b,F' b→FP b∨w0.heap.size≤b) ?_
 unfold m_R4
 intro p2 w1 n2 p3 w2 n3 p4 w3 n4 p5 w4 n5
 have E1:Pure w0 w1:=Ext.new n2
 have E2:Pure w1 w2:=Ext.new n3
 have E3:Pure w2 w3:=Ext.new n4
 have E4:Pure w3 w4:=Ext.new n5
 have B2:=(((Box.of_newA n2).pure E2).pure E3).pure E4
 have B3:=((Box.of_newA n3).pure E3).pure E4
 have B4:=(Box.of_newA n4).pure E4
 have B5:=Box.of_newA n5
 have b2:=n2.at_size;have b3:=n3.at_size;have b4:=n4.at_size;have b5:=n5.at_size
 have z1:=E1.size;have z2:=E2.size;have z3:=E3.size;have z4:=E4.size
 have l1:=(Box.of_newA n2).lt;have l2:=(Box.of_newA n3).lt;have l3:=(Box.of_newA n4).lt;have l4:=B5.lt
 have E04:Pure w0 w4:=((E1.trans E2).trans E3).trans E4
 refine ⟨some p,B2.cell0,fun hc=>(by cases hc),fun _=>⟨some q,B3.cell0,?_⟩⟩
 refine (c_in q t w4 (hPQ.pure E04)).mono ?_
 rintro _ _ ⟨_,rfl,rfl,rfl⟩
 refine ⟨_,rfl,Kept.refl _,fun hc=>?_,fun hc=>?_⟩
 ·have hin:Sp.inP Lq t=false:=by simpa using hc
  have e:qX L Lq t=(0,51,L):=by unfold qX;rw [if_neg (by rw [hin];simp)]
  rw [e]
  refine ⟨B4.canW0 (by simp),id,?_⟩
  rintro w8 e8
  have X8:Ext (·=p4.block) w4 w8:=by rw [e8];exact Ext.setCell _ _
  have B48:Box w8 p4 [.int .i64 0] 78:=by rw [e8];exact B4.set0
  have B58:=B5.ext X8 (by omega)
  refine ⟨B58.canW0 (by simp),id,?_⟩
  rintro w9 e9
  have X9:Ext (·=p5.block) w8 w9:=by rw [e9];exact Ext.setCell _ _
  have B59:Box w9 p5 [.int .i64 51] 33:=by rw [e9];exact B58.set0
  have B49:=B48.ext X9 (by omega)
  refine ⟨_,B49.cell0,_,B59.cell0,rfl,rfl,FP,((hP.pure E04).ext X8 (fun b hb e=>by have:=hP.lt hb;omega)).ext X9 (fun b hb e=>by have:=hP.lt hb;omega),Ext.pure ((E04.own (by omega) X8).own (by omega) X9),fun b hb=>.inl hb⟩
 have hin:Sp.inP Lq t=true:=by simpa using hc
 obtain ⟨sl,hsl,hsll⟩:∃v4:Sl,w4.cell? p=some v4.v∧v4.len=L.length:=by
  obtain ⟨s,m,h,_⟩:=hP.pure E04;exact ⟨s,h.box.cell0,by rw [h.rows.len,List.length_map]⟩
 refine ⟨some p,B2.cell0,p,rfl,sl,hsl,?_⟩
 rw [hsll]
 intro p6 w10 n6
 have E10:Pure w4 w10:=Ext.new n6
 have B6:=Box.of_newA n6
 have b6:=n6.at_size
 refine ⟨B6.canW0 (by simp),id,?_⟩
 rintro w11 e11
 have X11:Ext (·=p6.block) w10 w11:=by rw [e11];exact Ext.setCell _ _
 have B6':Box w11 p6 [.int .i64 (L.length:Int)] 3:=by rw [e11];exact B6.set0
 intro p7 w12 n7
 have E12:Pure w11 w12:=Ext.new n7
 have M7:=IMap.of_new (f:=fun i:Int=>.int .i64 i) n7
 have b7:=n7.at_size
 intro p8 w13 n8
 have E13:Pure w12 w13:=Ext.new n8
 have B8:=Box.of_newA n8
 have b8:=n8.at_size
 refine ⟨B8.canW0 (by simp),id,?_⟩
 rintro w14 e14
 have X14:Ext (·=p8.block) w13 w14:=by rw [e14];exact Ext.setCell _ _
 have B8':Box w14 p8 [.map (some p7.block)] 207:=by rw [e14];exact B8.set0
 have z10:=E10.size;have z11:=X11.size;have z12:=E12.size;have z13:=E13.size;have z14:=X14.size
 have l6:=B6'.lt;have l7:=M7.lt;have l8:=B8.lt
 have E07:Pure w0 w14:=((((E04.trans E10).own (by omega) X11).trans E12).trans E13).own (by omega) X14
 have up:∀{T:TypeId} {c:Addr} {vs:List Value},Box w4 c vs T→c.block≠p6.block→c.block≠p8.block→Box w14 c vs T:=fun h h1 h2=>((((h.pure E10).ext X11 h1).pure E12).pure E13).ext X14 h2
 have C14:CoB w14 p q p2 p3 p4 p5 p6 p8 p7.block L.length:=⟨up B2 (by omega) (by omega),up B3 (by omega) (by omega),up B4 (by omega) (by omega),up B5 (by omega) (by omega),((B6'.pure E12).pure E13).ext X14 (by omega),B8'⟩
 have M14:=(M7.pure E13).ext X14 (by omega)
 refine ⟨some q,C14.b3.cell0,?_⟩
 refine (jUX q t w14).mono ?_
 rintro _ w15 ⟨_,rfl,q2,q3,rfl,Bq2,Bq3,E15⟩
 have E015:=E07.trans E15
 have z15:=E15.size
 refine ⟨_,rfl,E15.keptP,_,_,rfl,call186,_,_,jRN hQ (hPQ.pure E015) Bq2 Bq3,?_⟩
 have hfew:=Sp.jBO hQ t
 have hlq:=hQ.ok.few
 have hsub:∀u∈Sp.subs Lq t,Sp.inP Lq u=true:=fun u hu=>jCM hQ hu
 have hnd:=Sp.jCL hQ t
 generalize hcs:qX L Lq t=cs at *
 have hcs':cs=if (vM Lq (Sp.subs Lq t) L (fun _=>0)).2.1≠0 then (0,(vM Lq (Sp.subs Lq t) L (fun _=>0)).2.1,L) else ((vM Lq (Sp.subs Lq t) L (fun _=>0)).2.2 t,0,(vM Lq (Sp.subs Lq t) L (fun _=>0)).1):=by rw [← hcs];unfold qX;rw [if_pos hin]
 have htin:t∈Sp.subs Lq t:=jGZ hQ hin
 generalize Sp.subs Lq t=xs at *
 have C15:=C14.pure E15
 have M15:=M14.pure E15
 have o2:w0.heap.size≤p2.block:=by omega
 have o3:w0.heap.size≤p3.block:=by omega
 have o4:w0.heap.size≤p4.block:=by omega
 have o5:w0.heap.size≤p5.block:=by omega
 have o6:w0.heap.size≤p6.block:=by omega
 have o8:w0.heap.size≤p8.block:=by omega
 have om:w0.heap.size≤p7.block:=by omega
 have d45:p4.block≠p5.block:=by omega
 have dm:∀b,(b=p2.block∨b=p3.block∨b=p4.block∨b=p5.block∨b=p6.block∨b=p8.block)→b≠p7.block:=fun b hb=>by rcases hb with rfl | rfl | rfl | rfl | rfl | rfl <;> omega
 have ob:∀b,(b=p2.block∨b=p3.block∨b=p4.block∨b=p5.block∨b=p6.block∨b=p8.block∨b=p7.block)→w0.heap.size≤b∧b<w15.heap.size:=fun b hb=>by rcases hb with rfl | rfl | rfl | rfl | rfl | rfl | rfl <;> omega
 generalize p7.block=mb at *
 clear up B2 B3 B4 B5 B6 B6' B8 B8' M7 M14 C14 n2 n3 n4 n5 n6 n7 n8 X11 X14 E10 E12 E13 e11 e14 Bq2 Bq3 hsl
 have hPq:∀b,FQ b→b<w0.heap.size:=fun b hb=>hPQ.lt hb
 refine ⟨fun pre Y A=>∃(F':NP) (M:List (Int×Int)),(vM Lq pre L (fun _=>0)).2.1=0∧zR A p (vM Lq pre L (fun _=>0)).1 F'∧IMap (fun i:Int=>.int .i64 i) A mb M∧M.map Prod.fst=pre∧(∀x,(vM Lq pre L (fun _=>0)).2.2 x=ownM M x)∧CoB A p q p2 p3 p4 p5 p6 p8 mb L.length∧zR A q Lq FQ∧(∀b,F' b→FP b∨(w0.heap.size≤b∧¬ (b=p2.block∨b=p3.block∨b=p4.block∨b=p5.block∨b=p6.block∨b=p8.block∨b=mb)))∧(∀b,CoV p2 p3 p4 p5 p6 p8 mb F' FQ b→¬ Y b)∧Ext FP w0 A∧w15.heap.size≤A.heap.size,
  fun pre Y A=>∃(F':NP) (e:Int),cs=(0,e,L)∧zR A p L F'∧Box A p4 [.int .i64 0] 78∧Box A p5 [.int .i64 e] 33∧(∀b,F' b→FP b∨w0.heap.size≤b)∧(∀b,(b=p4.block∨b=p5.block∨F' b)→¬ Y b)∧Ext FP w0 A,⟨fun _ _ _ _=>trivial,?_,fun _ _ _ _ _ h=>h.elim,?_⟩,?_,?_,?_,?_⟩
 ·rintro pre Y A Y' A' ⟨F',M,g1,g2,g3,g4,g5,g6,g7,g8,g9,g10,g11⟩ hst
  have hv:∀b,CoV p2 p3 p4 p5 p6 p8 mb F' FQ b→¬ Y' b:=hst.disj (fun b hb=>⟨by
   rcases hb with hb | hb | hb | hb | hb | hb | hb | hb | hb
   ·exact g6.lt (.inl hb)
   ·exact g6.lt (.inr (.inl hb))
   ·exact g6.lt (.inr (.inr (.inl hb)))
   ·exact g6.lt (.inr (.inr (.inr (.inl hb))))
   ·exact g6.lt (.inr (.inr (.inr (.inr (.inl hb)))))
   ·exact g6.lt (.inr (.inr (.inr (.inr (.inr hb)))))
   ·exact hb▸g3.lt
   ·exact g2.lt hb
   ·exact g7.lt hb,g9 b hb⟩)
  exact ⟨F',M,g1,g2.ext hst.ext (fun b hb=>hv b (.inr (.inr (.inr (.inr (.inr (.inr (.inr (.inl hb))))))))),g3.ext hst.ext (hv _ (.inr (.inr (.inr (.inr (.inr (.inr (.inl rfl)))))))),g4,g5,g6.ext (F':=F') (FQ:=FQ) hst.ext (fun b hb=>hv b (by rcases hb with h | h | h | h | h | h <;> simp only [CoV,h,true_or,or_true])),g7.ext hst.ext (fun b hb=>hv b (.inr (.inr (.inr (.inr (.inr (.inr (.inr (.inr hb))))))))),g8,hv,g10.hst hst,Nat.le_trans g11 hst.ext.size⟩
 ·rintro pre Y A Y' A' ⟨F',e,g1,g2,g3,g4,g5,g6,g7⟩ hst
  have hv:∀b,(b=p4.block∨b=p5.block∨F' b)→¬ Y' b:=hst.disj (fun b hb=>⟨by
   rcases hb with hb | hb | hb
   ·exact hb▸g3.lt
   ·exact hb▸g4.lt
   ·exact g2.lt hb,g6 b hb⟩)
  exact ⟨F',e,g1,g2.ext hst.ext (fun b hb=>hv b (.inr (.inr hb))),g3.ext hst.ext (hv _ (.inl rfl)),g4.ext hst.ext (hv _ (.inr (.inl rfl))),g5,hv,g7.hst hst⟩
 ·exact ⟨FP,[],rfl,hP.pure E015,M15,rfl,fun _=>rfl,C15,hPQ.pure E015,fun b hb=>.inl hb,fun _ _ h=>h,Ext.pure E015,Nat.le_refl _⟩
 ·rintro pre z Y A ⟨F',M,g1,g2,g3,g4,g5,g6,g7,g8,g9,g10,g11⟩ hsA ⟨post,hpost⟩
  have hzin:Sp.inP Lq z=true:=hsub z (by rw [hpost];simp)
  have hzn:z ∉ pre:=by
   rw [hpost] at hnd;have:=(List.nodup_append.1 hnd).2.2;exact fun h=>this z h z (by simp) rfl
  generalize hcg:vM Lq pre L (fun _=>0)=cg at *
  have hok:Sp.Ok cg.1:=by rw [← hcg];exact (Sp.jRY pre L _ hW).ok
  have hA0:=hsA.lt
  refine ⟨some q,g6.b3.cell0,?_⟩
  refine (jGN q z A g7 hQ.ok).mono ?_
  rintro _ w16 ⟨k,f,t',u,x,a,b,r3,rfl,⟨hn,_⟩,E16⟩
  have z16:=E16.size
  refine ⟨_,_,_,_,_,_,_,_,rfl,E16.kept (fun b hb=>hb.elim),?_⟩
  intro p9 w17 n9
  have E17:Pure w16 w17:=Ext.new n9
  have B9:=Box.of_newA n9
  have b9:=n9.at_size
  have z17:=E17.size
  refine ⟨B9.canWs (by simp),id,?_⟩
  rintro w18 e18
  have X18:Ext (·=p9.block) w17 w18:=by rw [e18];exact Ext.storeRow _ _ _
  have B18:Box w18 p9 (uR ⟨k,f,t',u,x,a,b⟩) 127:=by rw [e18];exact B9.store rfl
  have z18:=X18.size
  have l9:=B18.lt
  have keep:∀{G:NP} {w':World},Ext G A w'→(∀b,b<A.heap.size→¬ G b)→IMap (fun i:Int=>.int .i64 i) w' mb M∧CoB w' p q p2 p3 p4 p5 p6 p8 mb L.length∧zR w' q Lq FQ∧zR w' p cg.1 F':=fun {G w'} E hG =>
   ⟨g3.ext E (hG _ g3.lt),g6.ext (F':=F') (FQ:=FQ) E (fun b hb=>hG b (g6.lt hb)),g7.ext E (fun b hb=>hG b (g7.lt hb)),g2.ext E (fun b hb=>hG b (g2.lt hb))⟩
  have E18:Ext (·=p9.block) A w18:=(Ext.pure (E16.trans E17)).trans X18
  have hg9:∀b,b<A.heap.size→¬ (b=p9.block):=fun b hb e=>by omega
  have look:∀{w':World},IMap (fun i:Int=>.int .i64 i) w' mb M→∀y,(Instr.lookup 207 (.map (some mb)) (.int .i64 y) false).run prog w'=.ok (.int .i64 (cg.2.2 y)) w':=fun {w'} h y=>by
   rw [g5 y];rcases h.get (P:=prog) (T:=207) underlying207 underlying78 (zeroValue78 _) y false with ⟨hn,hr⟩ | ⟨v,hv,hr⟩
   ·unfold ownM;rw [hn];exact hr
   ·unfold ownM;rw [hv];exact hr
  refine ⟨fun w'=>w'.cell? p8=some (.map (some mb))∧IMap (fun i:Int=>.int .i64 i) w' mb M,?_,?_⟩
  ·obtain ⟨k1,k2,_,_⟩:=keep (E18.thenPure (Ext.drew w18)) hg9
   exact ⟨k2.b8.cell0,k1⟩
  rintro w19 e19
  have E19:Ext (·=p9.block) A w19:=by rw [e19];exact E18.thenPure (Ext.drew w18)
  have B19:Box w19 p9 (uR ⟨k,f,t',u,x,a,b⟩) 127:=by rw [e19];exact B18.pure (Ext.drew w18)
  obtain ⟨k1,k2,k3,k4⟩:=keep E19 hg9
  refine ⟨some mb,k2.b8.cell0,a,B19.cell (i:=5) rfl,_,look k1 a,some mb,fun w' h=>h.1,b,B19.cell (i:=6) rfl,_,fun w' h=>look h.2 b,B19.canW (i:=5) (by simp [uR]),id,?_⟩
  rintro w20 e20
  have X20:Ext (·=p9.block) w19 w20:=by rw [e20];exact jNJ
  have B20:Box w20 p9 (uR ⟨k,f,t',u,x,cg.2.2 a,b⟩) 127:=by rw [e20];exact B19.set 5 _
  have E20:=E19.trans X20
  obtain ⟨k1',k2',_,_⟩:=keep E20 hg9
  refine ⟨⟨k2'.b8.cell0,k1'⟩,B20.canW (i:=6) (by simp [uR]),id,?_⟩
  rintro w21 e21
  have X21:Ext (·=p9.block) w20 w21:=by rw [e21];exact jNJ
  have B21:Box w21 p9 (uR ⟨k,f,t',u,x,cg.2.2 a,cg.2.2 b⟩) 127:=by rw [e21];exact B20.set 6 _
  have E21:=E20.trans X21
  obtain ⟨m1,m2,m3,m4⟩:=keep E21 hg9
  have z21:=E21.size
  refine ⟨some p,m2.b2.cell0,k,f,t',u,x,cg.2.2 a,cg.2.2 b,B21.row,?_⟩
  have hnn:({ Sp.nodeOf Lq z with a:=cg.2.2 (Sp.nodeOf Lq z).a,b:=cg.2.2 (Sp.nodeOf Lq z).b }:Sp.Node)=⟨k,f,t',u,x,cg.2.2 a,cg.2.2 b⟩:=by rw [← hn]
  refine (jNP p k f t' u x (cg.2.2 a) (cg.2.2 b) w21 m4 hok).mono ?_
  rintro _ w22 ⟨r4,r5,rfl,he,F2,hP2,E22,hF2⟩
  have he1:=congrArg Prod.fst he
  have he2:=congrArg Prod.snd he
  simp only at he1 he2
  have z22:=E22.size
  have hF'o:∀b,F' b→¬ (b=p2.block∨b=p3.block∨b=p4.block∨b=p5.block∨b=p6.block∨b=p8.block∨b=mb):=fun b hb hh=>(g8 b hb).elim (fun h=>by have:=hP.lt h;have:=(ob b hh).1;omega) (fun h=>h.2 hh)
  have n22:CoB w22 p q p2 p3 p4 p5 p6 p8 mb L.length:=m2.ext (F':=F') (FQ:=FQ) E22 (fun b hb hh=>hF'o b hh (by rcases hb with h | h | h | h | h | h <;> simp only [h,true_or,or_true]))
  have M22:=m1.ext E22 (fun hh=>hF'o _ hh (by simp))
  have Q22:=m3.ext E22 (fun b hb hh=>(g8 b hh).elim (fun h=>hd b h hb) (fun h=>by have:=hPq b hb;omega))
  have kY:Kept Y A w22:=(E21.kept (fun b hb e=>by have:=hA0 b hb;omega)).trans (E22.kept (fun b hb hh=>g9 b (.inr (.inr (.inr (.inr (.inr (.inr (.inr (.inl hh)))))))) hb))
  have E022:Ext FP w0 w22:=(g10.trans' E21 (fun i hi e=>by have:=g10.size;omega)).trans' E22 (fun i hi hh=>(g8 i hh).elim id (fun h=>by omega))
  have hF2o:∀b,F2 b→FP b∨(w0.heap.size≤b∧¬ (b=p2.block∨b=p3.block∨b=p4.block∨b=p5.block∨b=p6.block∨b=p8.block∨b=mb)):=fun b hb=>(hF2 b hb).elim (g8 b) (fun h=>.inr ⟨by have:=g10.size;omega,fun hh=>by have:=(ob b hh).2;omega⟩)
  have hF2Y:∀b,F2 b→¬ Y b:=fun b hb hY=>(hF2 b hb).elim (fun h=>g9 b (.inr (.inr (.inr (.inr (.inr (.inr (.inr (.inl h)))))))) hY) (fun h=>by have:=hA0 b hY;omega)
  refine ⟨r4,r5,rfl,E22.kept (fun b hb=>hb.elim),fun hc=>?_,fun hc=>?_⟩
  ·have h5:(Sp.make cg.1 ⟨k,f,t',u,x,cg.2.2 a,cg.2.2 b⟩).2.1≠0:=by rw [← he2];exact bne_iff_ne.1 hc
   have hfail:=@Sp.jLZ Lq pre post z L (fun _=>0) (by rw [hcg];exact g1) ⟨k,f,t',u,x,cg.2.2 a,cg.2.2 b⟩ (by rw [hcg];exact hnn) (by rw [hcg];exact h5)
   rw [← hpost,hcg,← he2] at hfail
   have hcs2:cs=(0,r5,L):=by rw [hcs',hfail,if_pos (by rw [he2];exact h5)]
   refine ⟨some p,n22.b2.cell0,_,n22.b6.cell0,?_⟩
   obtain ⟨Mg,hMg⟩:=Sp.jDI Lq pre L (fun _=>0)
   rw [hcg] at hMg
   have hmk:∃M2,(Sp.make cg.1 ⟨k,f,t',u,x,cg.2.2 a,cg.2.2 b⟩).2.2=cg.1++M2:=Sp.lD _ _
   obtain ⟨M2,hM2⟩:=hmk
   rw [hM2,hMg,List.append_assoc] at hP2
   have hok2:Sp.Ok (L++(Mg++M2)):=by rw [← List.append_assoc,← hMg,← hM2];exact Sp.jLP hok _
   refine (c_cut p L.length w22 hP2 hok2 (by rw [List.length_append];omega)).mono ?_
   rintro _ w23 ⟨rfl,hP3,E23⟩
   rw [List.take_left] at hP3
   have n23:CoB w23 p q p2 p3 p4 p5 p6 p8 mb L.length:=n22.ext (F':=F') (FQ:=FQ) E23 (fun b hb hh=>(hF2o b hh).elim (fun h=>by have:=hP.lt h;have:=(ob b (by rcases hb with h | h | h | h | h | h <;> simp only [h,true_or,or_true])).1;omega) (fun h=>h.2 (by rcases hb with h | h | h | h | h | h <;> simp only [h,true_or,or_true])))
   refine ⟨rfl,E23.kept (fun b hb=>hb.elim),n23.b4.canW0 (by simp),id,?_⟩
   rintro w24 e24
   have X24:Ext (·=p4.block) w23 w24:=by rw [e24];exact Ext.setCell _ _
   have B24:Box w24 p4 [.int .i64 0] 78:=by rw [e24];exact n23.b4.set0
   have B25:=n23.b5.ext X24 (fun e=>d45 e.symm)
   refine ⟨B25.canW0 (by simp),id,?_⟩
   rintro w25 e25
   have X25:Ext (·=p5.block) w24 w25:=by rw [e25];exact Ext.setCell _ _
   have B25':Box w25 p5 [.int .i64 r5] 33:=by rw [e25];exact B25.set0
   have nF:∀b,F2 b→b≠p4.block∧b≠p5.block:=fun b hb=>(hF2o b hb).elim (fun h=>by have:=hP.lt h;omega) (fun h=>⟨fun e=>h.2 (.inr (.inr (.inl e))),fun e=>h.2 (.inr (.inr (.inr (.inl e))))⟩)
   have nY4:¬ Y p4.block:=g9 _ (.inr (.inr (.inl rfl)))
   have nY5:¬ Y p5.block:=g9 _ (.inr (.inr (.inr (.inl rfl))))
   refine ⟨((kY.trans (E23.kept (fun b hb hh=>hF2Y b hh hb))).trans (X24.kept (fun b hb e=>nY4 (e▸hb)))).trans (X25.kept (fun b hb e=>nY5 (e▸hb))),F2,r5,hcs2,(hP3.ext X24 (fun b hb e=>(nF b hb).1 e)).ext X25 (fun b hb e=>(nF b hb).2 e),B24.ext X25 d45,B25',fun b hb=>(hF2o b hb).imp id (fun h=>h.1),?_,((E022.trans' E23 (fun i hi hh=>(hF2o i hh).elim id (fun h=>by omega))).trans' X24 (fun i hi e=>by omega)).trans' X25 (fun i hi e=>by omega)⟩
   rintro b (rfl | rfl | hb)
   ·exact nY4
   ·exact nY5
   ·exact hF2Y b hb
  ·have h5:(Sp.make cg.1 ⟨k,f,t',u,x,cg.2.2 a,cg.2.2 b⟩).2.1=0:=by rw [← he2];simpa using hc
   have hnext:=@Sp.jLY Lq pre z L (fun _=>0) (by rw [hcg];exact g1) ⟨k,f,t',u,x,cg.2.2 a,cg.2.2 b⟩ (by rw [hcg];exact hnn) (by rw [hcg];exact h5)
   rw [hcg,← he1] at hnext
   have hlk:SE.look M z=none:=yX.2 (by rw [g4];exact hzn)
   obtain ⟨w26,hr26,hM26,X26⟩:=M22.put (P:=prog) (T:=207) underlying207 underlying78 hlk r4
   have nm:∀b,F2 b→b≠mb:=fun b hb=>(hF2o b hb).elim (fun h=>by have:=hP.lt h;have:=(ob mb (by simp)).1;omega) (fun h e=>h.2 (by simp [e]))
   have nYm:¬ Y mb:=g9 _ (.inr (.inr (.inr (.inr (.inr (.inr (.inl rfl)))))))
   have hmbo:=(ob mb (by simp)).1
   refine ⟨some mb,n22.b8.cell0,w26,hr26,X26.kept (fun b hb=>hb.elim),kY.trans (X26.kept (fun b hb e=>nYm (e▸hb))),F2,M++[(z,r4)],by rw [hnext],by rw [hnext];exact hP2.ext X26 (fun b hb e=>nm b hb e),hM26,by simp [g4],?_,n22.ext (F':=F') (FQ:=FQ) X26 (fun b hb e=>dm b hb e),Q22.ext X26 (fun b hb e=>by have:=hPq b hb;omega),hF2o,?_,E022.trans' X26 (fun i hi e=>by omega),by have:=X26.size;omega⟩
   ·intro y
    rw [hnext]
    simp only
    unfold ownM
    rw [jJG (by rw [g4];exact hzn)]
    by_cases e:y=z
    ·rw [if_pos e,if_pos e.symm];rfl
    ·rw [if_neg e,if_neg (fun h=>e h.symm)];exact g5 y
   ·rintro b (hb | hb | hb | hb | hb | hb | hb | hb | hb)
    ·exact g9 b (.inl hb)
    ·exact g9 b (.inr (.inl hb))
    ·exact g9 b (.inr (.inr (.inl hb)))
    ·exact g9 b (.inr (.inr (.inr (.inl hb))))
    ·exact g9 b (.inr (.inr (.inr (.inr (.inl hb)))))
    ·exact g9 b (.inr (.inr (.inr (.inr (.inr (.inl hb))))))
    ·exact g9 b (.inr (.inr (.inr (.inr (.inr (.inr (.inl hb)))))))
    ·exact hF2Y b hb
    ·exact g9 b (.inr (.inr (.inr (.inr (.inr (.inr (.inr (.inr hb))))))))
 ·rintro H1 w27 hs27 _ _ ⟨F',M,g1,g2,g3,g4,g5,g6,g7,g8,g9,g10,g11⟩
  have hcs2:cs=((vM Lq xs L (fun _=>0)).2.2 t,0,(vM Lq xs L (fun _=>0)).1):=by rw [hcs',if_neg (by simpa using g1)]
  have hlk:(Instr.lookup 207 (.map (some mb)) (.int .i64 t) false).run prog w27=.ok (.int .i64 ((vM Lq xs L (fun _=>0)).2.2 t)) w27:=by
   rw [g5 t];rcases g3.get (P:=prog) (T:=207) underlying207 underlying78 (zeroValue78 _) t false with ⟨hn,hr⟩ | ⟨v,hv,hr⟩
   ·unfold ownM;rw [hn];exact hr
   ·unfold ownM;rw [hv];exact hr
  generalize hcg:vM Lq xs L (fun _=>0)=cg at *
  have nY4:¬ H1 p4.block:=g9 _ (.inr (.inr (.inl rfl)))
  have nY5:¬ H1 p5.block:=g9 _ (.inr (.inr (.inr (.inl rfl))))
  refine ⟨some mb,g6.b8.cell0,_,hlk,g6.b4.canW0 (by simp),nY4,?_⟩
  rintro w28 e28
  have X28:Ext (·=p4.block) w27 w28:=by rw [e28];exact Ext.setCell _ _
  have B28:Box w28 p4 [.int .i64 (cg.2.2 t)] 78:=by rw [e28];exact g6.b4.set0
  have B28':=g6.b5.ext X28 (fun e=>d45 e.symm)
  refine ⟨B28'.canW0 (by simp),nY5,?_⟩
  rintro w29 e29
  have X29:Ext (·=p5.block) w28 w29:=by rw [e29];exact Ext.setCell _ _
  have B29:Box w29 p5 [.int .i64 0] 33:=by rw [e29];exact B28'.set0
  have B29':=B28.ext X29 d45
  intro w30 hs30
  have nF:∀b,F' b→b≠p4.block∧b≠p5.block:=fun b hb=>(g8 b hb).elim (fun h=>by have:=hP.lt h;omega) (fun h=>⟨fun e=>h.2 (.inr (.inr (.inl e))),fun e=>h.2 (.inr (.inr (.inr (.inl e))))⟩)
  refine ⟨_,(B29'.ext hs30.ext nY4).cell0,_,(B29.ext hs30.ext nY5).cell0,?_⟩
  rw [hcs2]
  refine ⟨rfl,rfl,F',((g2.ext X28 (fun b hb e=>(nF b hb).1 e)).ext X29 (fun b hb e=>(nF b hb).2 e)).ext hs30.ext (fun b hb=>g9 b (.inr (.inr (.inr (.inr (.inr (.inr (.inr (.inl hb))))))))),((g10.trans' X28 (fun i hi e=>by omega)).trans' X29 (fun i hi e=>by omega)).hst hs30,fun b hb=>(g8 b hb).imp id (fun h=>h.1)⟩
 ·rintro pre H2 w32 hs32 ⟨F',e,g1,g2,g3,g4,g5,g6,g7⟩
  refine ⟨_,g3.cell0,_,g4.cell0,?_⟩
  rw [g1]
  exact ⟨rfl,rfl,F',g2,g7,g5⟩
end Go.Proofs
end
section
open Go Go.SE
namespace Go.Proofs
open Tryz
attribute [local irreducible] Calls CallsD
theorem jUO {S0:NP} (p:Addr) (sb:Sl) (bs:List UInt8) (w0:World) {L:Sp.Pool} {FP:NP} (hW:Sp.Wf L) (hP:zR w0 p L FP) (hs:Lst S0 w0 1 sb (byr bs)) (hz:sb.a=none→sb=Sl.nil) :
  Calls prog 46 #[.pointer (some p),sb.v] w0 (fun e w'=>∃t x y:Int,e=.returned (.tuple #[.int .i64 t,.int .i64 x,.int .i64 y])∧(t=(lK L bs).1∧x=(lK L bs).2.1∧y=((lK L bs).2.2.1:Int)∧∃F',zR w' p (lK L bs).2.2.2 F'∧Ext FP w0 w'∧∀b,F' b→FP b∨w0.heap.size≤b)):=by
 refine w_F3 _ _ w0 (fun t x y w'=>t=(lK L bs).1∧x=(lK L bs).2.1∧y=((lK L bs).2.2.1:Int)∧∃F',zR w' p (lK L bs).2.2.2 F'∧Ext FP w0 w'∧∀b,F' b→FP b∨w0.heap.size≤b) ?_
 unfold m_F3
 refine ⟨fun hc=>(by cases hc),fun _=>?_⟩
 refine (c_read sb bs w0 hs hz).mono ?_
 rintro _ w1 ⟨x,y,z,rfl,hy,hz',hout,E1⟩
 refine ⟨_,_,_,rfl,?_⟩
 cases hq:(vQ bs).1 with
 | none =>
  have hd:lK L bs=(0,(vQ bs).2.1,(vQ bs).2.2,L):=by unfold lK;rw [hq]
  have he:y≠0:=by rw [hy];exact Sp.lO hq
  refine ⟨fun _=>?_,fun hc=>absurd (by simpa using hc) he⟩
  rw [hd]
  exact ⟨rfl,hy,hz',FP,hP.pure E1,Ext.pure E1,fun b hb=>.inl hb⟩
 | some q =>
  obtain ⟨a,F,rfl,hPq,hF⟩:=hout.pool hq
  obtain ⟨g1,_,g3,_⟩:=Sp.jAF hq
  have h0:=Sp.jQL hq
  have hd:lK L bs=((qX L q q.length).1,(qX L q q.length).2.1,0,(qX L q q.length).2.2):=by unfold lK;rw [hq]
  rw [h0] at hy
  refine ⟨fun hc=>absurd hy (by simpa using hc),fun _=>?_⟩
  refine (jCT a w1 hPq).mono ?_
  rintro _ w2 ⟨_,rfl,rfl,rfl⟩
  refine ⟨_,rfl,?_⟩
  refine (c_Copy p a q.length w2 hW g1 (hP.pure E1) hPq (fun b hb hh=>by have:=hP.lt hb;have:=hF b hh;omega)).mono ?_
  rintro _ w3 ⟨r1,r2,rfl,h1,h2,F',hP',E3,hF'⟩
  refine ⟨_,_,rfl,?_⟩
  rw [hd]
  exact ⟨h1,h2,rfl,F',hP',(Ext.pure E1).trans E3,fun b hb=>(hF' b hb).imp id (fun h=>by have:=E1.size;omega)⟩
end Go.Proofs
end
section
namespace Go.Sp
theorem jGO {L M:Pool} {r u t:Int} (hu:inP L u=true):uB (L++M) r u t↔uB L r u t:=by
 unfold uB;rw [jCQ hu]
theorem jFP.app {L M:Pool} {G:List Int} {pre:List Way} {v:Way} (h:jFP L G pre v) (hp:∀t∈zO pre,inP L t=true):jFP (L++M) G pre v:=by
 rcases h with h | ⟨a,b,c⟩
 ·exact .inl h
 ·exact .inr ⟨a,(jGO (hp _ c)).2 b,c⟩
theorem jNV {S:List Way} {i:Nat} {t:Int} (h:t∈zO (S.take i)):t∈zO S:=by
 unfold zO at h ⊢;obtain ⟨v,hv,e⟩:=List.mem_map.1 h;exact List.mem_map.2 ⟨v,List.mem_of_mem_take hv,e⟩
theorem KnowOk.app {L M:Pool} {G:List Int} {S:List Way} (h:KnowOk L G S):KnowOk (L++M) G S :=
 ⟨⟨h.nodup,fun t ht=>jAX (h.inp t ht),fun i hi=>(h.way i hi).app (fun t ht=>h.inp t (jNV ht))⟩,fun u hu r t ha=>h.closed u hu r t ((jGO (h.inp u hu)).1 ha),h.giv,h.gnd⟩
theorem jNG {L:Pool} {G:List Int} {t:Int} (h:inP L t=true):jCS L G t=jGP G t:=by unfold jCS;rw [if_pos h]
end Go.Sp
end
section
open Go Go.SE
namespace Go.Sp
open Go.Proofs
theorem jRX (L Lq:Pool) (t:Int):∃M,(qX L Lq t).2.2=L++M:=by
 unfold qX;split
 ·simp only;split
  ·exact ⟨[],(List.append_nil L).symm⟩
  ·exact jDI _ _ L _
 ·exact ⟨[],(List.append_nil L).symm⟩
theorem jNL (L:Pool) (bs:List UInt8):∃M,(lK L bs).2.2.2=L++M:=by
 unfold lK;split
 ·exact ⟨[],(List.append_nil L).symm⟩
 ·exact jRX _ _ _
def xQ (L:Pool) (G:List Int) (bs:List UInt8):Pool×List Int×Bool :=
 if (lK L bs).2.1≠0 then ((lK L bs).2.2.2,G,false) else ((lK L bs).2.2.2,jCS (lK L bs).2.2.2 G (lK L bs).1,true)
def uM (who:Int):Bool:=(who == 0) || (who == 1)
def vT (L:Pool) (G:List Int) (a b:Bool) (who:Int):Int×Pool×List Int×Bool×Bool :=
 if uM who=false then (2,L,G,a,b) else
 if (make L (vL who)).2.1≠0 then ((make L (vL who)).2.1,(make L (vL who)).2.2,G,a,b) else
 (0,(make L (vL who)).2.2,jCS (make L (vL who)).2.2 G (make L (vL who)).1,a || (who == 0),b || (who == 1))
end Go.Sp
namespace Go.SE
theorem jMI (s:ByteArray) (c i:Nat) (h:i<s.data.toList.length):(bytesRow s c)[i]?=some (.int .u8 ((s.data.toList[i]).toNat:Int)):=by
 unfold bytesRow;have h':i<s.data.size:=by simpa using h
 rw [Array.getElem?_append_left (by rw [Array.size_map];exact h'),Array.getElem?_map,Array.getElem?_eq_getElem h',Option.map_some,Array.getElem_toList]
theorem jUP (b i:Nat):(⟨b,0,none⟩:Addr).add i=⟨b,i,none⟩:=by
 unfold Addr.add;split
 ·rename_i h;subst h;rfl
 ·simp
theorem jQI {P:Program} {src dst e:TypeId} (hs:P.underlying src=some .string) (hd:P.underlying dst=some (.slice e)) (he:P.underlying e=some (.int .u8)) (w:World) (x:ByteArray) :
  ∃(s:Sl) (w':World),(convert src dst (.string x)).run P w=.ok s.v w'∧Pure w w'∧Lst (·=w.heap.size) w' 1 s (byr x.data.toList)∧(s.a=none→s=Sl.nil):=by
 refine ⟨⟨some ⟨w.heap.size,0,none⟩,x.size,grownCap w x.size 0 e⟩,_,run_bytes_of_string w src dst e x hs hd he,?_,?_,fun h=>by cases h⟩
 ·exact ⟨rfl,rfl,rfl,Nat.le_succ _,by rw [World.size_alloc];exact Nat.le_succ _,fun b hb _=>(RowKit.Below.heap_alloc _ _ _ hb)⟩
 ·have hnew:(w.drew.alloc (.cells (bytesRow x (grownCap w x.size 0 e)) e ((bytesRow x (grownCap w x.size 0 e)).size,(bytesRow x (grownCap w x.size 0 e)).size+1))).heap[w.heap.size]?=some (.cells (bytesRow x (grownCap w x.size 0 e)) e ((bytesRow x (grownCap w x.size 0 e)).size,(bytesRow x (grownCap w x.size 0 e)).size+1)):=World.alloc_heap_new w.drew _
  refine ⟨by rw [qO];rfl,fun i hi=>?_⟩
  have hi':i<x.data.toList.length:=by simpa [byr] using hi
  have hsz:x.size=x.data.toList.length:=by rw [Array.length_toList];rfl
  refine ⟨(⟨w.heap.size,0,none⟩:Addr).add (i*1),⟨by omega,by show (i:Int)<(x.size:Int);omega,_,rfl,by simp⟩,by rw [zV],?_⟩
  intro j hj
  have:j=0:=by simp [byr] at hj;exact hj
  subst this
  simp only [byr,List.getElem_map,Nat.mul_one,Nat.add_zero,yZ]
  rw [jUP]
  unfold World.cell?
  simp only [hnew]
  simpa using jMI x _ i hi'
end Go.SE
namespace Go.Proofs
open Tryz
attribute [local irreducible] Calls
structure FoeAt (w:World) (f:Addr) (L:Sp.Pool) (G:List Int) (a b:Bool) (k p:Addr) (S:List Sp.Way) (FK FP:NP):Prop where
 box:Box w f [.pointer (some k),.pointer (some p),.bool a,.bool b] 98
 know:qA w k p G S FK
 pool:zR w p L FP
 wf:Sp.Wf L
 ok:Sp.KnowOk L G S
 d:∀x,FK x→¬ FP x
 dk:¬ FK f.block
 dp:¬ FP f.block
def jAM (w:World) (f:Addr) (L:Sp.Pool) (G:List Int) (a b:Bool) (F:NP):Prop:=∃k p S FK FP,FoeAt w f L G a b k p S FK FP∧∀x,F x↔x=f.block∨FK x∨FP x
section
variable {w w':World} {f k p:Addr} {L:Sp.Pool} {G:List Int} {a b:Bool} {S:List Sp.Way} {FK FP F:NP}
theorem FoeAt.ext {X:NP} (h:FoeAt w f L G a b k p S FK FP) (E:Ext X w w') (hd:∀x,x=f.block∨FK x∨FP x→¬ X x):FoeAt w' f L G a b k p S FK FP :=
 ⟨h.box.ext E (hd _ (.inl rfl)),h.know.ext E (fun b hb=>hd _ (.inr (.inl hb))),h.pool.ext E (fun b hb=>hd _ (.inr (.inr hb))),h.wf,h.ok,h.d,h.dk,h.dp⟩
theorem jAM.ext {X:NP} (h:jAM w f L G a b F) (E:Ext X w w') (hd:∀x,F x→¬ X x):jAM w' f L G a b F:=by
 obtain ⟨k,p,S,FK,FP,h,hF⟩:=h;exact ⟨k,p,S,FK,FP,h.ext E (fun x hx=>hd x ((hF x).2 hx)),hF⟩
theorem jAM.pure (h:jAM w f L G a b F) (E:Pure w w'):jAM w' f L G a b F:=h.ext E (fun _ _ h=>h)
theorem jAM.lt (h:jAM w f L G a b F) {x:Nat} (hx:F x):x<w.heap.size:=by
 obtain ⟨k,p,S,FK,FP,h,hF⟩:=h;rcases (hF x).1 hx with rfl | hx | hx
 ·exact h.box.lt
 ·exact h.know.lt hx
 ·exact h.pool.lt hx
theorem jAM.wf (h:jAM w f L G a b F):Sp.Wf L:=by obtain ⟨k,p,S,FK,FP,h,hF⟩:=h;exact h.wf
theorem jAM.given (h:jAM w f L G a b F):G.Nodup∧∀t∈G,Sp.inP L t=true:=by
 obtain ⟨k,p,S,FK,FP,h,hF⟩:=h;exact ⟨h.ok.gnd,fun t ht=>h.ok.inp t (h.ok.giv t ht)⟩
theorem FoeAt.grown {M:Sp.Pool} {FP':NP} (h:FoeAt w f L G a b k p S FK FP) (hP:zR w' p (L++M) FP') (hW:Sp.Wf (L++M)) (E:Ext FP w w') (hF:∀x,FP' x→FP x∨w.heap.size≤x):FoeAt w' f (L++M) G a b k p S FK FP' :=
 ⟨h.box.ext E h.dp,h.know.ext E (fun x hx=>h.d x hx),hP,hW,h.ok.app,fun x hx hx'=>(hF x hx').elim (h.d x hx) (fun h'=>by have:=h.know.lt hx;omega),h.dk,fun hx=>(hF _ hx).elim h.dp (fun h'=>by have:=h.box.lt;omega)⟩
theorem FoeAt.knows {G':List Int} {S':List Sp.Way} {FK':NP} (h:FoeAt w f L G a b k p S FK FP) (hK:qA w' k p G' S' FK') (ho:Sp.KnowOk L G' S') (E:Ext FK w w') (hF:∀x,FK' x→FK x∨w.heap.size≤x):FoeAt w' f L G' a b k p S' FK' FP :=
 ⟨h.box.ext E h.dk,hK,h.pool.ext E (fun x hx hx'=>h.d x hx' hx),h.wf,ho,fun x hx=>(hF x hx).elim (h.d x) (fun h' hx'=>by have:=h.pool.lt hx';omega),fun hx=>(hF _ hx).elim h.dk (fun h'=>by have:=h.box.lt;omega),h.dp⟩
end
theorem jKH (w0:World):Calls prog 10 #[] w0 (fun e w'=>∃r:Option Addr,e=.returned (.pointer r)∧∃f F,r=some f∧jAM w' f [] [] false false F∧Pure w0 w'∧∀x,F x→w0.heap.size≤x):=by
 refine w_J2 w0 (fun r w'=>∃f F,r=some f∧jAM w' f [] [] false false F∧Pure w0 w'∧∀x,F x→w0.heap.size≤x) ?_;unfold m_J2;refine (c_New w0).mono ?_;rintro _ w1 ⟨_,rfl,p,rfl,E1,FP,hP,hF⟩;refine ⟨_,rfl,?_⟩;refine (jSI p w1).mono ?_;rintro _ w2 ⟨_,rfl,k,FK,rfl,hK,E2,hFK⟩;refine ⟨_,rfl,fun p1 w3 h3=>?_⟩;have E3:Pure w2 w3:=Ext.new h3;have z1:=E1.size;have z2:=E2.size;have hp:=h3.at_size;refine ⟨p1,fun x=>x=p1.block∨FK x∨FP x,rfl,⟨k,p,[],FK,FP,⟨Box.of_newA h3,hK.pure E3,(hP.pure E2).pure E3,Sp.Wf.nil,⟨⟨by simp [Sp.zO],by simp [Sp.zO],fun i hi=>by simp at hi⟩,by simp [Sp.zO],by simp,by simp⟩,fun x hx hx'=>?_,fun hx=>?_,fun hx=>?_⟩,fun x=>Iff.rfl⟩,(E1.trans E2).trans E3,?_⟩
 ·have:=hFK x hx;have:=hP.lt hx';omega
 ·have:=hK.lt hx;omega
 ·have:=hP.lt hx;omega
 ·rintro x (rfl | hx | hx)
  ·omega
  ·have:=hFK x hx;omega
  ·exact hF x hx
theorem jPE (f:Addr) (body:ByteArray) (w0:World) {L:Sp.Pool} {G:List Int} {a b:Bool} {F:NP} (h:jAM w0 f L G a b F) :
  Calls prog 11 #[.pointer (some f),.string body] w0 (fun e w'=>∃r:Bool,e=.returned (.bool r)∧(r=(Sp.xQ L G body.data.toList).2.2∧∃F',jAM w' f (Sp.xQ L G body.data.toList).1 (Sp.xQ L G body.data.toList).2.1 a b F'∧Ext F w0 w'∧∀x,F' x→F x∨w0.heap.size≤x)):=by
 refine w_W1 _ _ w0 (fun r w'=>r=(Sp.xQ L G body.data.toList).2.2∧∃F',jAM w' f (Sp.xQ L G body.data.toList).1 (Sp.xQ L G body.data.toList).2.1 a b F'∧Ext F w0 w'∧∀x,F' x→F x∨w0.heap.size≤x) ?_
 unfold m_W1
 obtain ⟨k,p,S,FK,FP,h,hF⟩:=h
 refine Br.f rfl ⟨f,rfl,some p,h.box.cell rfl,?_⟩
 obtain ⟨s,w1,hr,E1,hs,hz⟩:=jQI (P:=prog) (src:=9) (dst:=65) underlying9 underlying65 underlying5 w0 body
 refine ⟨s,w1,hr,?_⟩
 have h1:=h.ext E1 (fun _ _ h=>h)
 refine (jUO p s body.data.toList w1 h1.wf h1.pool hs hz).mono ?_
 rintro _ w2 ⟨t,x,y,rfl,rfl,rfl,rfl,FP',hP,E2,hF'⟩
 obtain ⟨M,hM⟩:=Sp.jNL L body.data.toList
 have hW:=Sp.jRU h.wf body.data.toList
 rw [hM] at hP hW
 have h2:=h1.grown hP hW E2 hF'
 have X02:Ext F w0 w2:=(Ext.pure E1).trans (E2.mono (fun x _ hx=>(hF x).2 (.inr (.inr hx))))
 have z1:=E1.size;have z2:=E2.size
 refine ⟨_,_,_,rfl,fun hc=>?_,fun hc=>?_⟩
 ·have hc:=bne_iff_ne.1 hc
  unfold Sp.xQ
  rw [if_pos hc,hM]
  refine ⟨rfl,_,⟨k,p,S,FK,FP',h2,fun _=>Iff.rfl⟩,X02,?_⟩
  rintro x (rfl | hx | hx)
  ·exact .inl ((hF _).2 (.inl rfl))
  ·exact .inl ((hF x).2 (.inr (.inl hx)))
  ·exact (hF' x hx).imp (fun h=>(hF x).2 (.inr (.inr h))) (fun h=>by omega)
 ·have hc:(lK L body.data.toList).2.1=0:=by simpa using hc
  refine ⟨f,rfl,some k,h2.box.cell0,?_⟩
  refine (jKJ k p (lK L body.data.toList).1 w2 h2.know h2.pool h2.wf h2.d h2.ok).mono ?_
  rintro _ w3 ⟨r4,rfl,_,S',FK',hK,ho,E3,hFK⟩
  refine ⟨_,rfl,?_⟩
  have h3:=h2.knows hK ho E3 hFK
  unfold Sp.xQ
  rw [if_neg (by simpa using hc),hM]
  refine ⟨rfl,_,⟨k,p,S',FK',FP',h3,fun _=>Iff.rfl⟩,X02.trans (E3.mono (fun x _ hx=>(hF x).2 (.inr (.inl hx)))),?_⟩
  rintro x (rfl | hx | hx)
  ·exact .inl ((hF _).2 (.inl rfl))
  ·exact (hFK x hx).imp (fun h=>(hF x).2 (.inr (.inl h))) (fun h=>by omega)
  ·exact (hF' x hx).imp (fun h=>(hF x).2 (.inr (.inr h))) (fun h=>by omega)
theorem jHX (f:Addr) (who:Int) (w0:World) {L:Sp.Pool} {G:List Int} {a b:Bool} {F:NP} (h:jAM w0 f L G a b F) :
  Calls prog 13 #[.pointer (some f),.int .i64 who] w0 (fun e w'=>∃r:Int,e=.returned (.int .i64 r)∧(r=(Sp.vT L G a b who).1∧∃F',jAM w' f (Sp.vT L G a b who).2.1 (Sp.vT L G a b who).2.2.1 (Sp.vT L G a b who).2.2.2.1 (Sp.vT L G a b who).2.2.2.2 F'∧Ext F w0 w'∧∀x,F' x→F x∨w0.heap.size≤x)):=by
 refine w_X1 _ _ w0 (fun r w'=>r=(Sp.vT L G a b who).1∧∃F',jAM w' f (Sp.vT L G a b who).2.1 (Sp.vT L G a b who).2.2.1 (Sp.vT L G a b who).2.2.2.1 (Sp.vT L G a b who).2.2.2.2 F'∧Ext F w0 w'∧∀x,F' x→F x∨w0.heap.size≤x) ?_
 unfold m_X1
 refine Br.f rfl ⟨fun hc=>?_,fun hc=>?_⟩
 ·intro w1 hs
  have e:Sp.vT L G a b who=(2,L,G,a,b):=by
   unfold Sp.vT Sp.uM;rw [if_pos (by simpa using hc)]
  rw [e]
  exact ⟨rfl,F,h.pure hs.first,Ext.pure hs.first,fun x hx=>.inl hx⟩
 have hp:Sp.uM who=true:=by unfold Sp.uM;simpa only [Bool.not_eq_eq_eq_not,Bool.not_false] using hc
 have hw:who=0∨who=1:=by unfold Sp.uM at hp;simpa using hp
 refine ⟨f,rfl,fun w1 hs=>?_⟩
 have E1:=hs.first
 obtain ⟨k,p,S,FK,FP,h,hF⟩:=h
 have h1:=h.ext E1 (fun _ _ h=>h)
 refine ⟨some p,h1.box.cell rfl,?_⟩
 refine (c_Key p w1 h1.pool h1.wf.ok who).mono ?_
 rintro _ w2 ⟨r1,r2,rfl,he,FP',hP,E2,hF'⟩
 have hk:(⟨6,who,0,0,⟨#[]⟩,0,0⟩:Sp.Node)=Sp.vL who:=rfl
 rw [hk] at he hP
 obtain ⟨e1,e2⟩:=Prod.mk.inj he
 obtain ⟨M,hM⟩:=Sp.lD L (Sp.vL who)
 have hW:=Sp.lJ h.wf (Sp.vL who)
 rw [hM] at hP hW
 have h2:=h1.grown hP hW E2 hF'
 have X02:Ext F w0 w2:=(Ext.pure E1).trans (E2.mono (fun x _ hx=>(hF x).2 (.inr (.inr hx))))
 have z1:=E1.size;have z2:=E2.size
 refine ⟨_,_,rfl,E2.kept (fun _ h=>h.elim),fun hc=>?_,fun hc=>?_⟩
 ·have hc:=bne_iff_ne.1 hc
  unfold Sp.vT
  rw [if_neg (by simp [hp]),if_pos (by rw [← e2];exact hc),hM]
  refine ⟨e2,_,⟨k,p,S,FK,FP',h2,fun _=>Iff.rfl⟩,X02,?_⟩
  rintro x (rfl | hx | hx)
  ·exact .inl ((hF _).2 (.inl rfl))
  ·exact .inl ((hF x).2 (.inr (.inl hx)))
  ·exact (hF' x hx).imp (fun h=>(hF x).2 (.inr (.inr h))) (fun h=>by omega)
 ·have hc0:r2=0:=by simpa using hc
  refine ⟨f,rfl,some k,h2.box.cell0,?_⟩
  refine (jKJ k p r1 w2 h2.know h2.pool h2.wf h2.d h2.ok).mono ?_
  rintro _ w3 ⟨r4,rfl,_,S',FK',hK,ho,E3,hFK⟩
  refine ⟨_,rfl,E3.kept (fun _ h=>h.elim),?_⟩
  have h3:=h2.knows hK ho E3 hFK
  have hat:∃i:Nat,who=(i:Int)∧i<2:=⟨who.toNat,by omega,by omega⟩
  obtain ⟨i,rfl,hi⟩:=hat
  refine ⟨f,rfl,(f.add 2).add i,⟨by omega,by omega,by simp⟩,?_⟩
  rw [yZ]
  refine ⟨h3.box.canW (by simp;omega),id,?_⟩
  rintro _ rfl
  have hb:=h3.box.set (2+i) (.bool true)
  have X4:Ext (·=f.block) w3 (w3.setCell (f.add (2+i)) (.bool true)):=by
   have:=Ext.setCell (w:=w3) (f.add (2+i)) (.bool true);rw [zV] at this;exact this.mono (fun x _ hx=>hx.symm▸rfl)
  unfold Sp.vT
  rw [if_neg (by simp [hp]),if_neg (by rw [← e2];simpa using hc0),hM,← e1]
  have hK4:qA (w3.setCell (f.add (2+i)) (.bool true)) k p (Sp.jCS (L++M) G r1) S' FK':=hK.ext X4 (fun x hx e=>h3.dk (e▸hx))
  have hP4:=h3.pool.ext X4 (fun x hx e=>h3.dp (e▸hx))
  have hb4:Box (w3.setCell (f.add (2+i)) (.bool true)) f [.pointer (some k),.pointer (some p),.bool (a || ((i:Int) == 0)),.bool (b || ((i:Int) == 1))] 98:=by
   rcases (show i=0∨i=1 by omega) with rfl | rfl
   ·simpa using hb
   ·simpa using hb
  refine ⟨rfl,fun x=>x=f.block∨FK' x∨FP' x,⟨k,p,S',FK',FP',⟨hb4,hK4,hP4,h3.wf,h3.ok,h3.d,h3.dk,h3.dp⟩,fun _=>Iff.rfl⟩,(X02.trans (E3.mono (fun x _ hx=>(hF x).2 (.inr (.inl hx))))).trans (X4.mono (fun x _ hx=>(hF x).2 (.inl hx))),?_⟩
  rintro x (rfl | hx | hx)
  ·exact .inl ((hF _).2 (.inl rfl))
  ·exact (hFK x hx).imp (fun h=>(hF x).2 (.inr (.inl h))) (fun h=>by omega)
  ·exact (hF' x hx).imp (fun h=>(hF x).2 (.inr (.inr h))) (fun h=>by omega)
end Go.Proofs
end
section
open Go Go.SE
namespace Go.Sp
structure Letter where
 kind:Int
 frm:Int
 c:Int
 text:ByteArray
 fake:Bool
deriving DecidableEq
def jHI:Letter:=⟨0,0,0,⟨#[]⟩,false⟩
def jFT:ByteArray:=⟨#[97,98,111,114,116]⟩
def tE:ByteArray:=⟨#[114,101,115,111,108,118,101]⟩
def jAC:ByteArray:=⟨#[97,98,111,114,116,101,100]⟩
def jAB:ByteArray:=⟨#[105,110,115,116,101,97,100]⟩
def jPT:ByteArray:=⟨#[102,117,108,108]⟩
def vA (l:Letter) (first second:Bool):Tree :=
 if l.kind=1 then qZ l.frm (qF l.c l.text) l.fake
 else if l.kind=2 then yH l.frm (qF l.c l.text)
 else if l.kind=3 then yH 0 (qJ (qG jFT) (jAT l.c))
 else if l.kind=4 then yH l.frm (qJ (qG tE) (qJ (qZ 0 (qF l.c l.text) (l.fake && first)) (qZ 1 (qF l.c l.text) (l.fake && second))))
 else if l.kind=5 then yH 2 (qJ (qG jAC) (jAT l.c))
 else if l.kind=6 then yH 2 (qJ (qG jAB) (qF l.c l.text))
 else qJ (qG jPT) (jAT l.c)
end Go.Sp
namespace Go.Proofs
open Tryz
attribute [local irreducible] Calls
theorem jJX (n0:Nat) (k f c:Int) (x:ByteArray) (fake first second:Bool) (w:World) (h0:n0≤w.heap.size) (hf:f=0∨f=1) :
  Calls prog 29 #[.agg #[.int .i64 k,.int .i64 f,.int .u64 c,.string x,.bool fake],.bool first,.bool second] w (RetT n0 w (Sp.vA ⟨k,f,c,x,fake⟩ first second)):=by
 generalize hR:Sp.vA ⟨k,f,c,x,fake⟩ first second=R
 suffices key:∀K:Int→Int→Int→Int→ByteArray→Sl→WP,(∀s w',TreeAt (n0≤·) w' s R∧Pure w w'→K R.node.kind R.node.frm R.node.to R.node.num R.node.text s w')→m_I2 k f c x fake first second w K by
  refine (w_I2 k f c x fake first second w (fun k f t u y s w'=>(k=R.node.kind∧f=R.node.frm∧t=R.node.to∧u=R.node.num∧y=R.node.text)∧TreeAt (n0≤·) w' s R∧Pure w w') (key _ (fun s w' h=>⟨⟨rfl,rfl,rfl,rfl,rfl⟩,h⟩))).mono ?_;rintro _ w' ⟨k,f,t,u,y,s,rfl,⟨rfl,rfl,rfl,rfl,rfl⟩,hT,E⟩;exact ⟨s,rfl,hT,E⟩
 intro K hK
 unfold m_I2
 intro p1 w1 h1 p2 w2 h2
 have E1:Pure w w1:=Ext.new h1
 have E2:Pure w w2:=E1.trans (Ext.new h2)
 have o2:=New.own E1 h2
 have a1:=(Box.of_new h1).pure (Ext.new h2:Pure w1 w2)
 have a2:=Box.of_new h2
 have l1:=a1.lt
 have l2:=a2.lt
 have s2:=E2.size
 clear h1 h2
 refine ⟨_,a1.cell rfl,_,a1.cell rfl,?_⟩
 refine (jJY w2.heap.size c x w2 (Nat.le_refl _)).mono ?_
 rintro _ w3 ⟨sd,rfl,hD,E3⟩
 refine ⟨_,_,_,_,_,sd,rfl,?_⟩
 intro p3 w4 h4
 have o3:=New.own (Ext.refl w3) h4
 refine bx 6 (Box.of_new h4) rfl rfl (fun w5 b3 E'=>?_)
 have E5:Pure w3 w5:=Ext.own (Ext.new h4) o3 E'
 have hD5:=hD.pure E5
 have E25:Pure w2 w5:=E3.trans E5
 have s5:=E25.size
 have b1:=a1.pure E25
 have b3:Box w5 p3 (xN (Sp.qF c x) sd) 76:=b3
 clear E' h4 E5 hD E3
 have fin : ∀ (T : Sp.Tree) (s : Sl) (w' : World), Pure w5 w' → TreeAt (w2.heap.size ≤ ·) w' s T → T = R →
   (∀j,j<6→CanW w' (p2.add j))∧∀w'':World,w''=storeRow w' p2 (xN T s) →
   ∃qKind1:Int,∃qFrom1:Int,∃qTo1:Int,∃qNum1:Int,∃qText1:ByteArray,∃qKids1:Sl,Row w'' p2 [(.int .i64 qKind1),(.int .i64 qFrom1),(.int .i64 qTo1),(.int .u64 qNum1),(.string qText1),qKids1.v]∧K qKind1 qFrom1 qTo1 qNum1 qText1 qKids1 w'':=by
  rintro T s w' E hT rfl
  refine bx 6 (a2.pure (E25.trans E)) rfl rfl (fun w'' b E'=>⟨_,_,_,_,_,s,b.row,hK s w'' ⟨?_,(E2.trans (E25.trans E)).own o2 E'⟩⟩)
  exact (hT.ext E' (fun b hb e=>by have:w2.heap.size≤b:=hb;omega)).mono (fun b hb=>by show n0≤b;have:w2.heap.size≤b:=hb;omega)
 have drawn:∃C:WP,C w5.drew∧(∀w' w'',Pure w' w''→C w'→C w'')∧(∀w',C w'→Box w' p1 [.int .i64 k,.int .i64 f,.int .u64 c,.string x,.bool fake] 30∧Box w' p3 (xN (Sp.qF c x) sd) 76) :=
  ⟨fun w'=>Box w' p1 [.int .i64 k,.int .i64 f,.int .u64 c,.string x,.bool fake] 30∧Box w' p3 (xN (Sp.qF c x) sd) 76,⟨b1.pure (Ext.drew w5),b3.pure (Ext.drew w5)⟩,fun _ _ E h=>⟨h.1.pure E,h.2.pure E⟩,fun _ h=>h⟩
 obtain ⟨C,hC,hCp,hCb⟩:=drawn
 refine ⟨k,b1.cell0,fun hk=>?_,fun hk1=>⟨fun hk=>?_,fun hk2=>⟨fun hk=>?_,fun hk3=>⟨fun hk=>?_,fun hk4=>⟨fun hk=>?_,fun hk5=>⟨fun hk=>?_,fun hk6=>?_⟩⟩⟩⟩⟩⟩
 ·have hk:k=1:=by simpa using hk
  refine ⟨f,b1.cell rfl,_,_,_,_,_,sd,b3.row,fake,b1.cell rfl,?_⟩
  refine (yF w2.heap.size f hf (Sp.qF c x) fake sd w5 s5 hD5).mono ?_
  rintro _ w6 ⟨s,rfl,hT,E6⟩
  exact ⟨_,_,_,_,_,s,rfl,fin _ s w6 E6 hT (by rw [← hR];simp only [Sp.vA];rw [if_pos hk])⟩
 ·have hk:k=2:=by simpa using hk
  refine ⟨f,b1.cell rfl,_,_,_,_,_,sd,b3.row,?_⟩
  refine (uP w2.heap.size f (Sp.qF c x) sd w5 s5 hD5).mono ?_
  rintro _ w6 ⟨s,rfl,hT,E6⟩
  exact ⟨_,_,_,_,_,s,rfl,fin _ s w6 E6 hT (by rw [← hR];simp only [Sp.vA];rw [if_neg (by omega),if_pos hk])⟩
 ·have hk:k=3:=by simpa using hk
  refine ⟨C,hC,?_⟩
  intro w10 hw10
  have E10:Pure w5 w10:=by rw [hw10];exact Ext.drew w5
  have hC10:C w10:=by rw [hw10];exact hC
  clear hw10
  have s10:=E10.size
  refine ⟨c,fun w' h=>(hCb w' h).1.cell rfl,?_⟩
  refine (yG w2.heap.size _ w10 (by omega)).mono ?_
  rintro _ w11 ⟨sa,rfl,hA,E11⟩
  have s11:=E11.size
  refine ⟨_,_,_,_,_,sa,rfl,hCp _ _ E11 hC10,?_⟩
  refine (uH w2.heap.size c w11 (by omega)).mono ?_
  rintro _ w12 ⟨sb,rfl,hB,E12⟩
  have s12:=E12.size
  refine ⟨_,_,_,_,_,sb,rfl,?_⟩
  refine (qP w2.heap.size (Sp.qG Sp.jFT) (Sp.jAT c) sa sb w12 (by omega) (hA.pure E12) hB).mono ?_
  rintro _ w13 ⟨se,rfl,hE,E13⟩
  have s13:=E13.size
  refine ⟨_,_,_,_,_,se,rfl,?_⟩
  refine (uP w2.heap.size 0 (Sp.qJ (Sp.qG Sp.jFT) (Sp.jAT c)) se w13 (by omega) hE).mono ?_
  rintro _ w14 ⟨s,rfl,hT,E14⟩
  exact ⟨_,_,_,_,_,s,rfl,fin _ s w14 ((((E10.trans E11).trans E12).trans E13).trans E14) hT (by rw [← hR];simp only [Sp.vA];rw [if_neg (by omega),if_neg (by omega),if_pos hk])⟩
 ·have hk:k=4:=by simpa using hk
  refine ⟨C,hC,?_⟩
  intro w10 hw10
  have E10:Pure w5 w10:=by rw [hw10];exact Ext.drew w5
  have hC10:C w10:=by rw [hw10];exact hC
  clear hw10
  have s10:=E10.size
  refine ⟨f,fun w' h=>(hCb w' h).1.cell rfl,_,_,_,_,_,sd,fun w' h=>(hCb w' h).2.row,fake,fun w' h=>(hCb w' h).1.cell rfl,_,_,_,_,_,sd,fun w' h=>(hCb w' h).2.row,fake,fun w' h=>(hCb w' h).1.cell rfl,?_⟩
  refine (yG w2.heap.size _ w10 (by omega)).mono ?_
  rintro _ w11 ⟨sa,rfl,hA,E11⟩
  have s11:=E11.size
  have hD11:=hD5.pure (E10.trans E11)
  have hC11:=hCp _ _ E11 hC10
  refine ⟨_,_,_,_,_,sa,rfl,hC11,?_⟩
  have rest : ∀ (u v : Bool) (sx sy : Sl) (w' : World), u = (fake && first) → v = (fake && second) → Pure w11 w' → TreeAt (w2.heap.size ≤ ·) w' sx (Sp.qZ 0 (Sp.qF c x) u) → TreeAt (w2.heap.size ≤ ·) w' sy (Sp.qZ 1 (Sp.qF c x) v) →
    Calls prog 89 #[.agg (xN (Sp.qZ 0 (Sp.qF c x) u) sx).toArray,.agg (xN (Sp.qZ 1 (Sp.qF c x) v) sy).toArray] w' (fun e wa=>∃k1 f1 t1 u1 y1,∃s1:Sl,e=.returned (.agg #[.int .i64 k1,.int .i64 f1,.int .i64 t1,.int .u64 u1,.string y1,s1.v])∧C wa ∧
     Calls prog 89 #[.agg (xN (Sp.qG Sp.tE) sa).toArray,.agg #[.int .i64 k1,.int .i64 f1,.int .i64 t1,.int .u64 u1,.string y1,s1.v]] wa (fun e wb=>∃k1 f1 t1 u1 y1,∃s1:Sl,e=.returned (.agg #[.int .i64 k1,.int .i64 f1,.int .i64 t1,.int .u64 u1,.string y1,s1.v])∧C wb ∧
      Calls prog 88 #[.int .i64 f,.agg #[.int .i64 k1,.int .i64 f1,.int .i64 t1,.int .u64 u1,.string y1,s1.v]] wb (fun e wc=>∃k1 f1 t1 u1 y1,∃s1:Sl,e=.returned (.agg #[.int .i64 k1,.int .i64 f1,.int .i64 t1,.int .u64 u1,.string y1,s1.v]) ∧
       (∀j,j<6→CanW wc (p2.add j))∧∀w'':World,w''=storeRow wc p2 [.int .i64 k1,.int .i64 f1,.int .i64 t1,.int .u64 u1,.string y1,s1.v] →
   ∃qKind1:Int,∃qFrom1:Int,∃qTo1:Int,∃qNum1:Int,∃qText1:ByteArray,∃qKids1:Sl,Row w'' p2 [(.int .i64 qKind1),(.int .i64 qFrom1),(.int .i64 qTo1),(.int .u64 qNum1),(.string qText1),qKids1.v]∧K qKind1 qFrom1 qTo1 qNum1 qText1 qKids1 w''))):=by
   intro u v sx sy w' hu hv E hX hY
   have s':=E.size
   refine (qP w2.heap.size (Sp.qZ 0 (Sp.qF c x) u) (Sp.qZ 1 (Sp.qF c x) v) sx sy w' (by omega) hX hY).mono ?_
   rintro _ wa ⟨s1,rfl,h1,Ea⟩
   have sa':=Ea.size
   refine ⟨_,_,_,_,_,s1,rfl,hCp _ _ (E.trans Ea) hC11,?_⟩
   refine (qP w2.heap.size (Sp.qG Sp.tE) (Sp.qJ (Sp.qZ 0 (Sp.qF c x) u) (Sp.qZ 1 (Sp.qF c x) v)) sa s1 wa (by omega) (hA.pure (E.trans Ea)) h1).mono ?_
   rintro _ wb ⟨s2,rfl,h2,Eb⟩
   have sb':=Eb.size
   refine ⟨_,_,_,_,_,s2,rfl,hCp _ _ ((E.trans Ea).trans Eb) hC11,?_⟩
   refine (uP w2.heap.size f (Sp.qJ (Sp.qG Sp.tE) (Sp.qJ (Sp.qZ 0 (Sp.qF c x) u) (Sp.qZ 1 (Sp.qF c x) v))) s2 wb (by omega) h2).mono ?_
   rintro _ wc ⟨s3,rfl,h3,Ec⟩
   exact ⟨_,_,_,_,_,s3,rfl,fin _ s3 wc (((((E10.trans E11).trans E).trans Ea).trans Eb).trans Ec) h3 (by rw [← hR,hu,hv];simp only [Sp.vA];rw [if_neg (by omega),if_neg (by omega),if_neg (by omega),if_pos hk])⟩
  refine ⟨fun hfk=>?_,fun hfk=>?_⟩
  ·refine (yF w2.heap.size 0 (.inl rfl) (Sp.qF c x) first sd w11 (by omega) hD11).mono ?_
   rintro _ w12 ⟨sx,rfl,hX,E12⟩
   have s12:=E12.size
   refine ⟨_,_,_,_,_,sx,rfl,hCp _ _ E12 hC11,Br.t hfk ?_⟩
   refine (yF w2.heap.size 1 (.inr rfl) (Sp.qF c x) second sd w12 (by omega) (hD11.pure E12)).mono ?_
   rintro _ w13 ⟨sy,rfl,hY,E13⟩
   exact ⟨_,_,_,_,_,sy,rfl,hCp _ _ (E12.trans E13) hC11,rest first second sx sy w13 (by rw [hfk];rfl) (by rw [hfk];rfl) (E12.trans E13) (hX.pure E13) hY⟩
  ·refine (yF w2.heap.size 0 (.inl rfl) (Sp.qF c x) false sd w11 (by omega) hD11).mono ?_
   rintro _ w12 ⟨sx,rfl,hX,E12⟩
   have s12:=E12.size
   refine ⟨_,_,_,_,_,sx,rfl,hCp _ _ E12 hC11,Br.f hfk ?_⟩
   refine (yF w2.heap.size 1 (.inr rfl) (Sp.qF c x) false sd w12 (by omega) (hD11.pure E12)).mono ?_
   rintro _ w13 ⟨sy,rfl,hY,E13⟩
   exact ⟨_,_,_,_,_,sy,rfl,hCp _ _ (E12.trans E13) hC11,rest false false sx sy w13 (by rw [hfk];rfl) (by rw [hfk];rfl) (E12.trans E13) (hX.pure E13) hY⟩
 ·have hk:k=5:=by simpa using hk
  refine ⟨C,hC,?_⟩
  intro w10 hw10
  have E10:Pure w5 w10:=by rw [hw10];exact Ext.drew w5
  have hC10:C w10:=by rw [hw10];exact hC
  clear hw10
  have s10:=E10.size
  refine ⟨c,fun w' h=>(hCb w' h).1.cell rfl,?_⟩
  refine (yG w2.heap.size _ w10 (by omega)).mono ?_
  rintro _ w11 ⟨sa,rfl,hA,E11⟩
  have s11:=E11.size
  refine ⟨_,_,_,_,_,sa,rfl,hCp _ _ E11 hC10,?_⟩
  refine (uH w2.heap.size c w11 (by omega)).mono ?_
  rintro _ w12 ⟨sb,rfl,hB,E12⟩
  have s12:=E12.size
  refine ⟨_,_,_,_,_,sb,rfl,?_⟩
  refine (qP w2.heap.size (Sp.qG Sp.jAC) (Sp.jAT c) sa sb w12 (by omega) (hA.pure E12) hB).mono ?_
  rintro _ w13 ⟨se,rfl,hE,E13⟩
  have s13:=E13.size
  refine ⟨_,_,_,_,_,se,rfl,?_⟩
  refine (uP w2.heap.size 2 (Sp.qJ (Sp.qG Sp.jAC) (Sp.jAT c)) se w13 (by omega) hE).mono ?_
  rintro _ w14 ⟨s,rfl,hT,E14⟩
  exact ⟨_,_,_,_,_,s,rfl,fin _ s w14 ((((E10.trans E11).trans E12).trans E13).trans E14) hT (by rw [← hR];simp only [Sp.vA];rw [if_neg (by omega),if_neg (by omega),if_neg (by omega),if_neg (by omega),if_pos hk])⟩
 ·have hk:k=6:=by simpa using hk
  refine ⟨C,hC,?_⟩
  intro w10 hw10
  have E10:Pure w5 w10:=by rw [hw10];exact Ext.drew w5
  have hC10:C w10:=by rw [hw10];exact hC
  clear hw10
  have s10:=E10.size
  refine ⟨_,_,_,_,_,sd,fun w' h=>(hCb w' h).2.row,?_⟩
  refine (yG w2.heap.size _ w10 (by omega)).mono ?_
  rintro _ w11 ⟨sa,rfl,hA,E11⟩
  have s11:=E11.size
  refine ⟨_,_,_,_,_,sa,rfl,hCp _ _ E11 hC10,?_⟩
  refine (qP w2.heap.size (Sp.qG Sp.jAB) (Sp.qF c x) sa sd w11 (by omega) hA (hD5.pure (E10.trans E11))).mono ?_
  rintro _ w13 ⟨se,rfl,hE,E13⟩
  have s13:=E13.size
  refine ⟨_,_,_,_,_,se,rfl,?_⟩
  refine (uP w2.heap.size 2 (Sp.qJ (Sp.qG Sp.jAB) (Sp.qF c x)) se w13 (by omega) hE).mono ?_
  rintro _ w14 ⟨s,rfl,hT,E14⟩
  exact ⟨_,_,_,_,_,s,rfl,fin _ s w14 (((E10.trans E11).trans E13).trans E14) hT (by rw [← hR];simp only [Sp.vA];rw [if_neg (by omega),if_neg (by omega),if_neg (by omega),if_neg (by omega),if_neg (by omega),if_pos hk])⟩
 ·have hk1:k≠1:=by simpa using hk1
  have hk2:k≠2:=by simpa using hk2
  have hk3:k≠3:=by simpa using hk3
  have hk4:k≠4:=by simpa using hk4
  have hk5:k≠5:=by simpa using hk5
  have hk6:k≠6:=by simpa using hk6
  refine ⟨C,hC,?_⟩
  intro w10 hw10
  have E10:Pure w5 w10:=by rw [hw10];exact Ext.drew w5
  have hC10:C w10:=by rw [hw10];exact hC
  clear hw10
  have s10:=E10.size
  refine ⟨c,fun w' h=>(hCb w' h).1.cell rfl,?_⟩
  refine (yG w2.heap.size _ w10 (by omega)).mono ?_
  rintro _ w11 ⟨sa,rfl,hA,E11⟩
  have s11:=E11.size
  refine ⟨_,_,_,_,_,sa,rfl,hCp _ _ E11 hC10,?_⟩
  refine (uH w2.heap.size c w11 (by omega)).mono ?_
  rintro _ w12 ⟨sb,rfl,hB,E12⟩
  have s12:=E12.size
  refine ⟨_,_,_,_,_,sb,rfl,?_⟩
  refine (qP w2.heap.size (Sp.qG Sp.jPT) (Sp.jAT c) sa sb w12 (by omega) (hA.pure E12) hB).mono ?_
  rintro _ w13 ⟨s,rfl,hT,E13⟩
  exact ⟨_,_,_,_,_,s,rfl,fin _ s w13 (((E10.trans E11).trans E12).trans E13) hT (by rw [← hR];simp only [Sp.vA];rw [if_neg hk1,if_neg hk2,if_neg hk3,if_neg hk4,if_neg hk5,if_neg hk6])⟩
end Go.Proofs
end
section
namespace Go.Sp
def qI (k:Int):Bool:=(k == 1 || k == 2) || k == 4
def qR (k:Int):Bool:=qI k || k == 6
def vW (l:Letter):Int :=
 if l.kind<1∨l.kind>7∨(l.frm≠0∧l.frm≠1)∨(qI l.kind=false∧l.frm≠0)∨(qR l.kind=false∧l.text≠⟨#[]⟩)∨(l.fake=true∧l.kind≠1∧l.kind≠4) then 110 else if l.text.size>64 then 1 else 0
end Go.Sp
end
section
open Go Go.SE
open Go.IntKind renaming i64 → q6
namespace Go.Proofs
open Tryz
set_option maxRecDepth 100000
set_option maxHeartbeats 4000000
attribute [local irreducible] wpL wpX opE wpE Calls
def m_S4  (w0:World) (K:(Array Value)→WP):Prop :=∀(p1:Addr) (w1:World),New w0 (.cells #[(vb false),(vb false),(vb false),ve,(vb false),(vb false),(vb false),ve,(vb false),(vb false),(vb false),ve,(vb false),(vb false),(vb false),ve,(vb false),(vb false),(vb false),ve,(vb false),(vb false),(vb false),ve,(vb false),(vb false),(vb false),ve,(vb false),(vb false),(vb false),ve] 311) p1 w1→(∀j,j<32→CanW w1 (p1.add j))∧∀w2:World,w2=storeRow w1 p1 [(vb false),(vb false),(vb false),ve,(vb true),(vb true),(vb true),(vs (⟨#[112,114,111,109,105,115,101]⟩:ByteArray)),(vb true),(vb true),(vb false),(vs (⟨#[115,105,103,110]⟩:ByteArray)),(vb false),(vb false),(vb false),(vs (⟨#[97,98,111,114,116]⟩:ByteArray)),(vb true),(vb true),(vb true),(vs (⟨#[114,101,115,111,108,118,101]⟩:ByteArray)),(vb false),(vb false),(vb false),(vs (⟨#[116,111,107,101,110]⟩:ByteArray)),(vb false),(vb true),(vb false),(vs (⟨#[105,110,115,116,101,97,100]⟩:ByteArray)),(vb false),(vb false),(vb false),(vs (⟨#[102,117,108,108]⟩:ByteArray))]→∃cT:Array Value,(cT.size=32∧Row w2 p1 cT.toList)∧K cT w2
theorem w_S4  (w0:World) (K:(Array Value)→WP) (h:m_S4  w0 K) :
  Calls prog 240 #[] w0 (fun e w'=>∃r1:Array Value,e=.returned (.agg r1)∧K r1 w'):=by
 refine cw (args:=[]) func240 ntmps240 (eg (sn (O:=(.cells #[(vb false),(vb false),(vb false),ve,(vb false),(vb false),(vb false),ve,(vb false),(vb false),(vb false),ve,(vb false),(vb false),(vb false),ve,(vb false),(vb false),(vb false),ve,(vb false),(vb false),(vb false),ve,(vb false),(vb false),(vb false),ve,(vb false),(vb false),(vb false),ve] 311)) (zQ (zeroValue311 _) rfl) ?_))
 intro p1 w1 hn2
 have h:=h p1 w1 hn2
 refine ln (eg (qd (qd ?_)))
 refine sro (sizeOf311 _) h fun w2 h=>?_
 refine ln (er ?_)
 obtain ⟨cT,hv1,h⟩:=h
 refine gg1 results240 (RV.cellAr (A:=p1) (vs:=cT) (by kernel_rfl) (isAgg311 _) (sizeOf311 _) hv1) ⟨cT,rfl,h⟩
def m_O_j3 (aC:ByteArray) (aD:Bool) (a1:Addr) (x2:Bool) (w0:World) (H:NP) (w:World) (K:Int→WP):Prop :=Br x2 (K 110 w) (∃v1:Bool,w.cell? (a1.add 2)=some (vb v1)∧Br ((!v1) && aD) (∀(H6:NP) (w6:World),Hst w0 H w H6 w6→K 110 w6) (Br (decide ((aC.size:Int)>64)) (∀(H6:NP) (w6:World),Hst w0 H w H6 w6→K 1 w6) (∀(H6:NP) (w6:World),Hst w0 H w H6 w6→K 0 w6)))
def m_O_j2 (aC:ByteArray) (aD:Bool) (a1:Addr) (x1:Bool) (w0:World) (H:NP) (w:World) (K:Int→WP):Prop :=Br x1 (K 110 w) (∃v2:Bool,w.cell? (a1.add 1)=some (vb v2)∧∀(H7:NP) (w7:World),Hst w0 H w H7 w7→m_O_j3 aC aD a1 ((!v2) && (!(decide (aC=⟨#[]⟩)))) w0 H7 w7 K)
def m_O_j1 (aB:Int) (aC:ByteArray) (aD:Bool) (a1:Addr) (w0:World) (H:NP) (w:World) (K:Int→WP):Prop :=Br ((aB != 0) && (aB != 1)) (∀(H4:NP) (w4:World),Hst w0 H w H4 w4→K 110 w4) (∀(H4:NP) (w4:World),Hst w0 H w H4 w4→∃v3:Bool,w4.cell? a1=some (vb v3)∧∀(H8:NP) (w8:World),Hst w0 H4 w4 H8 w8→m_O_j2 aC aD a1 ((!v3) && (aB != 0)) w0 H8 w8 K)
def m_O (aA aB aE:Int) (aC:ByteArray) (aD:Bool) (w0:World) (K:Int→WP):Prop :=Br ((decide (aA<1)) || (decide (aA>7))) (∀(H2:NP) (w2:World),Hst w0 None w0 H2 w2→K 110 w2) (∀(H2:NP) (w2:World),Hst w0 None w0 H2 w2→∃C1:WP,C1 w2.drew∧∀w9,w9=w2.drew→(Calls prog 240 #[] w9 (fun e w10=>∃r1:Array Value,e=.returned (.agg r1)∧C1 w10∧Kept H2 w9 w10∧∃efrom1 etext1 efake1:Bool,∃eword1:ByteArray,(∀w',C1 w'→(Instr.index 311 (.agg r1) (vi aA)).run prog w'=.ok (.agg #[(vb efrom1),(vb etext1),(vb efake1),(vs eword1)]) w')∧∀(p2:Addr) (w11:World),New w10 (.cells #[(vb false),(vb false),(vb false),ve] 310) p2 w11→C1 w11∧(∀j,j<4→CanW w11 (p2.add j))∧¬ H2 p2.block∧∀w12:World,w12=storeRow w11 p2 [(vb efrom1),(vb etext1),(vb efake1),(vs eword1)]→m_O_j1 aB aC aD p2 w0 H2 w12 K))∧(∀(p3:Addr) (w13:World),New w9 (.cells #[(vb false),(vb false),(vb false),ve] 310) p3 w13→C1 w13∧Calls prog 240 #[] w13 (fun e w14=>∃r2:Array Value,e=.returned (.agg r2)∧C1 w14∧Kept H2 w13 w14∧∃efrom2 etext2 efake2:Bool,∃eword2:ByteArray,(∀w',C1 w'→(Instr.index 311 (.agg r2) (vi aA)).run prog w'=.ok (.agg #[(vb efrom2),(vb etext2),(vb efake2),(vs eword2)]) w')∧(∀j,j<4→CanW w14 (p3.add j))∧¬ H2 p3.block∧∀w15:World,w15=storeRow w14 p3 [(vb efrom2),(vb etext2),(vb efake2),(vs eword2)]→m_O_j1 aB aC aD p3 w0 H2 w15 K)))
theorem w_O (aA aB aE:Int) (aC:ByteArray) (aD:Bool) (w0:World) (K:Int→WP) (h:m_O aA aB aE aC aD w0 K) :
  Calls prog 168 #[(.agg #[(vi aA),(vi aB),(vu aE),(vs aC),(vb aD)])] w0 (fun e w'=>∃r3:Int,e=.returned (vi r3)∧K r3 w'):=by
 refine cw (args:=[(.agg #[(vi aA),(vi aB),(vu aE),(vs aC),(vb aD)])]) func168 ntmps168 ?_
 obtain ⟨hs,hb⟩:=st0 w0
 refine eg (nw3 [(vi aA),(vi aB),(vu aE),(vs aC),(vb aD)] 30 hs hb xb fun p1 w1 H1 hs hb=>?_)
 refine q (ln (zA (zA ?_)))
 refine vK (fun ρ wJ=>∃b1'0:Bool,∃HJ:NP,((decide (aA<1))=b1'0)∧Hst w0 None w0 HJ wJ∧HB HJ wJ [(p1,[(vi aA),(vi aB),(vu aE),(vs aC),(vb aD)],30)]∧Has ρ [(1,(vp (some p1))),(11,(vb (b1'0 || (decide (aA>7)))))]) ?_ ?_
 refine rg (q (q3 (xl (isAgg3 _) (hb.d0 0 gZ)) (qb ?_)))
 rcases bte (decide (aA<1)) with hg2 | hg2
 refine sj 7 hg2 (sj 7 hg2 (sj 7 hg2 (q2 (vb true) (xT hg2) (ln ?_))))
 exact ⟨true,_,hg2,hs,hb,hm⟩
 refine qk 7 hg2 (q4 7 hg2 (xl (isAgg3 _) (hb.d0 0 gZ)) (qk 7 hg2 (q2 (vb (decide (aA>7))) (xF hg2) (ln ?_))))
 exact ⟨false,_,hg2,hs,hb,hm⟩
 rintro ρ w2 ⟨b1'0,H2,he0,hs,hb,hH⟩
 subst he0
 refine vD hH ?_
 refine zK ?_
 refine cbr h ?_ ?_<;>intro h
 refine eg (q (ln (er (vF ?_))))
 have ⟨h,hs⟩:=hs.hr (h H2 w2)
 refine rs1 results168 ⟨110,rfl,h⟩
 refine zC (zK (zA ?_))
 refine vE (fun ρ w=>∃a1:Addr,∃H:NP,Has ρ [(1,(vp (some p1))),(3,(vp (some a1)))]∧Hst w0 H w H w∧HB H w [(p1,[(vi aA),(vi aB),(vu aE),(vs aC),(vb aD)],30)]∧m_O_j1 aB aC aD a1 w0 H w K) ?_ ?_
 rintro ρ w ⟨a1,H,hH,hs,hb,h⟩
 refine zW hH ?_
 refine zA (zJ (zA (zA ?_)))
 refine vK (fun ρ wJ=>∃HJ:NP,Hst w0 H w HJ wJ∧HB HJ wJ [(p1,[(vi aA),(vi aB),(vu aE),(vs aC),(vb aD)],30)]∧Has ρ [(1,(vp (some p1))),(3,(vp (some a1))),(16,(vb ((aB != 0) && (aB != 1))))]) ?_ ?_
 refine rg (q (q3 (xl (isAgg3 _) (hb.d 0 1 gZ)) (qb ?_)))
 refine zI 4 (fun ρ wJ=>∃b4'0:Bool,∃HJ:NP,((aB != 0)=b4'0)∧Hst w0 H w HJ wJ∧HB HJ wJ [(p1,[(vi aA),(vi aB),(vu aE),(vs aC),(vb aD)],30)]∧Has ρ [(1,(vp (some p1))),(3,(vp (some a1))),(24,(vb (b4'0 && (aB != 1))))]) ?_ ?_
 rintro ρ w5 ⟨b4'0,H5,he0,hs,hb,hH⟩
 subst he0
 refine zM hH ?_
 refine q (ln ?_)
 exact ⟨_,hs,hb,hm⟩
 rcases bte (aB != 0) with hg6 | hg6
 refine qk 20 hg6 (q4 20 hg6 (xl (isAgg3 _) (hb.d 0 1 gZ)) (qk 20 hg6 (q2 (vb (aB != 1)) (xT hg6) (zB ?_))))
 exact ⟨true,_,hg6,hs,hb,hm⟩
 refine sj 20 hg6 (sj 20 hg6 (sj 20 hg6 (q2 (vb false) (xF hg6) (zB ?_))))
 exact ⟨false,_,hg6,hs,hb,hm⟩
 rintro ρ w4 ⟨H4,hs,hb,hH⟩
 refine vD hH ?_
 refine zK ?_
 refine cbr' h (fun hc2 h=>?_) (fun hc2 h=>?_)
 refine zC (zK (jAA (t:=((aB != 0) && (aB != 1))) (by kernel_rfl) hc2 (eg (q0 (vi 110) (ln (er (uC (vF ?_))))))))
 have ⟨h,hs⟩:=hs.hr (h H4 w4)
 refine rs1 results168 ⟨110,rfl,h⟩
 refine zA ?_
 refine vE (fun ρ w=>∃x1:Bool,∃H:NP,Has ρ [(1,(vp (some p1))),(3,(vp (some a1))),(16,(vb x1))]∧Hst w0 H w H w∧HB H w [(p1,[(vi aA),(vi aB),(vu aE),(vs aC),(vb aD)],30)]∧m_O_j2 aC aD a1 x1 w0 H w K) ?_ ?_
 rintro ρ w ⟨x1,H,hH,hs,hb,h⟩
 refine zW hH ?_
 refine cbr' h (fun hc3 h=>?_) (fun hc3 h=>?_)
 refine zC (zK (jAA (t:=x1) (by kernel_rfl) hc3 (eg (q0 (vi 110) (ln (er (uC (vF (rs1 results168 ⟨110,rfl,h⟩)))))))))
 refine zA ?_
 refine vE (fun ρ w=>∃x2:Bool,∃H:NP,Has ρ [(1,(vp (some p1))),(3,(vp (some a1))),(16,(vb x2))]∧Hst w0 H w H w∧HB H w [(p1,[(vi aA),(vi aB),(vu aE),(vs aC),(vb aD)],30)]∧m_O_j3 aC aD a1 x2 w0 H w K) ?_ ?_
 rintro ρ w ⟨x2,H,hH,hs,hb,h⟩
 refine zW hH ?_
 refine cbr' h (fun hc4 h=>?_) (fun hc4 h=>?_)
 refine zC (zK (jAA (t:=x2) (by kernel_rfl) hc4 (eg (q0 (vi 110) (ln (er (uC (vF (rs1 results168 ⟨110,rfl,h⟩)))))))))
 refine rg (q ?_)
 refine ql (isAgg4 _) h fun v1 h=>qb ?_
 refine zI 3 (fun ρ wJ=>∃b5'0:Bool,∃HJ:NP,((!v1)=b5'0)∧Hst w0 H w HJ wJ∧HB HJ wJ [(p1,[(vi aA),(vi aB),(vu aE),(vs aC),(vb aD)],30)]∧Has ρ [(1,(vp (some p1))),(47,(vb (b5'0 && aD)))]) ?_ ?_
 rintro ρ w6 ⟨b5'0,H6,he0,hs,hb,hH⟩
 subst he0
 refine zM hH ?_
 refine q (ln ?_)
 refine cbr h ?_ ?_<;>intro h
 refine eg (q (ln (er (uC (vF ?_)))))
 have ⟨h,hs⟩:=hs.hr (h H6 w6)
 refine rs1 results168 ⟨110,rfl,h⟩
 refine eg (q (q3 (xl (isAgg9 _) (hb.d 0 3 gZ)) (qc (ln ?_))))
 refine cbr h ?_ ?_<;>intro h
 refine eg (q (ln (er (uC (vF ?_)))))
 have ⟨h,hs⟩:=hs.hr (h H6 w6)
 refine rs1 results168 ⟨1,rfl,h⟩
 refine zC (xW (zK (eg (q (ln (er ?_))))))
 have ⟨h,hs⟩:=hs.hr (h H6 w6)
 refine rs1 results168 ⟨0,rfl,h⟩
 rcases bte (!v1) with hg8 | hg8
 refine qk 44 hg8 (q4 44 hg8 (xl (isAgg4 _) (hb.d 0 4 gZ)) (q2 (vb aD) (xT hg8) (zB ?_)))
 exact ⟨true,_,hg8,hs,hb,hm⟩
 refine sj 44 hg8 (sj 44 hg8 (q2 (vb false) (xF hg8) (zB ?_)))
 exact ⟨false,_,hg8,hs,hb,hm⟩
 refine rg (q ?_)
 refine ql (isAgg4 _) h fun v2 h=>qb ?_
 refine zI 4 (fun ρ wJ=>∃b6'0:Bool,∃HJ:NP,((!v2)=b6'0)∧Hst w0 H w HJ wJ∧HB HJ wJ [(p1,[(vi aA),(vi aB),(vu aE),(vs aC),(vb aD)],30)]∧Has ρ [(1,(vp (some p1))),(3,(vp (some a1))),(40,(vb (b6'0 && (!(decide (aC=⟨#[]⟩))))))]) ?_ ?_
 rintro ρ w7 ⟨b6'0,H7,he0,hs,hb,hH⟩
 subst he0
 refine zM hH ?_
 refine q (zB ?_)
 have ⟨h,hs⟩:=hs.hr (h H7 w7)
 refine zK ?_
 exact ⟨((!v2) && (!(decide (aC=⟨#[]⟩)))),H7,hm,hs,hb,h⟩
 rcases bte (!v2) with hg10 | hg10
 refine qk 36 hg10 (q4 36 hg10 (xl (isAgg9 _) (hb.d 0 3 gZ)) (stq (v:=(vb (!(decide (aC=⟨#[]⟩))))) (wy 36 hg10) (jDQ (by kernel_rfl) (by kernel_rfl)) (q2 (vb (!(decide (aC=⟨#[]⟩)))) (xT hg10) (zB ?_))))
 exact ⟨true,_,hg10,hs,hb,hm⟩
 refine sj 36 hg10 (sj 36 hg10 (sj 36 hg10 (q2 (vb false) (xF hg10) (zB ?_))))
 exact ⟨false,_,hg10,hs,hb,hm⟩
 refine rg (q ?_)
 have ⟨h,hs⟩:=hs.hr (h H4 w4)
 refine ql (isAgg4 _) h fun v3 h=>qb ?_
 refine zI 4 (fun ρ wJ=>∃b7'0:Bool,∃HJ:NP,((!v3)=b7'0)∧Hst w0 H4 w4 HJ wJ∧HB HJ wJ [(p1,[(vi aA),(vi aB),(vu aE),(vs aC),(vb aD)],30)]∧Has ρ [(1,(vp (some p1))),(3,(vp (some a1))),(32,(vb (b7'0 && (aB != 0))))]) ?_ ?_
 rintro ρ w8 ⟨b7'0,H8,he0,hs,hb,hH⟩
 subst he0
 refine zM hH ?_
 refine q (zB ?_)
 have ⟨h,hs⟩:=hs.hr (h H8 w8)
 refine zK ?_
 exact ⟨((!v3) && (aB != 0)),H8,hm,hs,hb,h⟩
 rcases bte (!v3) with hg12 | hg12
 refine qk 28 hg12 (q4 28 hg12 (xl (isAgg3 _) (hb.d 0 1 gZ)) (qk 28 hg12 (q2 (vb (aB != 0)) (xT hg12) (zB ?_))))
 exact ⟨true,_,hg12,hs,hb,hm⟩
 refine sj 28 hg12 (sj 28 hg12 (sj 28 hg12 (q2 (vb false) (xF hg12) (zB ?_))))
 exact ⟨false,_,hg12,hs,hb,hm⟩
 have ⟨h,hs⟩:=hs.hr (h H2 w2)
 obtain ⟨C1,hC,h⟩:=h
 refine dr2 (fun x=>C1 x∧HB H2 x _) [0,4,5] [5] ⟨hC,hb.drew⟩ h hs hb fun w9 hs hb h=>?_
 have hs:=hs.here
 refine qx 1 (vp (some p1)) Kp1 (qz 2 (vi aA) Kp2 (fun w' hw'=>(xl (isAgg3 _) (hw'.2.cell0 0 gZ (by kernel_rfl)))) ?_)
 refine lgo2 (k:=0) (k':=4) (by kernel_rfl) ?_ ?_
 have h:=h.1
 refine slc Kp0 call240 (h.mono ?_)
 rintro e w10 ⟨r1,rfl,hC,hk,h⟩
 refine ⟨_,rfl,.inr ⟨hC,hb.kept hk⟩,?_⟩
 obtain ⟨hs,hb⟩:=hk.hh hs hb
 refine qg 3 ?_
 obtain ⟨efrom1,etext1,efake1,eword1,hv4,h⟩:=h
 refine sy (v:=(.agg #[(vb efrom1),(vb etext1),(vb efake1),(vs eword1)])) Kp3 (fun w' hw'=>(jKY (by kernel_rfl) (by kernel_rfl) (hv4 w' hw'.1))) (lg 4 (jBQ (O:=(.cells #[(vb false),(vb false),(vb false),ve] 310)) (fun p=>.pointer (some p)) Kp4 (zL rfl) (by kernel_rfl) (zQ (zeroValue310 _) rfl) ?_))
 intro p2 w11 hn3
 have h:=h p2 w11 hn3
 refine ⟨.inr ⟨h.1,hb.kept (Ext.new (F:=None) hn3).keptP⟩,?_⟩
 have h:=h.2
 obtain ⟨hs,hb⟩:=hs.nw hb hn3
 refine lg 5 ?_
 obtain ⟨hp1,hnh,h⟩:=h
 refine tH Kp5 (zL rfl) (by kernel_rfl) (xo p2 [(vb efrom1),(vb etext1),(vb efake1),(vs eword1)] (sizeOf310 _) hp1) ?_
 intro w12 hn2
 have h:=h w12 hn2
 refine ⟨.inl (by kernel_rfl),?_⟩
 have hk:Kept H2 w11 w12:=by rw [hn2];exact Kept.storeRow hnh
 obtain ⟨hs,hb⟩:=hk.hh hs hb
 refine wn (zK ?_)
 exact ⟨p2,H2,hm,hs,hb,h⟩
 have h:=h.2
 refine jBQ (O:=(.cells #[(vb false),(vb false),(vb false),ve] 310)) (fun p=>.pointer (some p)) Kp4 (zL rfl) (by kernel_rfl) (zQ (zeroValue310 _) rfl) ?_
 intro p3 w13 hn5
 have h:=h p3 w13 hn5
 refine ⟨.inr ⟨h.1,hb.kept (Ext.new (F:=None) hn5).keptP⟩,?_⟩
 have h:=h.2
 obtain ⟨hs,hb⟩:=hs.nw hb hn5
 refine lg 0 ?_
 refine slc Kp0 call240 (h.mono ?_)
 rintro e w14 ⟨r2,rfl,hC,hk,h⟩
 refine ⟨_,rfl,.inr ⟨hC,hb.kept hk⟩,?_⟩
 obtain ⟨hs,hb⟩:=hk.hh hs hb
 refine qg 3 ?_
 obtain ⟨efrom2,etext2,efake2,eword2,hv5,h⟩:=h
 refine sy (v:=(.agg #[(vb efrom2),(vb etext2),(vb efake2),(vs eword2)])) Kp3 (fun w' hw'=>(jKY (by kernel_rfl) (by kernel_rfl) (hv5 w' hw'.1))) (lg 5 ?_)
 obtain ⟨hp2,hnh,h⟩:=h
 refine tH Kp5 (zL rfl) (by kernel_rfl) (xo p3 [(vb efrom2),(vb etext2),(vb efake2),(vs eword2)] (sizeOf310 _) hp2) ?_
 intro w15 hn4
 have h:=h w15 hn4
 refine ⟨.inl (by kernel_rfl),?_⟩
 have hk:Kept H2 w14 w15:=by rw [hn4];exact Kept.storeRow hnh
 obtain ⟨hs,hb⟩:=hk.hh hs hb
 refine wn (zK ?_)
 exact ⟨p3,H2,hm,hs,hb,h⟩
def s_V (s1:ByteArray):Int×Int×Int×Int×ByteArray×Sl :=(3,0,0,0,s1,Sl.nil)
theorem pw_V (s1:ByteArray) (w0:World) :
  Calls prog 245 #[(vs s1)] w0 (fun e w'=>(e=.returned (.agg #[(vi 3),(vi 0),(vi 0),(vu 0),(vs s1),Sl.nil.v]))∧Pure w0 w'):=by
 refine cw (args:=[(vs s1)]) func245 ntmps245 ?_
 obtain ⟨hs,hb⟩:=st0 w0
 refine eg (nw3 [(vi 0),(vi 0),(vi 0),(vu 0),ve,Sl.nil.v] 76 hs hb (zQ (zeroValue76 _) rfl) fun p1 w1 H1 hs hb=>?_)
 refine ln (eg (qb (yW (zL rfl) (xo p1 [(vi 3),(vi 0),(vi 0),(vu 0),(vs s1),Sl.nil.v] (sizeOf76 _) (hb.k0 0 6 gZ)) ?_)))
 intro w2 hn2
 obtain ⟨hs,hb⟩:=hb.st1 0 hs hn2 gZ
 refine ln (er (jKT (.inl rfl) (vs:=[(.agg #[(vi 3),(vi 0),(vi 0),(vu 0),(vs s1),Sl.nil.v])]) (v:=(.agg #[(vi 3),(vi 0),(vi 0),(vu 0),(vs s1),Sl.nil.v])) results245 ⟨(rva (isAgg76 _) (sizeOf76 _) (hb.r0 0 6 gZ)),trivial⟩ (by kernel_rfl) ?_))
 exact ⟨by kernel_rfl,(Ext.refl (F:=None) _).hst hs⟩
theorem p_V (s1:ByteArray) (w0:World):Calls prog 245 #[(.string s1)] w0 (fun e w'=>e=.returned (.agg #[(.int .i64 (s_V s1).1),(.int .i64 (s_V s1).2.1),(.int .i64 (s_V s1).2.2.1),(.int .u64 (s_V s1).2.2.2.1),(.string (s_V s1).2.2.2.2.1),(s_V s1).2.2.2.2.2.v])∧Pure w0 w'):=pw_V s1 w0
def s_Z (n1:Int):Int×Int×Int×Int×ByteArray×Sl :=(2,0,0,n1,⟨#[]⟩,Sl.nil)
theorem pw_Z (n1:Int) (w0:World) :
  Calls prog 246 #[(vu n1)] w0 (fun e w'=>(e=.returned (.agg #[(vi 2),(vi 0),(vi 0),(vu n1),ve,Sl.nil.v]))∧Pure w0 w'):=by
 refine cw (args:=[(vu n1)]) func246 ntmps246 ?_
 obtain ⟨hs,hb⟩:=st0 w0
 refine eg (nw3 [(vi 0),(vi 0),(vi 0),(vu 0),ve,Sl.nil.v] 76 hs hb (zQ (zeroValue76 _) rfl) fun p1 w1 H1 hs hb=>?_)
 refine ln (eg (qb (yW (zL rfl) (xo p1 [(vi 2),(vi 0),(vi 0),(vu n1),ve,Sl.nil.v] (sizeOf76 _) (hb.k0 0 6 gZ)) ?_)))
 intro w2 hn2
 obtain ⟨hs,hb⟩:=hb.st1 0 hs hn2 gZ
 refine ln (er (jKT (.inl rfl) (vs:=[(.agg #[(vi 2),(vi 0),(vi 0),(vu n1),ve,Sl.nil.v])]) (v:=(.agg #[(vi 2),(vi 0),(vi 0),(vu n1),ve,Sl.nil.v])) results246 ⟨(rva (isAgg76 _) (sizeOf76 _) (hb.r0 0 6 gZ)),trivial⟩ (by kernel_rfl) ?_))
 exact ⟨by kernel_rfl,(Ext.refl (F:=None) _).hst hs⟩
theorem p_Z (n1:Int) (w0:World):Calls prog 246 #[(.int .u64 n1)] w0 (fun e w'=>e=.returned (.agg #[(.int .i64 (s_Z n1).1),(.int .i64 (s_Z n1).2.1),(.int .i64 (s_Z n1).2.2.1),(.int .u64 (s_Z n1).2.2.2.1),(.string (s_Z n1).2.2.2.2.1),(s_Z n1).2.2.2.2.2.v])∧Pure w0 w'):=pw_Z n1 w0
def m_T4 (aL aM:Int) (aN aO:Int) (aP:ByteArray) (aQ:Sl) (bJ bK:Int) (bL bM:Int) (bN:ByteArray) (bO:Sl) (w0:World) (K:Int→Int→Int→Int→ByteArray→Sl→WP):Prop :=∀(H3:NP) (w3:World),Hst w0 None w0 H3 w3→∀(p4:Addr) (w4:World),New w3 (.cells #[(vi aL),(vi aM),(vi aN),(vu aO),(vs aP),aQ.v,(vi bJ),(vi bK),(vi bL),(vu bM),(vs bN),bO.v] 76) p4 w4→∀(w5:World),Hst w0 H3 w4 H3 w5→K 4 0 0 0 ⟨#[]⟩ (Sl.mk (some p4) 2 2) w5
theorem w_T4 (aL aM:Int) (aN aO:Int) (aP:ByteArray) (aQ:Sl) (bJ bK:Int) (bL bM:Int) (bN:ByteArray) (bO:Sl) (w0:World) (K:Int→Int→Int→Int→ByteArray→Sl→WP) (h:m_T4 aL aM aN aO aP aQ bJ bK bL bM bN bO w0 K) :
  Calls prog 244 #[(.agg #[(vi aL),(vi aM),(vi aN),(vu aO),(vs aP),aQ.v]),(.agg #[(vi bJ),(vi bK),(vi bL),(vu bM),(vs bN),bO.v])] w0 (fun e w'=>∃aF aG:Int,∃aH aI:Int,∃aJ:ByteArray,∃aK:Sl,e=.returned (.agg #[(vi aF),(vi aG),(vi aH),(vu aI),(vs aJ),aK.v])∧K aF aG aH aI aJ aK w'):=by
 refine cw (args:=[(.agg #[(vi aL),(vi aM),(vi aN),(vu aO),(vs aP),aQ.v]),(.agg #[(vi bJ),(vi bK),(vi bL),(vu bM),(vs bN),bO.v])]) func244 ntmps244 ?_
 obtain ⟨hs,hb⟩:=st0 w0
 refine eg (nw3 [(vi aL),(vi aM),(vi aN),(vu aO),(vs aP),aQ.v] 76 hs hb xb fun p1 w1 H1 hs hb=>?_)
 refine nw3 [(vi bJ),(vi bK),(vi bL),(vu bM),(vs bN),bO.v] 76 hs hb xb fun p2 w2 H2 hs hb=>?_
 refine nw3 [(vi 0),(vi 0),(vi 0),(vu 0),ve,Sl.nil.v] 76 hs hb (zQ (zeroValue76 _) rfl) fun p3 w3 H3 hs hb=>?_
 refine ln (eg (q2 (.agg #[(vi aL),(vi aM),(vi aN),(vu aO),(vs aP),aQ.v]) (xa p1 [(vi aL),(vi aM),(vi aN),(vu aO),(vs aP),aQ.v] (isAgg76 _) (sizeOf76 _) (hb.r0 2 6 (gS (gS gZ)))) (q2 (.agg #[(vi bJ),(vi bK),(vi bL),(vu bM),(vs bN),bO.v]) (xa p2 [(vi bJ),(vi bK),(vi bL),(vu bM),(vs bN),bO.v] (isAgg76 _) (sizeOf76 _) (hb.r0 1 6 (gS gZ))) ?_)))
 have ⟨h,hs⟩:=hs.hr (h H3 w3)
 refine nw5 (fun p=>(Sl.mk (some p) 2 2).v) hs hb h fun p4 w4 hs hb h=>?_
 refine q (yW (zL rfl) (xo p3 [(vi 4),(vi 0),(vi 0),(vu 0),ve,(Sl.mk (some p4) 2 2).v] (sizeOf76 _) (hb.k0 0 6 gZ)) ?_)
 intro w5 hn4
 obtain ⟨hs,hb⟩:=hb.st1 0 hs hn4 gZ
 refine ln (er ?_)
 have ⟨h,hs⟩:=hs.hr (h w5)
 refine jKT (.inl rfl) (vs:=[(.agg #[(vi 4),(vi 0),(vi 0),(vu 0),ve,(Sl.mk (some p4) 2 2).v])]) (v:=(.agg #[(vi 4),(vi 0),(vi 0),(vu 0),ve,(Sl.mk (some p4) 2 2).v])) results244 ⟨(rva (isAgg76 _) (sizeOf76 _) (hb.r0 0 6 gZ)),trivial⟩ (by kernel_rfl) ?_
 exact ⟨4,0,0,0,⟨#[]⟩,(Sl.mk (some p4) 2 2),rfl,h⟩
def m_U4 (c1:Int) (text1:ByteArray) (w0:World) (K:Int→Int→Int→Int→ByteArray→Sl→WP):Prop :=∀(H1:NP) (w4:World),Hst w0 None w0 H1 w4→Calls prog 244 #[(.agg #[(vi 2),(vi 0),(vi 0),(vu c1),ve,Sl.nil.v]),(.agg #[(vi 3),(vi 0),(vi 0),(vu 0),(vs text1),Sl.nil.v])] w4 (fun e w5=>∃aF aG:Int,∃aH aI:Int,∃aJ:ByteArray,∃aK:Sl,e=.returned (.agg #[(vi aF),(vi aG),(vi aH),(vu aI),(vs aJ),aK.v])∧Kept H1 w4 w5∧Calls prog 244 #[(.agg #[(vi 3),(vi 0),(vi 0),(vu 0),(vs (⟨#[100,101,97,108]⟩:ByteArray)),Sl.nil.v]),(.agg #[(vi aF),(vi aG),(vi aH),(vu aI),(vs aJ),aK.v])] w5 (fun e w6=>∃aR aS:Int,∃aT aU:Int,∃aV:ByteArray,∃aW:Sl,e=.returned (.agg #[(vi aR),(vi aS),(vi aT),(vu aU),(vs aV),aW.v])∧Kept H1 w5 w6∧∀(w7:World),Hst w0 H1 w6 H1 w7→K aR aS aT aU aV aW w7))
theorem w_U4 (c1:Int) (text1:ByteArray) (w0:World) (K:Int→Int→Int→Int→ByteArray→Sl→WP) (h:m_U4 c1 text1 w0 K) :
  Calls prog 241 #[(vu c1),(vs text1)] w0 (fun e w'=>∃aX aY:Int,∃aZ bA:Int,∃bB:ByteArray,∃bC:Sl,e=.returned (.agg #[(vi aX),(vi aY),(vi aZ),(vu bA),(vs bB),bC.v])∧K aX aY aZ bA bB bC w'):=by
 refine cw (args:=[(vu c1),(vs text1)]) func241 ntmps241 ?_
 obtain ⟨hs,hb⟩:=st0 w0
 refine eg (nw3 [(vi 0),(vi 0),(vi 0),(vu 0),ve,Sl.nil.v] 76 hs hb (zQ (zeroValue76 _) rfl) fun p1 w1 H1 hs hb=>?_)
 refine ln (eg ?_)
 refine sc call245 ((p_V (⟨#[100,101,97,108]⟩:ByteArray) w1).mono ?_)
 rintro e w2 ⟨he,hE⟩
 refine ⟨_,he,?_⟩
 obtain ⟨hs,hb⟩:=hs.pp hb hE
 refine q ?_
 refine sc call246 ((p_Z c1 w2).mono ?_)
 rintro e w3 ⟨he,hE⟩
 refine ⟨_,he,?_⟩
 obtain ⟨hs,hb⟩:=hs.pp hb hE
 refine q ?_
 refine sc call245 ((p_V text1 w3).mono ?_)
 rintro e w4 ⟨he,hE⟩
 refine ⟨_,he,?_⟩
 obtain ⟨hs,hb⟩:=hs.pp hb hE
 have ⟨h,hs⟩:=hs.hr (h H1 w4)
 refine sc call244 (h.mono fun e w5 ⟨aF,aG,aH,aI,aJ,aK,k,hk,h⟩=>have ⟨hs,hb⟩:=hk.hh hs hb;⟨_,k,?_⟩)
 refine sc call244 (h.mono fun e w6 ⟨aR,aS,aT,aU,aV,aW,k,hk,h⟩=>have ⟨hs,hb⟩:=hk.hh hs hb;⟨_,k,?_⟩)
 refine sbx 0 [(vi aR),(vi aS),(vi aT),(vu aU),(vs aV),aW.v] (sizeOf76 _) hs hb gZ fun w7 hs hb=>?_
 refine ln (er ?_)
 have ⟨h,hs⟩:=hs.hr (h w7)
 refine jKT (.inl rfl) (vs:=[(.agg #[(vi aR),(vi aS),(vi aT),(vu aU),(vs aV),aW.v])]) (v:=(.agg #[(vi aR),(vi aS),(vi aT),(vu aU),(vs aV),aW.v])) results241 ⟨(rva (isAgg76 _) (sizeOf76 _) (hb.r0 0 6 gZ)),trivial⟩ (by kernel_rfl) ?_
 exact ⟨aR,aS,aT,aU,aV,aW,rfl,h⟩
def m_V4 (from1:Int) (fake1:Bool) (bD bE:Int) (bF bG:Int) (bH:ByteArray) (bI:Sl) (w0:World) (K:Int→Int→Int→Int→ByteArray→Sl→WP):Prop :=∀(H3:NP) (w3:World),Hst w0 None w0 H3 w3→∀(p3:Addr) (w4:World),New w3 (.cells #[(vi bD),(vi bE),(vi bF),(vu bG),(vs bH),bI.v] 76) p3 w4→∀(w5:World),Hst w0 H3 w4 H3 w5→K (cond fake1 9 8) from1 (q6.wrap (1 - from1)) 0 ⟨#[]⟩ (Sl.mk (some p3) 1 1) w5
theorem w_V4 (from1:Int) (fake1:Bool) (bD bE:Int) (bF bG:Int) (bH:ByteArray) (bI:Sl) (w0:World) (K:Int→Int→Int→Int→ByteArray→Sl→WP) (h:m_V4 from1 fake1 bD bE bF bG bH bI w0 K) :
  Calls prog 242 #[(vi from1),(vb fake1),(.agg #[(vi bD),(vi bE),(vi bF),(vu bG),(vs bH),bI.v])] w0 (fun e w'=>∃aF aG:Int,∃aH aI:Int,∃aJ:ByteArray,∃aK:Sl,e=.returned (.agg #[(vi aF),(vi aG),(vi aH),(vu aI),(vs aJ),aK.v])∧K aF aG aH aI aJ aK w'):=by
 refine cw (args:=[(vi from1),(vb fake1),(.agg #[(vi bD),(vi bE),(vi bF),(vu bG),(vs bH),bI.v])]) func242 ntmps242 ?_
 obtain ⟨hs,hb⟩:=st0 w0
 refine eg (nw3 [(vi bD),(vi bE),(vi bF),(vu bG),(vs bH),bI.v] 76 hs hb xb fun p1 w1 H1 hs hb=>?_)
 refine nw3 [(vi 0),(vi 0),(vi 0),(vu 0),ve,Sl.nil.v] 76 hs hb (zQ (zeroValue76 _) rfl) fun p2 w2 H2 hs hb=>?_
 refine ln (eg (q (ln (zA (eg (q (zB ?_)))))))
 refine zK ?_
 refine vK (fun ρ wJ=>∃b1'0:Bool,∃HJ:NP,(fake1=b1'0)∧Hst w0 None w0 HJ wJ∧HB HJ wJ [(p2,[(vi 0),(vi 0),(vi 0),(vu 0),ve,Sl.nil.v],76),(p1,[(vi bD),(vi bE),(vi bF),(vu bG),(vs bH),bI.v],76)]∧Has ρ [(0,(vi from1)),(5,(vp (some p1))),(6,(vp (some p2))),(7,(vi (cond b1'0 9 8)))]) ?_ ?_
 refine vH (t:=fake1) (by kernel_rfl) (fun hc2=>?_) (fun hc2=>?_)
 refine rg (q (ln ?_))
 exact ⟨true,_,hc2,hs,hb,hm⟩
 refine zC (zK ?_)
 exact ⟨false,_,hc2,hs,hb,hm⟩
 rintro ρ w3 ⟨b1'0,H3,he0,hs,hb,hH⟩
 subst he0
 refine vD hH ?_
 refine zK (eg (qd (q2 (.agg #[(vi bD),(vi bE),(vi bF),(vu bG),(vs bH),bI.v]) (xa p1 [(vi bD),(vi bE),(vi bF),(vu bG),(vs bH),bI.v] (isAgg76 _) (sizeOf76 _) (hb.r0 1 6 (gS gZ))) ?_)))
 have ⟨h,hs⟩:=hs.hr (h H3 w3)
 refine nw5 (fun p=>(Sl.mk (some p) 1 1).v) hs hb h fun p3 w4 hs hb h=>?_
 refine q (yW (zL rfl) (xo p2 [(vi (cond fake1 9 8)),(vi from1),(vi (q6.wrap (1 - from1))),(vu 0),ve,(Sl.mk (some p3) 1 1).v] (sizeOf76 _) (hb.k0 0 6 gZ)) ?_)
 intro w5 hn3
 obtain ⟨hs,hb⟩:=hb.st1 0 hs hn3 gZ
 refine ln (er ?_)
 have ⟨h,hs⟩:=hs.hr (h w5)
 refine jKT (.inl rfl) (vs:=[(.agg #[(vi (cond fake1 9 8)),(vi from1),(vi (q6.wrap (1 - from1))),(vu 0),ve,(Sl.mk (some p3) 1 1).v])]) (v:=(.agg #[(vi (cond fake1 9 8)),(vi from1),(vi (q6.wrap (1 - from1))),(vu 0),ve,(Sl.mk (some p3) 1 1).v])) results242 ⟨(rva (isAgg76 _) (sizeOf76 _) (hb.r0 0 6 gZ)),trivial⟩ (by kernel_rfl) ?_
 exact ⟨(cond fake1 9 8),from1,(q6.wrap (1 - from1)),0,⟨#[]⟩,(Sl.mk (some p3) 1 1),rfl,h⟩
def m_W4 (who1 aL:Int) (aM aN aO:Int) (aP:ByteArray) (aQ:Sl) (w0:World) (K:Int→Int→Int→Int→ByteArray→Sl→WP):Prop :=∀(H2:NP) (w2:World),Hst w0 None w0 H2 w2→∀(p3:Addr) (w3:World),New w2 (.cells #[(vi aL),(vi aM),(vi aN),(vu aO),(vs aP),aQ.v] 76) p3 w3→∀(w4:World),Hst w0 H2 w3 H2 w4→K 7 who1 0 0 ⟨#[]⟩ (Sl.mk (some p3) 1 1) w4
theorem w_W4 (who1 aL:Int) (aM aN aO:Int) (aP:ByteArray) (aQ:Sl) (w0:World) (K:Int→Int→Int→Int→ByteArray→Sl→WP) (h:m_W4 who1 aL aM aN aO aP aQ w0 K) :
  Calls prog 243 #[(vi who1),(.agg #[(vi aL),(vi aM),(vi aN),(vu aO),(vs aP),aQ.v])] w0 (fun e w'=>∃aF aG:Int,∃aH aI:Int,∃aJ:ByteArray,∃aK:Sl,e=.returned (.agg #[(vi aF),(vi aG),(vi aH),(vu aI),(vs aJ),aK.v])∧K aF aG aH aI aJ aK w'):=by
 refine cw (args:=[(vi who1),(.agg #[(vi aL),(vi aM),(vi aN),(vu aO),(vs aP),aQ.v])]) func243 ntmps243 ?_
 obtain ⟨hs,hb⟩:=st0 w0
 refine eg (nw3 [(vi aL),(vi aM),(vi aN),(vu aO),(vs aP),aQ.v] 76 hs hb xb fun p1 w1 H1 hs hb=>?_)
 refine nw3 [(vi 0),(vi 0),(vi 0),(vu 0),ve,Sl.nil.v] 76 hs hb (zQ (zeroValue76 _) rfl) fun p2 w2 H2 hs hb=>?_
 refine ln (eg (q (q2 (.agg #[(vi aL),(vi aM),(vi aN),(vu aO),(vs aP),aQ.v]) (xa p1 [(vi aL),(vi aM),(vi aN),(vu aO),(vs aP),aQ.v] (isAgg76 _) (sizeOf76 _) (hb.r0 1 6 (gS gZ))) ?_)))
 have ⟨h,hs⟩:=hs.hr (h H2 w2)
 refine nw5 (fun p=>(Sl.mk (some p) 1 1).v) hs hb h fun p3 w3 hs hb h=>?_
 refine q (yW (zL rfl) (xo p2 [(vi 7),(vi who1),(vi 0),(vu 0),ve,(Sl.mk (some p3) 1 1).v] (sizeOf76 _) (hb.k0 0 6 gZ)) ?_)
 intro w4 hn3
 obtain ⟨hs,hb⟩:=hb.st1 0 hs hn3 gZ
 refine ln (er ?_)
 have ⟨h,hs⟩:=hs.hr (h w4)
 refine jKT (.inl rfl) (vs:=[(.agg #[(vi 7),(vi who1),(vi 0),(vu 0),ve,(Sl.mk (some p3) 1 1).v])]) (v:=(.agg #[(vi 7),(vi who1),(vi 0),(vu 0),ve,(Sl.mk (some p3) 1 1).v])) results243 ⟨(rva (isAgg76 _) (sizeOf76 _) (hb.r0 0 6 gZ)),trivial⟩ (by kernel_rfl) ?_
 exact ⟨7,who1,0,0,⟨#[]⟩,(Sl.mk (some p3) 1 1),rfl,h⟩
def m_X4 (aA aB aE:Int) (aC:ByteArray) (aD:Bool) (w0:World) (K:Int→Int→Int→Int→ByteArray→Sl→WP):Prop :=∀(H2:NP) (w2:World),Hst w0 None w0 H2 w2→Calls prog 241 #[(vu aE),(vs aC)] w2 (fun e w3=>∃aF aG:Int,∃aH aI:Int,∃aJ:ByteArray,∃aK:Sl,e=.returned (.agg #[(vi aF),(vi aG),(vi aH),(vu aI),(vs aJ),aK.v])∧Kept H2 w2 w3∧Br (aA == 1) (∀(H3:NP) (w5:World),Hst w0 H2 w3 H3 w5→Calls prog 242 #[(vi aB),(vb aD),(.agg #[(vi aF),(vi aG),(vi aH),(vu aI),(vs aJ),aK.v])] w5 (fun e w6=>∃aR aS:Int,∃aT aU:Int,∃aV:ByteArray,∃aW:Sl,e=.returned (.agg #[(vi aR),(vi aS),(vi aT),(vu aU),(vs aV),aW.v])∧Kept H3 w5 w6∧∀(w7:World),Hst w0 H3 w6 H3 w7→K aR aS aT aU aV aW w7)) (Br (aA == 2) (∀(H3:NP) (w5:World),Hst w0 H2 w3 H3 w5→Calls prog 243 #[(vi aB),(.agg #[(vi aF),(vi aG),(vi aH),(vu aI),(vs aJ),aK.v])] w5 (fun e w8=>∃aX aY:Int,∃aZ bA:Int,∃bB:ByteArray,∃bC:Sl,e=.returned (.agg #[(vi aX),(vi aY),(vi aZ),(vu bA),(vs bB),bC.v])∧Kept H3 w5 w8∧∀(w9:World),Hst w0 H3 w8 H3 w9→K aX aY aZ bA bB bC w9)) (Br (aA == 3) (∀(H3:NP) (w5:World),Hst w0 H2 w3 H3 w5→∃C1:WP,C1 w5.drew∧∀w10,w10=w5.drew→Calls prog 245 #[(vs (⟨#[97,98,111,114,116]⟩:ByteArray))] w10 (fun e w11=>∃cU cV:Int,∃cW cX:Int,∃cY:ByteArray,∃cZ:Sl,e=.returned (.agg #[(vi cU),(vi cV),(vi cW),(vu cX),(vs cY),cZ.v])∧C1 w11∧Kept H3 w10 w11∧Calls prog 246 #[(vu aE)] w11 (fun e w12=>∃dA dB:Int,∃dC dD:Int,∃dE:ByteArray,∃dF:Sl,e=.returned (.agg #[(vi dA),(vi dB),(vi dC),(vu dD),(vs dE),dF.v])∧Kept H3 w11 w12∧Calls prog 244 #[(.agg #[(vi cU),(vi cV),(vi cW),(vu cX),(vs cY),cZ.v]),(.agg #[(vi dA),(vi dB),(vi dC),(vu dD),(vs dE),dF.v])] w12 (fun e w13=>∃dG dH:Int,∃dI dJ:Int,∃dK:ByteArray,∃dL:Sl,e=.returned (.agg #[(vi dG),(vi dH),(vi dI),(vu dJ),(vs dK),dL.v])∧Kept H3 w12 w13∧Calls prog 243 #[(vi 0),(.agg #[(vi dG),(vi dH),(vi dI),(vu dJ),(vs dK),dL.v])] w13 (fun e w14=>∃bP bQ:Int,∃bR bS:Int,∃bT:ByteArray,∃bU:Sl,e=.returned (.agg #[(vi bP),(vi bQ),(vi bR),(vu bS),(vs bT),bU.v])∧Kept H3 w13 w14∧∀(w15:World),Hst w0 H3 w14 H3 w15→K bP bQ bR bS bT bU w15))))) (Br (aA == 4) (∀(H3:NP) (w5:World),Hst w0 H2 w3 H3 w5→∃C2:WP,C2 w5.drew∧∀w16,w16=w5.drew→Calls prog 245 #[(vs (⟨#[114,101,115,111,108,118,101]⟩:ByteArray))] w16 (fun e w17=>∃dM dN:Int,∃dO dP:Int,∃dQ:ByteArray,∃dR:Sl,e=.returned (.agg #[(vi dM),(vi dN),(vi dO),(vu dP),(vs dQ),dR.v])∧C2 w17∧Kept H3 w16 w17∧Calls prog 242 #[(vi 0),(vb aD),(.agg #[(vi aF),(vi aG),(vi aH),(vu aI),(vs aJ),aK.v])] w17 (fun e w18=>∃dS dT:Int,∃dU dV:Int,∃dW:ByteArray,∃dX:Sl,e=.returned (.agg #[(vi dS),(vi dT),(vi dU),(vu dV),(vs dW),dX.v])∧C2 w18∧Kept H3 w17 w18∧Calls prog 242 #[(vi 1),(vb aD),(.agg #[(vi aF),(vi aG),(vi aH),(vu aI),(vs aJ),aK.v])] w18 (fun e w19=>∃dY dZ:Int,∃eA eB:Int,∃eC:ByteArray,∃eD:Sl,e=.returned (.agg #[(vi dY),(vi dZ),(vi eA),(vu eB),(vs eC),eD.v])∧C2 w19∧Kept H3 w18 w19∧Calls prog 244 #[(.agg #[(vi dS),(vi dT),(vi dU),(vu dV),(vs dW),dX.v]),(.agg #[(vi dY),(vi dZ),(vi eA),(vu eB),(vs eC),eD.v])] w19 (fun e w20=>∃eE eF:Int,∃eG eH:Int,∃eI:ByteArray,∃eJ:Sl,e=.returned (.agg #[(vi eE),(vi eF),(vi eG),(vu eH),(vs eI),eJ.v])∧C2 w20∧Kept H3 w19 w20∧Calls prog 244 #[(.agg #[(vi dM),(vi dN),(vi dO),(vu dP),(vs dQ),dR.v]),(.agg #[(vi eE),(vi eF),(vi eG),(vu eH),(vs eI),eJ.v])] w20 (fun e w21=>∃eK eL:Int,∃eM eN:Int,∃eO:ByteArray,∃eP:Sl,e=.returned (.agg #[(vi eK),(vi eL),(vi eM),(vu eN),(vs eO),eP.v])∧C2 w21∧Kept H3 w20 w21∧Calls prog 243 #[(vi aB),(.agg #[(vi eK),(vi eL),(vi eM),(vu eN),(vs eO),eP.v])] w21 (fun e w22=>∃bV bW:Int,∃bX bY:Int,∃bZ:ByteArray,∃cA:Sl,e=.returned (.agg #[(vi bV),(vi bW),(vi bX),(vu bY),(vs bZ),cA.v])∧Kept H3 w21 w22∧∀(w23:World),Hst w0 H3 w22 H3 w23→K bV bW bX bY bZ cA w23))))))) (Br (aA == 5) (∀(H3:NP) (w5:World),Hst w0 H2 w3 H3 w5→∃C3:WP,C3 w5.drew∧∀w24,w24=w5.drew→Calls prog 245 #[(vs (⟨#[97,98,111,114,116,101,100]⟩:ByteArray))] w24 (fun e w25=>∃eQ eR:Int,∃eS eT:Int,∃eU:ByteArray,∃eV:Sl,e=.returned (.agg #[(vi eQ),(vi eR),(vi eS),(vu eT),(vs eU),eV.v])∧C3 w25∧Kept H3 w24 w25∧Calls prog 246 #[(vu aE)] w25 (fun e w26=>∃eW eX:Int,∃eY eZ:Int,∃fA:ByteArray,∃fB:Sl,e=.returned (.agg #[(vi eW),(vi eX),(vi eY),(vu eZ),(vs fA),fB.v])∧Kept H3 w25 w26∧Calls prog 244 #[(.agg #[(vi eQ),(vi eR),(vi eS),(vu eT),(vs eU),eV.v]),(.agg #[(vi eW),(vi eX),(vi eY),(vu eZ),(vs fA),fB.v])] w26 (fun e w27=>∃fC fD:Int,∃fE fF:Int,∃fG:ByteArray,∃fH:Sl,e=.returned (.agg #[(vi fC),(vi fD),(vi fE),(vu fF),(vs fG),fH.v])∧Kept H3 w26 w27∧Calls prog 243 #[(vi 2),(.agg #[(vi fC),(vi fD),(vi fE),(vu fF),(vs fG),fH.v])] w27 (fun e w28=>∃cB cC:Int,∃cD cE:Int,∃cF:ByteArray,∃cG:Sl,e=.returned (.agg #[(vi cB),(vi cC),(vi cD),(vu cE),(vs cF),cG.v])∧Kept H3 w27 w28∧∀(w29:World),Hst w0 H3 w28 H3 w29→K cB cC cD cE cF cG w29))))) (Br (aA == 6) (∀(H3:NP) (w5:World),Hst w0 H2 w3 H3 w5→∃C4:WP,C4 w5.drew∧∀w30,w30=w5.drew→Calls prog 245 #[(vs (⟨#[105,110,115,116,101,97,100]⟩:ByteArray))] w30 (fun e w31=>∃fI fJ:Int,∃fK fL:Int,∃fM:ByteArray,∃fN:Sl,e=.returned (.agg #[(vi fI),(vi fJ),(vi fK),(vu fL),(vs fM),fN.v])∧C4 w31∧Kept H3 w30 w31∧Calls prog 244 #[(.agg #[(vi fI),(vi fJ),(vi fK),(vu fL),(vs fM),fN.v]),(.agg #[(vi aF),(vi aG),(vi aH),(vu aI),(vs aJ),aK.v])] w31 (fun e w32=>∃fO fP:Int,∃fQ fR:Int,∃fS:ByteArray,∃fT:Sl,e=.returned (.agg #[(vi fO),(vi fP),(vi fQ),(vu fR),(vs fS),fT.v])∧Kept H3 w31 w32∧Calls prog 243 #[(vi 2),(.agg #[(vi fO),(vi fP),(vi fQ),(vu fR),(vs fS),fT.v])] w32 (fun e w33=>∃cH cI:Int,∃cJ cK:Int,∃cL:ByteArray,∃cM:Sl,e=.returned (.agg #[(vi cH),(vi cI),(vi cJ),(vu cK),(vs cL),cM.v])∧Kept H3 w32 w33∧∀(w34:World),Hst w0 H3 w33 H3 w34→K cH cI cJ cK cL cM w34)))) (∀(H3:NP) (w5:World),Hst w0 H2 w3 H3 w5→∃C5:WP,C5 w5.drew∧∀w35,w35=w5.drew→Calls prog 245 #[(vs (⟨#[102,117,108,108]⟩:ByteArray))] w35 (fun e w36=>∃fU fV:Int,∃fW fX:Int,∃fY:ByteArray,∃fZ:Sl,e=.returned (.agg #[(vi fU),(vi fV),(vi fW),(vu fX),(vs fY),fZ.v])∧C5 w36∧Kept H3 w35 w36∧Calls prog 246 #[(vu aE)] w36 (fun e w37=>∃gA gB:Int,∃gC gD:Int,∃gE:ByteArray,∃gF:Sl,e=.returned (.agg #[(vi gA),(vi gB),(vi gC),(vu gD),(vs gE),gF.v])∧Kept H3 w36 w37∧Calls prog 244 #[(.agg #[(vi fU),(vi fV),(vi fW),(vu fX),(vs fY),fZ.v]),(.agg #[(vi gA),(vi gB),(vi gC),(vu gD),(vs gE),gF.v])] w37 (fun e w38=>∃cN cO:Int,∃cP cQ:Int,∃cR:ByteArray,∃cS:Sl,e=.returned (.agg #[(vi cN),(vi cO),(vi cP),(vu cQ),(vs cR),cS.v])∧Kept H3 w37 w38∧∀(w39:World),Hst w0 H3 w38 H3 w39→K cN cO cP cQ cR cS w39))))))))))
theorem w_X4 (aA aB aE:Int) (aC:ByteArray) (aD:Bool) (w0:World) (K:Int→Int→Int→Int→ByteArray→Sl→WP) (h:m_X4 aA aB aE aC aD w0 K) :
  Calls prog 169 #[(.agg #[(vi aA),(vi aB),(vu aE),(vs aC),(vb aD)])] w0 (fun e w'=>∃gG gH:Int,∃gI gJ:Int,∃gK:ByteArray,∃gL:Sl,e=.returned (.agg #[(vi gG),(vi gH),(vi gI),(vu gJ),(vs gK),gL.v])∧K gG gH gI gJ gK gL w'):=by
 refine cw (args:=[(.agg #[(vi aA),(vi aB),(vu aE),(vs aC),(vb aD)])]) func169 ntmps169 ?_
 obtain ⟨hs,hb⟩:=st0 w0
 refine eg (nw3 [(vi aA),(vi aB),(vu aE),(vs aC),(vb aD)] 30 hs hb xb fun p1 w1 H1 hs hb=>?_)
 refine nw3 [(vi 0),(vi 0),(vi 0),(vu 0),ve,Sl.nil.v] 76 hs hb (zQ (zeroValue76 _) rfl) fun p2 w2 H2 hs hb=>?_
 refine ln (eg (q (q3 (xl (isAgg23 _) (hb.d 1 2 (gS gZ))) (q (q3 (xl (isAgg9 _) (hb.d 1 3 (gS gZ))) ?_)))))
 have ⟨h,hs⟩:=hs.hr (h H2 w2)
 refine sc call241 (h.mono fun e w3 ⟨aF,aG,aH,aI,aJ,aK,k,hk,h⟩=>have ⟨hs,hb⟩:=hk.hh hs hb;⟨_,k,?_⟩)
 refine nw3 [(vi 0),(vi 0),(vi 0),(vu 0),ve,Sl.nil.v] 76 hs hb (zQ (zeroValue76 _) rfl) fun p3 w4 H3 hs hb=>?_
 refine sbx 0 [(vi aF),(vi aG),(vi aH),(vu aI),(vs aJ),aK.v] (sizeOf76 _) hs hb gZ fun w5 hs hb=>?_
 refine ln (zA (eg (q (q3 (xl (isAgg3 _) (hb.d0 2 (gS (gS gZ)))) (ln (zJ (eg ?_)))))))
 refine qb (ln ?_)
 refine cbr h ?_ ?_<;>intro h
 refine eg (q (q3 (xl (isAgg3 _) (hb.d 2 1 (gS (gS gZ)))) (q (q3 (xl (isAgg4 _) (hb.d 2 4 (gS (gS gZ)))) (q2 (.agg #[(vi aF),(vi aG),(vi aH),(vu aI),(vs aJ),aK.v]) (xa p3 [(vi aF),(vi aG),(vi aH),(vu aI),(vs aJ),aK.v] (isAgg76 _) (sizeOf76 _) (hb.r0 0 6 gZ)) ?_)))))
 have ⟨h,hs⟩:=hs.hr (h H3 w5)
 refine sc call242 (h.mono fun e w6 ⟨aR,aS,aT,aU,aV,aW,k,hk,h⟩=>have ⟨hs,hb⟩:=hk.hh hs hb;⟨_,k,?_⟩)
 refine sbx 1 [(vi aR),(vi aS),(vi aT),(vu aU),(vs aV),aW.v] (sizeOf76 _) hs hb (gS gZ) fun w7 hs hb=>?_
 refine ln (er (uC (vF ?_)))
 have ⟨h,hs⟩:=hs.hr (h w7)
 refine jKT (.inl rfl) (vs:=[(.agg #[(vi aR),(vi aS),(vi aT),(vu aU),(vs aV),aW.v])]) (v:=(.agg #[(vi aR),(vi aS),(vi aT),(vu aU),(vs aV),aW.v])) results169 ⟨(rva (isAgg76 _) (sizeOf76 _) (hb.r0 1 6 (gS gZ))),trivial⟩ (by kernel_rfl) ?_
 exact ⟨aR,aS,aT,aU,aV,aW,rfl,h⟩
 refine eg (qb (ln ?_))
 refine cbr h ?_ ?_<;>intro h
 refine eg (q (q3 (xl (isAgg3 _) (hb.d 2 1 (gS (gS gZ)))) (q2 (.agg #[(vi aF),(vi aG),(vi aH),(vu aI),(vs aJ),aK.v]) (xa p3 [(vi aF),(vi aG),(vi aH),(vu aI),(vs aJ),aK.v] (isAgg76 _) (sizeOf76 _) (hb.r0 0 6 gZ)) ?_)))
 have ⟨h,hs⟩:=hs.hr (h H3 w5)
 refine sc call243 (h.mono fun e w8 ⟨aX,aY,aZ,bA,bB,bC,k,hk,h⟩=>have ⟨hs,hb⟩:=hk.hh hs hb;⟨_,k,?_⟩)
 refine sbx 1 [(vi aX),(vi aY),(vi aZ),(vu bA),(vs bB),bC.v] (sizeOf76 _) hs hb (gS gZ) fun w9 hs hb=>?_
 refine ln (er (uC (vF ?_)))
 have ⟨h,hs⟩:=hs.hr (h w9)
 refine jKT (.inl rfl) (vs:=[(.agg #[(vi aX),(vi aY),(vi aZ),(vu bA),(vs bB),bC.v])]) (v:=(.agg #[(vi aX),(vi aY),(vi aZ),(vu bA),(vs bB),bC.v])) results169 ⟨(rva (isAgg76 _) (sizeOf76 _) (hb.r0 1 6 (gS gZ))),trivial⟩ (by kernel_rfl) ?_
 exact ⟨aX,aY,aZ,bA,bB,bC,rfl,h⟩
 refine eg (qb (ln ?_))
 refine cbr h ?_ ?_<;>intro h
 refine zA ?_
 have ⟨h,hs⟩:=hs.hr (h H3 w5)
 obtain ⟨C1,hC,h⟩:=h
 refine dr2 (fun x=>C1 x∧HB H3 x _) [0,3,4,5,6] [3,4,5,6] ⟨hC,hb.drew⟩ h hs hb fun w10 hs hb h=>?_
 have hs:=hs.here
 refine qx 1 (vp (some (p1.add 2))) Kp1 (qz 2 (vu aE) Kp2 (fun w' hw'=>(xl (isAgg23 _) (hw'.2.cell 2 2 (gS (gS gZ)) (by kernel_rfl)))) (lg 0 ?_))
 refine slc Kp0 call245 (h.mono ?_)
 rintro e w11 ⟨cU,cV,cW,cX,cY,cZ,rfl,hC,hk,h⟩
 refine ⟨_,rfl,.inr ⟨hC,hb.kept hk⟩,?_⟩
 obtain ⟨hs,hb⟩:=hk.hh hs hb
 refine lg 3 ?_
 refine slc Kp3 call246 (h.mono ?_)
 rintro e w12 ⟨dA,dB,dC,dD,dE,dF,rfl,hk,h⟩
 refine ⟨_,rfl,.inl (by kernel_rfl),?_⟩
 obtain ⟨hs,hb⟩:=hk.hh hs hb
 refine lg 4 ?_
 refine slc Kp4 call244 (h.mono ?_)
 rintro e w13 ⟨dG,dH,dI,dJ,dK,dL,rfl,hk,h⟩
 refine ⟨_,rfl,.inl (by kernel_rfl),?_⟩
 obtain ⟨hs,hb⟩:=hk.hh hs hb
 refine lg 5 ?_
 refine slc Kp5 call243 (h.mono ?_)
 rintro e w14 ⟨bP,bQ,bR,bS,bT,bU,rfl,hk,h⟩
 refine ⟨_,rfl,.inl (by kernel_rfl),?_⟩
 obtain ⟨hs,hb⟩:=hk.hh hs hb
 refine lg 6 (tH Kp6 (zL rfl) (by kernel_rfl) (xo p2 [(vi bP),(vi bQ),(vi bR),(vu bS),(vs bT),bU.v] (sizeOf76 _) (hb.k0 1 6 (gS gZ))) ?_)
 intro w15 hn7
 obtain ⟨hs,hb⟩:=hb.st1 1 hs hn7 (gS gZ)
 refine ⟨.inl (by kernel_rfl),?_⟩
 refine wn (zK (er (uC (vF ?_))))
 have ⟨h,hs⟩:=hs.hr (h w15)
 refine jKT (.inl rfl) (vs:=[(.agg #[(vi bP),(vi bQ),(vi bR),(vu bS),(vs bT),bU.v])]) (v:=(.agg #[(vi bP),(vi bQ),(vi bR),(vu bS),(vs bT),bU.v])) results169 ⟨(rva (isAgg76 _) (sizeOf76 _) (hb.r0 1 6 (gS gZ))),trivial⟩ (by kernel_rfl) ?_
 exact ⟨bP,bQ,bR,bS,bT,bU,rfl,h⟩
 refine eg (qb (ln ?_))
 refine cbr h ?_ ?_<;>intro h
 refine zA ?_
 have ⟨h,hs⟩:=hs.hr (h H3 w5)
 obtain ⟨C2,hC,h⟩:=h
 refine dr2 (fun x=>C2 x∧HB H3 x _) [2,6,10,11,12,13,14] [13,14] ⟨hC,hb.drew⟩ h hs hb fun w16 hs hb h=>?_
 have hs:=hs.here
 refine qx 0 (vp (some (p1.add 1))) Kp0 (qz 1 (vi aB) Kp1 (fun w' hw'=>(xl (isAgg3 _) (hw'.2.cell 2 1 (gS (gS gZ)) (by kernel_rfl)))) (qx 3 (vp (some (p1.add 4))) Kp3 (qz 4 (vb aD) Kp4 (fun w' hw'=>(xl (isAgg4 _) (hw'.2.cell 2 4 (gS (gS gZ)) (by kernel_rfl)))) (qz 5 (.agg #[(vi aF),(vi aG),(vi aH),(vu aI),(vs aJ),aK.v]) Kp5 (fun w' hw'=>(xa p3 [(vi aF),(vi aG),(vi aH),(vu aI),(vs aJ),aK.v] (isAgg76 _) (sizeOf76 _) (hw'.2.r0 0 6 gZ))) (qx 7 (vp (some (p1.add 4))) Kp7 (qz 8 (vb aD) Kp8 (fun w' hw'=>(xl (isAgg4 _) (hw'.2.cell 2 4 (gS (gS gZ)) (by kernel_rfl)))) (qz 9 (.agg #[(vi aF),(vi aG),(vi aH),(vu aI),(vs aJ),aK.v]) Kp9 (fun w' hw'=>(xa p3 [(vi aF),(vi aG),(vi aH),(vu aI),(vs aJ),aK.v] (isAgg76 _) (sizeOf76 _) (hw'.2.r0 0 6 gZ))) (lg 2 ?_))))))))
 refine slc Kp2 call245 (h.mono ?_)
 rintro e w17 ⟨dM,dN,dO,dP,dQ,dR,rfl,hC,hk,h⟩
 refine ⟨_,rfl,.inr ⟨hC,hb.kept hk⟩,?_⟩
 obtain ⟨hs,hb⟩:=hk.hh hs hb
 refine lg 6 ?_
 refine slc Kp6 call242 (h.mono ?_)
 rintro e w18 ⟨dS,dT,dU,dV,dW,dX,rfl,hC,hk,h⟩
 refine ⟨_,rfl,.inr ⟨hC,hb.kept hk⟩,?_⟩
 obtain ⟨hs,hb⟩:=hk.hh hs hb
 refine lg 10 ?_
 refine slc (zT (S8 (zH (zH zS)))) call242 (h.mono ?_)
 rintro e w19 ⟨dY,dZ,eA,eB,eC,eD,rfl,hC,hk,h⟩
 refine ⟨_,rfl,.inr ⟨hC,hb.kept hk⟩,?_⟩
 obtain ⟨hs,hb⟩:=hk.hh hs hb
 refine lg 11 ?_
 refine slc (zT (S8 (zH (zH (zH zS))))) call244 (h.mono ?_)
 rintro e w20 ⟨eE,eF,eG,eH,eI,eJ,rfl,hC,hk,h⟩
 refine ⟨_,rfl,.inr ⟨hC,hb.kept hk⟩,?_⟩
 obtain ⟨hs,hb⟩:=hk.hh hs hb
 refine lg 12 ?_
 refine slc (zT (S8 (S4 zS))) call244 (h.mono ?_)
 rintro e w21 ⟨eK,eL,eM,eN,eO,eP,rfl,hC,hk,h⟩
 refine ⟨_,rfl,.inr ⟨hC,hb.kept hk⟩,?_⟩
 obtain ⟨hs,hb⟩:=hk.hh hs hb
 refine lg 13 ?_
 refine slc (zT (S8 (S4 (zH zS)))) call243 (h.mono ?_)
 rintro e w22 ⟨bV,bW,bX,bY,bZ,cA,rfl,hk,h⟩
 refine ⟨_,rfl,.inl (by kernel_rfl),?_⟩
 obtain ⟨hs,hb⟩:=hk.hh hs hb
 refine lg 14 (tH (zT (S8 (S4 (zH (zH zS))))) (zL rfl) (by kernel_rfl) (xo p2 [(vi bV),(vi bW),(vi bX),(vu bY),(vs bZ),cA.v] (sizeOf76 _) (hb.k0 1 6 (gS gZ))) ?_)
 intro w23 hn8
 obtain ⟨hs,hb⟩:=hb.st1 1 hs hn8 (gS gZ)
 refine ⟨.inl (by kernel_rfl),?_⟩
 refine wn (zK (er (uC (vF ?_))))
 have ⟨h,hs⟩:=hs.hr (h w23)
 refine jKT (.inl rfl) (vs:=[(.agg #[(vi bV),(vi bW),(vi bX),(vu bY),(vs bZ),cA.v])]) (v:=(.agg #[(vi bV),(vi bW),(vi bX),(vu bY),(vs bZ),cA.v])) results169 ⟨(rva (isAgg76 _) (sizeOf76 _) (hb.r0 1 6 (gS gZ))),trivial⟩ (by kernel_rfl) ?_
 exact ⟨bV,bW,bX,bY,bZ,cA,rfl,h⟩
 refine eg (qb (ln ?_))
 refine cbr h ?_ ?_<;>intro h
 refine zA ?_
 have ⟨h,hs⟩:=hs.hr (h H3 w5)
 obtain ⟨C3,hC,h⟩:=h
 refine dr2 (fun x=>C3 x∧HB H3 x _) [0,3,4,5,6] [3,4,5,6] ⟨hC,hb.drew⟩ h hs hb fun w24 hs hb h=>?_
 have hs:=hs.here
 refine qx 1 (vp (some (p1.add 2))) Kp1 (qz 2 (vu aE) Kp2 (fun w' hw'=>(xl (isAgg23 _) (hw'.2.cell 2 2 (gS (gS gZ)) (by kernel_rfl)))) (lg 0 ?_))
 refine slc Kp0 call245 (h.mono ?_)
 rintro e w25 ⟨eQ,eR,eS,eT,eU,eV,rfl,hC,hk,h⟩
 refine ⟨_,rfl,.inr ⟨hC,hb.kept hk⟩,?_⟩
 obtain ⟨hs,hb⟩:=hk.hh hs hb
 refine lg 3 ?_
 refine slc Kp3 call246 (h.mono ?_)
 rintro e w26 ⟨eW,eX,eY,eZ,fA,fB,rfl,hk,h⟩
 refine ⟨_,rfl,.inl (by kernel_rfl),?_⟩
 obtain ⟨hs,hb⟩:=hk.hh hs hb
 refine lg 4 ?_
 refine slc Kp4 call244 (h.mono ?_)
 rintro e w27 ⟨fC,fD,fE,fF,fG,fH,rfl,hk,h⟩
 refine ⟨_,rfl,.inl (by kernel_rfl),?_⟩
 obtain ⟨hs,hb⟩:=hk.hh hs hb
 refine lg 5 ?_
 refine slc Kp5 call243 (h.mono ?_)
 rintro e w28 ⟨cB,cC,cD,cE,cF,cG,rfl,hk,h⟩
 refine ⟨_,rfl,.inl (by kernel_rfl),?_⟩
 obtain ⟨hs,hb⟩:=hk.hh hs hb
 refine lg 6 (tH Kp6 (zL rfl) (by kernel_rfl) (xo p2 [(vi cB),(vi cC),(vi cD),(vu cE),(vs cF),cG.v] (sizeOf76 _) (hb.k0 1 6 (gS gZ))) ?_)
 intro w29 hn9
 obtain ⟨hs,hb⟩:=hb.st1 1 hs hn9 (gS gZ)
 refine ⟨.inl (by kernel_rfl),?_⟩
 refine wn (zK (er (uC (vF ?_))))
 have ⟨h,hs⟩:=hs.hr (h w29)
 refine jKT (.inl rfl) (vs:=[(.agg #[(vi cB),(vi cC),(vi cD),(vu cE),(vs cF),cG.v])]) (v:=(.agg #[(vi cB),(vi cC),(vi cD),(vu cE),(vs cF),cG.v])) results169 ⟨(rva (isAgg76 _) (sizeOf76 _) (hb.r0 1 6 (gS gZ))),trivial⟩ (by kernel_rfl) ?_
 exact ⟨cB,cC,cD,cE,cF,cG,rfl,h⟩
 refine eg (qb (ln ?_))
 refine cbr h ?_ ?_<;>intro h
 refine zA ?_
 have ⟨h,hs⟩:=hs.hr (h H3 w5)
 obtain ⟨C4,hC,h⟩:=h
 refine dr2 (fun x=>C4 x∧HB H3 x _) [0,2,3,4] [2,3,4] ⟨hC,hb.drew⟩ h hs hb fun w30 hs hb h=>?_
 have hs:=hs.here
 refine qz 1 (.agg #[(vi aF),(vi aG),(vi aH),(vu aI),(vs aJ),aK.v]) Kp1 (fun w' hw'=>(xa p3 [(vi aF),(vi aG),(vi aH),(vu aI),(vs aJ),aK.v] (isAgg76 _) (sizeOf76 _) (hw'.2.r0 0 6 gZ))) (lg 0 ?_)
 refine slc Kp0 call245 (h.mono ?_)
 rintro e w31 ⟨fI,fJ,fK,fL,fM,fN,rfl,hC,hk,h⟩
 refine ⟨_,rfl,.inr ⟨hC,hb.kept hk⟩,?_⟩
 obtain ⟨hs,hb⟩:=hk.hh hs hb
 refine lg 2 ?_
 refine slc Kp2 call244 (h.mono ?_)
 rintro e w32 ⟨fO,fP,fQ,fR,fS,fT,rfl,hk,h⟩
 refine ⟨_,rfl,.inl (by kernel_rfl),?_⟩
 obtain ⟨hs,hb⟩:=hk.hh hs hb
 refine lg 3 ?_
 refine slc Kp3 call243 (h.mono ?_)
 rintro e w33 ⟨cH,cI,cJ,cK,cL,cM,rfl,hk,h⟩
 refine ⟨_,rfl,.inl (by kernel_rfl),?_⟩
 obtain ⟨hs,hb⟩:=hk.hh hs hb
 refine lg 4 (tH Kp4 (zL rfl) (by kernel_rfl) (xo p2 [(vi cH),(vi cI),(vi cJ),(vu cK),(vs cL),cM.v] (sizeOf76 _) (hb.k0 1 6 (gS gZ))) ?_)
 intro w34 hn10
 obtain ⟨hs,hb⟩:=hb.st1 1 hs hn10 (gS gZ)
 refine ⟨.inl (by kernel_rfl),?_⟩
 refine wn (zK (er (uC (vF ?_))))
 have ⟨h,hs⟩:=hs.hr (h w34)
 refine jKT (.inl rfl) (vs:=[(.agg #[(vi cH),(vi cI),(vi cJ),(vu cK),(vs cL),cM.v])]) (v:=(.agg #[(vi cH),(vi cI),(vi cJ),(vu cK),(vs cL),cM.v])) results169 ⟨(rva (isAgg76 _) (sizeOf76 _) (hb.r0 1 6 (gS gZ))),trivial⟩ (by kernel_rfl) ?_
 exact ⟨cH,cI,cJ,cK,cL,cM,rfl,h⟩
 refine zC (xW (zK (zA ?_)))
 have ⟨h,hs⟩:=hs.hr (h H3 w5)
 obtain ⟨C5,hC,h⟩:=h
 refine dr2 (fun x=>C5 x∧HB H3 x _) [0,3,4,5] [3,4,5] ⟨hC,hb.drew⟩ h hs hb fun w35 hs hb h=>?_
 have hs:=hs.here
 refine qx 1 (vp (some (p1.add 2))) Kp1 (qz 2 (vu aE) Kp2 (fun w' hw'=>(xl (isAgg23 _) (hw'.2.cell 2 2 (gS (gS gZ)) (by kernel_rfl)))) (lg 0 ?_))
 refine slc Kp0 call245 (h.mono ?_)
 rintro e w36 ⟨fU,fV,fW,fX,fY,fZ,rfl,hC,hk,h⟩
 refine ⟨_,rfl,.inr ⟨hC,hb.kept hk⟩,?_⟩
 obtain ⟨hs,hb⟩:=hk.hh hs hb
 refine lg 3 ?_
 refine slc Kp3 call246 (h.mono ?_)
 rintro e w37 ⟨gA,gB,gC,gD,gE,gF,rfl,hk,h⟩
 refine ⟨_,rfl,.inl (by kernel_rfl),?_⟩
 obtain ⟨hs,hb⟩:=hk.hh hs hb
 refine lg 4 ?_
 refine slc Kp4 call244 (h.mono ?_)
 rintro e w38 ⟨cN,cO,cP,cQ,cR,cS,rfl,hk,h⟩
 refine ⟨_,rfl,.inl (by kernel_rfl),?_⟩
 obtain ⟨hs,hb⟩:=hk.hh hs hb
 refine lg 5 (tH Kp5 (zL rfl) (by kernel_rfl) (xo p2 [(vi cN),(vi cO),(vi cP),(vu cQ),(vs cR),cS.v] (sizeOf76 _) (hb.k0 1 6 (gS gZ))) ?_)
 intro w39 hn11
 obtain ⟨hs,hb⟩:=hb.st1 1 hs hn11 (gS gZ)
 refine ⟨.inl (by kernel_rfl),?_⟩
 refine wn (zK (er ?_))
 have ⟨h,hs⟩:=hs.hr (h w39)
 refine jKT (.inl rfl) (vs:=[(.agg #[(vi cN),(vi cO),(vi cP),(vu cQ),(vs cR),cS.v])]) (v:=(.agg #[(vi cN),(vi cO),(vi cP),(vu cQ),(vs cR),cS.v])) results169 ⟨(rva (isAgg76 _) (sizeOf76 _) (hb.r0 1 6 (gS gZ))),trivial⟩ (by kernel_rfl) ?_
 exact ⟨cN,cO,cP,cQ,cR,cS,rfl,h⟩
def m_Y4 (p1:Option Addr) (aA aB aE:Int) (aC:ByteArray) (aD:Bool) (w0:World) (K:Int→Int→WP):Prop :=∀(H1:NP) (w1:World),Hst w0 None w0 H1 w1→Calls prog 168 #[(.agg #[(vi aA),(vi aB),(vu aE),(vs aC),(vb aD)])] w1 (fun e w2=>∃r1:Int,e=.returned (vi r1)∧Kept H1 w1 w2∧Br (r1 != 0) (K 0 r1 w2) (Br (Option.isNone p1) (K 0 2 w2) (Calls prog 169 #[(.agg #[(vi aA),(vi aB),(vu aE),(vs aC),(vb aD)])] w2 (fun e w3=>∃aF aG:Int,∃aH aI:Int,∃aJ:ByteArray,∃aK:Sl,e=.returned (.agg #[(vi aF),(vi aG),(vi aH),(vu aI),(vs aJ),aK.v])∧Kept H1 w2 w3∧Calls prog 70 #[(vp p1),(.agg #[(vi aF),(vi aG),(vi aH),(vu aI),(vs aJ),aK.v])] w3 (fun e w4=>∃r2 r3:Int,e=.returned (.tuple #[(vi r2),(vi r3)])∧Kept H1 w3 w4∧K r2 r3 w4)))))
theorem w_Y4 (p1:Option Addr) (aA aB aE:Int) (aC:ByteArray) (aD:Bool) (w0:World) (K:Int→Int→WP) (h:m_Y4 p1 aA aB aE aC aD w0 K) :
  Calls prog 111 #[(vp p1),(.agg #[(vi aA),(vi aB),(vu aE),(vs aC),(vb aD)])] w0 (fun e w'=>∃r4 r5:Int,e=.returned (.tuple #[(vi r4),(vi r5)])∧K r4 r5 w'):=by
 refine cw (args:=[(vp p1),(.agg #[(vi aA),(vi aB),(vu aE),(vs aC),(vb aD)])]) func111 ntmps111 ?_
 obtain ⟨hs,hb⟩:=st0 w0
 refine eg (nw3 [(vi aA),(vi aB),(vu aE),(vs aC),(vb aD)] 30 hs hb xb fun p2 w1 H1 hs hb=>?_)
 refine qb (ln (zA (eg (q2 (.agg #[(vi aA),(vi aB),(vu aE),(vs aC),(vb aD)]) (xa p2 [(vi aA),(vi aB),(vu aE),(vs aC),(vb aD)] (isAgg30 _) (sizeOf30 _) (hb.r0 0 5 gZ)) ?_))))
 have ⟨h,hs⟩:=hs.hr (h H1 w1)
 refine sc call168 (h.mono fun e w2 ⟨r1,k,hk,h⟩=>have ⟨hs,hb⟩:=hk.hh hs hb;⟨_,k,?_⟩)
 refine q (ln (eg (qb (ln ?_))))
 refine cbr h ?_ ?_<;>intro h
 refine eg (qc (ln (er (vF (xO (.inl rfl) results111 (v:=(vi 0)) (by kernel_rfl) (v':=(vi r1)) (by kernel_rfl) ?_)))))
 exact ⟨0,r1,rfl,h⟩
 refine zC (zK (zA (eg (q (q2 (vb (Option.isNone p1)) (vY (by kernel_rfl) rfl underlying91) (ln ?_))))))
 refine cbr h ?_ ?_<;>intro h
 refine eg (qb (ln (er (vF (xO (.inl rfl) results111 (v:=(vi 0)) (by kernel_rfl) (v':=(vi 2)) (by kernel_rfl) ?_)))))
 exact ⟨0,2,rfl,h⟩
 refine zC (zK (eg (q (q2 (.agg #[(vi aA),(vi aB),(vu aE),(vs aC),(vb aD)]) (xa p2 [(vi aA),(vi aB),(vu aE),(vs aC),(vb aD)] (isAgg30 _) (sizeOf30 _) (hb.r0 0 5 gZ)) ?_))))
 refine sc call169 (h.mono fun e w3 ⟨aF,aG,aH,aI,aJ,aK,k,hk,h⟩=>have ⟨hs,hb⟩:=hk.hh hs hb;⟨_,k,?_⟩)
 refine sc call70 (h.mono fun e w4 ⟨r2,r3,k,hk,h⟩=>have ⟨hs,hb⟩:=hk.hh hs hb;⟨_,k,?_⟩)
 refine qd (ln (er (xO (.inl rfl) results111 (v:=(vi r2)) (by kernel_rfl) (v':=(vi r3)) (by kernel_rfl) ?_)))
 exact ⟨r2,r3,rfl,h⟩
end Go.Proofs
end
section
open Go Go.SE
namespace Go.Proofs
open Tryz
attribute [local irreducible] Calls
def jNE:Array Value:=#[.bool false,.bool false,.bool false,.string ⟨#[]⟩,.bool true,.bool true,.bool true,.string ⟨#[112,114,111,109,105,115,101]⟩,.bool true,.bool true,.bool false,.string ⟨#[115,105,103,110]⟩,.bool false,.bool false,.bool false,.string ⟨#[97,98,111,114,116]⟩,.bool true,.bool true,.bool true,.string ⟨#[114,101,115,111,108,118,101]⟩,.bool false,.bool false,.bool false,.string ⟨#[116,111,107,101,110]⟩,.bool false,.bool true,.bool false,.string ⟨#[105,110,115,116,101,97,100]⟩,.bool false,.bool false,.bool false,.string ⟨#[102,117,108,108]⟩]
theorem jKF (w:World):Calls prog 240 #[] w (fun e w'=>∃r:Array Value,e=.returned (.agg r)∧(r=jNE∧Pure w w')):=by
 refine w_S4 w (fun r w'=>r=jNE∧Pure w w') ?_;unfold m_S4;intro p1 w1 h1;have E1:Pure w w1:=Ext.new h1;have hp:=New.own (Ext.refl w) h1;have b1:=Box.of_newA h1;clear h1;refine bx 32 b1 (by kernel_rfl) (by kernel_rfl) (fun w' b E=>?_);exact ⟨jNE,⟨by kernel_rfl,b.row_eq (by kernel_rfl)⟩,rfl,E1.own hp E⟩
theorem c_chk (l:Sp.Letter) (hk:1≤l.kind∧l.kind≤7) (p:Addr) {w0 w:World} {H:NP} {wd:ByteArray} {T:TypeId} (hB:Box w p [.bool (Sp.qI l.kind),.bool (Sp.qR l.kind),.bool (l.kind == 1 || l.kind == 4),.string wd] T) (hv:¬ H p.block) (hE:Pure w0 w) :
  m_O_j1 l.frm l.text l.fake p w0 H w (fun x w'=>x=Sp.vW l∧Pure w0 w'):=by
 obtain ⟨k,f,c,x,fk⟩:=l
 simp only at *
 have vis:∀{H H':NP} {w w':World},Box w p [.bool (Sp.qI k),.bool (Sp.qR k),.bool (k == 1 || k == 4),.string wd] T→¬ H p.block→Hst w0 H w H' w'→¬ H' p.block∧Box w' p [.bool (Sp.qI k),.bool (Sp.qR k),.bool (k == 1 || k == 4),.string wd] T:=fun hB hv hs=>by
  have h:=hs.disj (G:=(·=p.block)) (fun b e=>by subst e;exact ⟨hB.lt,hv⟩) _ rfl;exact ⟨h,hB.ext hs.ext h⟩
 unfold m_O_j1
 have bad:(f≠0∧f≠1)∨(Sp.qI k=false∧f≠0)∨(Sp.qR k=false∧x≠⟨#[]⟩)∨(fk=true∧k≠1∧k≠4)→(110:Int)=Sp.vW ⟨k,f,c,x,fk⟩:=fun h=>by
  unfold Sp.vW;rw [if_pos];rcases h with h | h | h | h
  ·exact .inr (.inr (.inl h))
  ·exact .inr (.inr (.inr (.inl h)))
  ·exact .inr (.inr (.inr (.inr (.inl h))))
  ·exact .inr (.inr (.inr (.inr (.inr h))))
 refine ⟨fun hc H4 w4 hs4=>⟨bad (.inl ?_),hE.hst hs4⟩,fun hc H4 w4 hs4=>?_⟩
 ·rw [Bool.and_eq_true] at hc;exact ⟨bne_iff_ne.1 hc.1,bne_iff_ne.1 hc.2⟩
 have hf:f=0∨f=1:=by
  rw [Bool.and_eq_false_iff] at hc;exact hc.imp (fun h=>by simpa using h) (fun h=>by simpa using h)
 obtain ⟨v4,B4⟩:=vis hB hv hs4
 have E4:=hE.hst hs4
 refine ⟨_,B4.cell0,fun H8 w8 hs8=>?_⟩
 obtain ⟨v8,B8⟩:=vis B4 v4 hs8
 have E8:=E4.hst hs8
 unfold m_O_j2
 refine ⟨fun hc2=>⟨bad (.inr (.inl ?_)),E8⟩,fun hc2=>?_⟩
 ·rw [Bool.and_eq_true] at hc2;exact ⟨by simpa using hc2.1,bne_iff_ne.1 hc2.2⟩
 have hs:¬ (Sp.qI k=false∧f≠0):=fun h=>by
  rw [Bool.and_eq_false_iff] at hc2;exact hc2.elim (fun h2=>by rw [h.1] at h2;cases h2) (fun h2=>h.2 (by simpa using h2))
 refine ⟨_,B8.cell (i:=1) rfl,fun H7 w7 hs7=>?_⟩
 obtain ⟨v7,B7⟩:=vis B8 v8 hs7
 have E7:=E8.hst hs7
 unfold m_O_j3
 refine ⟨fun hc3=>⟨bad (.inr (.inr (.inl ?_))),E7⟩,fun hc3=>?_⟩
 ·rw [Bool.and_eq_true] at hc3
  exact ⟨by simpa using hc3.1,by simpa using hc3.2⟩
 have ht:¬ (Sp.qR k=false∧x≠⟨#[]⟩):=fun h=>by
  rw [Bool.and_eq_false_iff] at hc3;exact hc3.elim (fun h2=>by rw [h.1] at h2;cases h2) (fun h2=>h.2 (by simpa using h2))
 refine ⟨_,B7.cell (i:=2) rfl,fun hc4 H6 w6 hs6=>⟨bad (.inr (.inr (.inr ?_))),E7.hst hs6⟩,fun hc4=>?_⟩
 ·rw [Bool.and_eq_true] at hc4
  have h1:(k == 1 || k == 4)=false:=by simpa using hc4.1
  rw [Bool.or_eq_false_iff] at h1
  exact ⟨hc4.2,by simpa using h1.1,by simpa using h1.2⟩
 have hfk:¬ (fk=true∧k≠1∧k≠4):=fun h=>by
  rw [Bool.and_eq_false_iff] at hc4;refine hc4.elim (fun h2=>?_) (fun h2=>by rw [h.1] at h2;cases h2);have h1:(k == 1 || k == 4)=true:=by
   cases hh:(k == 1 || k == 4) with
   | true=>rfl
   | false=>rw [hh] at h2;cases h2
  rw [Bool.or_eq_true] at h1;exact h1.elim (fun h3=>h.2.1 (by simpa using h3)) (fun h3=>h.2.2 (by simpa using h3))
 have good:¬ (k<1∨k>7∨(f≠0∧f≠1)∨(Sp.qI k=false∧f≠0)∨(Sp.qR k=false∧x≠⟨#[]⟩)∨(fk=true∧k≠1∧k≠4)):=by
  rintro (h | h | h | h | h | h)
  ·omega
  ·omega
  ·omega
  ·exact hs h
  ·exact ht h
  ·exact hfk h
 refine ⟨fun hc5 H6 w6 hs6=>⟨?_,E7.hst hs6⟩,fun hc5 H6 w6 hs6=>⟨?_,E7.hst hs6⟩⟩
 ·have:=of_decide_eq_true hc5
  unfold Sp.vW;rw [if_neg good,if_pos (by simp only;omega)]
 ·have:=of_decide_eq_false hc5
  unfold Sp.vW;rw [if_neg good,if_neg (by simp only;omega)]
theorem jSF (l:Sp.Letter) (w0:World):Calls prog 168 #[.agg #[.int .i64 l.kind,.int .i64 l.frm,.int .u64 l.c,.string l.text,.bool l.fake]] w0 (fun e w'=>∃r:Int,e=.returned (.int .i64 r)∧(r=Sp.vW l∧Pure w0 w')):=by
 refine w_O _ _ _ _ _ w0 (fun r w'=>r=Sp.vW l∧Pure w0 w') ?_;unfold m_O;refine ⟨fun hc H2 w2 hs2=>⟨?_,hs2.first⟩,fun hc H2 w2 hs2=>?_⟩
 ·unfold Sp.vW;rw [if_pos];rw [Bool.or_eq_true] at hc;exact hc.elim (fun h=>.inl (of_decide_eq_true h)) (fun h=>.inr (.inl (of_decide_eq_true h)))
 have hk:1≤l.kind∧l.kind≤7:=by
  rw [Bool.or_eq_false_iff] at hc;have h1:=of_decide_eq_false hc.1;have h2:=of_decide_eq_false hc.2;omega
 have E2:Pure w0 w2:=hs2.first;have idx:∃wd:ByteArray,∀w':World,(Instr.index 311 (.agg jNE) (.int .i64 l.kind)).run prog w'=.ok (.agg #[.bool (Sp.qI l.kind),.bool (Sp.qR l.kind),.bool (l.kind == 1 || l.kind == 4),.string wd]) w':=by
  have:l.kind=1∨l.kind=2∨l.kind=3∨l.kind=4∨l.kind=5∨l.kind=6∨l.kind=7:=by omega
  rcases this with e | e | e | e | e | e | e <;> rw [e]
  ·exact ⟨⟨#[112,114,111,109,105,115,101]⟩,fun w'=>by kernel_rfl⟩
  ·exact ⟨⟨#[115,105,103,110]⟩,fun w'=>by kernel_rfl⟩
  ·exact ⟨⟨#[97,98,111,114,116]⟩,fun w'=>by kernel_rfl⟩
  ·exact ⟨⟨#[114,101,115,111,108,118,101]⟩,fun w'=>by kernel_rfl⟩
  ·exact ⟨⟨#[116,111,107,101,110]⟩,fun w'=>by kernel_rfl⟩
  ·exact ⟨⟨#[105,110,115,116,101,97,100]⟩,fun w'=>by kernel_rfl⟩
  ·exact ⟨⟨#[102,117,108,108]⟩,fun w'=>by kernel_rfl⟩
 obtain ⟨wd,idx⟩:=idx;refine ⟨fun _=>True,trivial,?_⟩;rintro w9 e9;have E9:Pure w2 w9:=by rw [e9];exact Ext.drew w2
 have hH:∀b,H2 b→b<w9.heap.size:=fun b hb=>by have:=hs2.lt b hb;have:=E9.size;omega
 refine ⟨?_,?_⟩
 ·refine (jKF w9).mono ?_;rintro _ w10 ⟨_,rfl,rfl,E10⟩;refine ⟨_,rfl,trivial,E10.keptP,_,_,_,_,fun w' _=>idx w',?_⟩;intro p2 w11 n11;have b11:=n11.at_size;have z10:=E10.size;have hv:¬ H2 p2.block:=fun hh=>by have:=hH _ hh;omega
  refine ⟨trivial,(Box.of_newA n11).canWs (by simp),hv,?_⟩;rintro w12 e12;have X:Ext (·=p2.block) w11 w12:=by rw [e12];exact Ext.storeRow _ _ _
  have B:Box w12 p2 [.bool (Sp.qI l.kind),.bool (Sp.qR l.kind),.bool (l.kind == 1 || l.kind == 4),.string wd] 310:=by rw [e12];exact (Box.of_newA n11).store rfl
  have z2:=E2.size;have z9:=E9.size;exact c_chk l hk p2 B hv ((((E2.trans E9).trans E10).trans (Ext.new n11)).own (by omega) X)
 ·intro p3 w13 n13;refine ⟨trivial,?_⟩;have b13:=n13.at_size;have E13:Pure w9 w13:=Ext.new n13;have hv:¬ H2 p3.block:=fun hh=>by have:=hH _ hh;omega
  refine (jKF w13).mono ?_;rintro _ w14 ⟨_,rfl,rfl,E14⟩;have B14:=(Box.of_newA n13).pure E14;refine ⟨_,rfl,trivial,E14.keptP,_,_,_,_,fun w' _=>idx w',B14.canWs (by simp),hv,?_⟩;rintro w15 e15;have X:Ext (·=p3.block) w14 w15:=by rw [e15];exact Ext.storeRow _ _ _
  have B:Box w15 p3 [.bool (Sp.qI l.kind),.bool (Sp.qR l.kind),.bool (l.kind == 1 || l.kind == 4),.string wd] 310:=by rw [e15];exact B14.store rfl
  have z2:=E2.size;have z9:=E9.size;exact c_chk l hk p3 B hv ((((E2.trans E9).trans E13).trans E14).own (by omega) X)
abbrev RetS (S:NP) (w:World) (T:Sp.Tree) (e:Ending) (w':World):Prop:=∃s,e=.returned (.agg (xN T s).toArray)∧TreeAt S w' s T∧Pure w w'
theorem jBK {S:NP} (w:World) {A:Sp.Tree} {sa:Sl} {H3:NP} {w3 w4 w5:World} {p:Addr} {o:Obj} (hA:TreeAt S w sa A) (hs3:Hst w None w H3 w3) (n4:New w3 o p w4) (hs5:Hst w H3 w4 H3 w5):TreeAt S w5 sa A:=by
 have E3:Pure w w3:=hs3.first;have E4:Pure w3 w4:=Ext.new n4;exact (((hA.lt.pure E3).pure E4).ext hs5.ext (fun b hb hh=>by have:=hs3.old b hh;omega)).mono (fun b hb=>hb.1)
section
variable {S:NP} (w:World) (hS:∀b,w.heap.size≤b→S b)
include hS
theorem lG (A B:Sp.Tree) (sa sb:Sl) (hA:TreeAt S w sa A) (hB:TreeAt S w sb B):Calls prog 244 #[.agg (xN A sa).toArray,.agg (xN B sb).toArray] w (RetS S w (Sp.qJ A B)):=by
 obtain ⟨k,f,t,u,x,ks⟩:=A;obtain ⟨k2,f2,t2,u2,x2,ks2⟩:=B;refine (w_T4 k f t u x sa k2 f2 t2 u2 x2 sb w (fun k' f' t' u' y s w'=>(⟨k',f',t',u',y,0,0⟩:Sp.Node)=(Sp.qJ (.mk k f t u x ks) (.mk k2 f2 t2 u2 x2 ks2)).node∧TreeAt S w' s (Sp.qJ (.mk k f t u x ks) (.mk k2 f2 t2 u2 x2 ks2))∧Pure w w') ?_).mono ?_
 ·unfold m_T4;intro H3 w3 hs3 p4 w4 n4 w5 hs5;have b4:=n4.at_size;have z3:=hs3.first.size;have B4:Box w4 p4 (xN (.mk k f t u x ks) sa++xN (.mk k2 f2 t2 u2 x2 ks2) sb) 76:=Box.of_newA n4;exact ⟨rfl,TreeAt.pair (B4.ext hs5.ext (fun hh=>by have:=hs3.lt _ hh;omega)) (hS _ (by omega)) (jBK w hA hs3 n4 hs5) (jBK w hB hs3 n4 hs5),(hs3.first.trans (Ext.new n4)).hst hs5⟩
 ·rintro _ w' ⟨k,f,t,u,y,s,rfl,hn,hT,E⟩;cases hn;exact ⟨s,rfl,hT,E⟩
theorem jCH (n:Int) (A:Sp.Tree) (sa:Sl) (hA:TreeAt S w sa A):Calls prog 243 #[.int .i64 n,.agg (xN A sa).toArray] w (RetS S w (Sp.yH n A)):=by
 obtain ⟨k,f,t,u,x,ks⟩:=A;refine (w_W4 n k f t u x sa w (fun k' f' t' u' y s w'=>(⟨k',f',t',u',y,0,0⟩:Sp.Node)=(Sp.yH n (.mk k f t u x ks)).node∧TreeAt S w' s (Sp.yH n (.mk k f t u x ks))∧Pure w w') ?_).mono ?_
 ·unfold m_W4;intro H3 w3 hs3 p4 w4 n4 w5 hs5;have b4:=n4.at_size;have z3:=hs3.first.size;have B4:Box w4 p4 (xN (.mk k f t u x ks) sa) 76:=Box.of_newA n4;exact ⟨rfl,TreeAt.one (B4.ext hs5.ext (fun hh=>by have:=hs3.lt _ hh;omega)) (hS _ (by omega)) (jBK w hA hs3 n4 hs5),(hs3.first.trans (Ext.new n4)).hst hs5⟩
 ·rintro _ w' ⟨k,f,t,u,y,s,rfl,hn,hT,E⟩;cases hn;exact ⟨s,rfl,hT,E⟩
theorem jBB (n:Int) (hn:n=0∨n=1) (fk:Bool) (A:Sp.Tree) (sa:Sl) (hA:TreeAt S w sa A):Calls prog 242 #[.int .i64 n,.bool fk,.agg (xN A sa).toArray] w (RetS S w (Sp.qZ n A fk)):=by
 obtain ⟨k,f,t,u,x,ks⟩:=A;refine (w_V4 n fk k f t u x sa w (fun k' f' t' u' y s w'=>(⟨k',f',t',u',y,0,0⟩:Sp.Node)=(Sp.qZ n (.mk k f t u x ks) fk).node∧TreeAt S w' s (Sp.qZ n (.mk k f t u x ks) fk)∧Pure w w') ?_).mono ?_
 ·unfold m_V4;intro H3 w3 hs3 p4 w4 n4 w5 hs5;have b4:=n4.at_size;have z3:=hs3.first.size;have B4:Box w4 p4 (xN (.mk k f t u x ks) sa) 76:=Box.of_newA n4;refine ⟨?_,TreeAt.one (B4.ext hs5.ext (fun hh=>by have:=hs3.lt _ hh;omega)) (hS _ (by omega)) (jBK w hA hs3 n4 hs5),(hs3.first.trans (Ext.new n4)).hst hs5⟩;have:IntKind.i64.wrap (1 - n)=1 - n:=IntWalk.i64_in _ (by omega);rw [this];cases fk <;> rfl
 ·rintro _ w' ⟨k,f,t,u,y,s,rfl,hn,hT,E⟩;cases hn;exact ⟨s,rfl,hT,E⟩
theorem jUM (c:Int) (x:ByteArray):Calls prog 241 #[.int .u64 c,.string x] w (RetS S w (Sp.qF c x)):=by
 refine (w_U4 c x w (fun k f t u y s w'=>(⟨k,f,t,u,y,0,0⟩:Sp.Node)=(Sp.qF c x).node∧TreeAt S w' s (Sp.qF c x)∧Pure w w') ?_).mono ?_
 ·unfold m_U4;intro H1 w4 hs4;have E4:Pure w w4:=hs4.first;have z4:=E4.size;have hH:∀b,H1 b→b<w4.heap.size:=fun b hb=>hs4.lt b hb;refine (lG (S:=(w4.heap.size≤·)) w4 (fun _ h=>h) (Sp.jAT c) (Sp.qG x) Sl.nil Sl.nil TreeAt.leaf TreeAt.leaf).mono ?_;rintro _ w5 ⟨s5,rfl,hT5,E5⟩;refine ⟨_,_,_,_,_,s5,rfl,E5.keptP,?_⟩;refine (lG (S:=(w4.heap.size≤·)) w5 (fun b h=>by have:=E5.size;show w4.heap.size≤b;omega) (Sp.qG Sp.jPU) (Sp.qJ (Sp.jAT c) (Sp.qG x)) Sl.nil s5 TreeAt.leaf hT5).mono ?_;rintro _ w6 ⟨s6,rfl,hT6,E6⟩;refine ⟨_,_,_,_,_,s6,rfl,E6.keptP,fun w7 hs7=>⟨rfl,?_,((E4.trans E5).trans E6).hst hs7⟩⟩;exact (hT6.ext hs7.ext (fun b hb hh=>by have:=hH b hh;have:w4.heap.size≤b:=hb;omega)).mono (fun b hb=>hS b (by have:w4.heap.size≤b:=hb;omega))
 ·rintro _ w' ⟨k,f,t,u,y,s,rfl,hn,hT,E⟩;cases hn;exact ⟨s,rfl,hT,E⟩
end
theorem jUL (l:Sp.Letter) (hf:l.frm=0∨l.frm=1) (w0:World):Calls prog 169 #[.agg #[.int .i64 l.kind,.int .i64 l.frm,.int .u64 l.c,.string l.text,.bool l.fake]] w0 (RetS (w0.heap.size≤·) w0 (Sp.vA l true true)):=by
 obtain ⟨kd,f,c,x,fk⟩:=l;simp only at hf;generalize hR:Sp.vA ⟨kd,f,c,x,fk⟩ true true=R;refine (w_X4 kd f c x fk w0 (fun k f t u y s w'=>(⟨k,f,t,u,y,0,0⟩:Sp.Node)=R.node∧TreeAt (w0.heap.size≤·) w' s R∧Pure w0 w') ?_).mono ?_
 ·unfold m_X4;intro H2 w2 hs2;have E2:Pure w0 w2:=hs2.first;have z2:=E2.size;refine (jUM (S:=(w2.heap.size≤·)) w2 (fun _ h=>h) c x).mono ?_;rintro _ w3 ⟨sd,rfl,hT3,E3⟩;refine ⟨_,_,_,_,_,sd,rfl,E3.keptP,?_⟩;have z3:=E3.size;have go:∀{H3:NP} {w5:World},Hst w0 H2 w3 H3 w5→TreeAt (fun b=>w0.heap.size≤b∧¬ H3 b) w5 sd (Sp.qF c x)∧Pure w0 w5∧(∀w:World,w5.heap.size≤w.heap.size→∀b,w.heap.size≤b→w0.heap.size≤b∧¬ H3 b):=fun {H3 w5} hs=>by
   have hd:∀b,(w2.heap.size≤b∧b<w3.heap.size)→¬ H3 b:=hs.disj (fun b hb=>⟨hb.2,fun hh=>by have:=hs2.lt b hh;omega⟩);refine ⟨(hT3.lt.ext hs.ext (fun b hb=>hd b hb)).mono (fun b hb=>⟨by have:=hb.1;omega,hd b hb⟩),(E2.trans E3).hst hs,fun w hw b hb=>⟨by have:=hs.ext.size;omega,fun hh=>by have:=hs.lt b hh;omega⟩⟩
  have fin:∀{H3:NP} {wa wb:World} {s:Sl} {T:Sp.Tree},TreeAt (fun b=>w0.heap.size≤b∧¬ H3 b) wa s T→Pure w0 wa→Hst w0 H3 wa H3 wb→T=R→R.node=R.node∧TreeAt (w0.heap.size≤·) wb s R∧Pure w0 wb:=fun {H3 wa wb s T} h E hs e=>by
   subst e;exact ⟨rfl,(h.ext hs.ext (fun b hb=>hb.2)).mono (fun b hb=>hb.1),E.hst hs⟩
  have fin2:∀{H3:NP} {wa wb:World} {s:Sl} {T:Sp.Tree},TreeAt (fun b=>w0.heap.size≤b∧¬ H3 b) wa s T→Pure w0 wa→Hst w0 H3 wa H3 wb→R=T→(⟨T.node.kind,T.node.frm,T.node.to,T.node.num,T.node.text,0,0⟩:Sp.Node)=R.node∧TreeAt (w0.heap.size≤·) wb s R∧Pure w0 wb:=fun {H3 wa wb s T} h E hs e=>by
   subst e;refine ⟨?_,(fin h E hs rfl).2⟩;cases R;rfl
  refine ⟨fun hk H3 w5 hs5=>?_,fun h1=>⟨fun hk H3 w5 hs5=>?_,fun h2=>⟨fun hk H3 w5 hs5=>?_,fun h3=>⟨fun hk H3 w5 hs5=>?_,fun h4=>⟨fun hk H3 w5 hs5=>?_,fun h5=>⟨fun hk H3 w5 hs5=>?_,fun h6 H3 w5 hs5=>?_⟩⟩⟩⟩⟩⟩
  ·have hk:=beq_iff_eq.1 hk;obtain ⟨hD,E5,hS⟩:=go hs5;refine (jBB w5 (hS w5 (Nat.le_refl _)) f hf fk _ sd hD).mono ?_;rintro _ w6 ⟨s6,rfl,hT6,E6⟩;refine ⟨_,_,_,_,_,s6,rfl,E6.keptP,fun w7 hs7=>fin2 hT6 (E5.trans E6) hs7 ?_⟩;rw [← hR];unfold Sp.vA;rw [if_pos hk]
  ·have hk:=beq_iff_eq.1 hk;obtain ⟨hD,E5,hS⟩:=go hs5;refine (jCH w5 (hS w5 (Nat.le_refl _)) f _ sd hD).mono ?_;rintro _ w6 ⟨s6,rfl,hT6,E6⟩;refine ⟨_,_,_,_,_,s6,rfl,E6.keptP,fun w7 hs7=>fin2 hT6 (E5.trans E6) hs7 ?_⟩;rw [← hR];unfold Sp.vA;rw [if_neg (fun e=>beq_eq_false_iff_ne.1 h1 e),if_pos hk]
  ·have hk:=beq_iff_eq.1 hk;obtain ⟨hD,E5,hS⟩:=go hs5;refine ⟨fun _=>True,trivial,?_⟩;rintro w10 e10;have E10:Pure w5 w10:=by rw [e10];exact Ext.drew w5
   refine (p_V _ w10).mono ?_;rintro _ w11 ⟨rfl,E11⟩;refine ⟨_,_,_,_,_,_,rfl,trivial,E11.keptP,?_⟩;refine (p_Z _ w11).mono ?_;rintro _ w12 ⟨rfl,E12⟩;refine ⟨_,_,_,_,_,_,rfl,E12.keptP,?_⟩;have z12:=((E10.trans E11).trans E12).size;refine (lG w12 (hS w12 z12) (Sp.qG Sp.jFT) (Sp.jAT c) Sl.nil Sl.nil TreeAt.leaf TreeAt.leaf).mono ?_;rintro _ w13 ⟨s13,rfl,hT13,E13⟩;refine ⟨_,_,_,_,_,s13,rfl,E13.keptP,?_⟩;refine (jCH w13 (hS w13 (by have:=E13.size;omega)) 0 _ s13 hT13).mono ?_;rintro _ w14 ⟨s14,rfl,hT14,E14⟩;refine ⟨_,_,_,_,_,s14,rfl,E14.keptP,fun w15 hs15=>fin2 hT14 (((((E5.trans E10).trans E11).trans E12).trans E13).trans E14) hs15 ?_⟩;rw [← hR];unfold Sp.vA;rw [if_neg (fun e=>beq_eq_false_iff_ne.1 h1 e),if_neg (fun e=>beq_eq_false_iff_ne.1 h2 e),if_pos hk]
  ·have hk:=beq_iff_eq.1 hk;obtain ⟨hD,E5,hS⟩:=go hs5;refine ⟨fun _=>True,trivial,?_⟩;rintro w16 e16;have E16:Pure w5 w16:=by rw [e16];exact Ext.drew w5
   refine (p_V _ w16).mono ?_;rintro _ w17 ⟨rfl,E17⟩;refine ⟨_,_,_,_,_,_,rfl,trivial,E17.keptP,?_⟩;have E57:=E16.trans E17;refine (jBB w17 (hS w17 E57.size) 0 (.inl rfl) fk _ sd (hD.pure E57)).mono ?_;rintro _ w18 ⟨s18,rfl,hT18,E18⟩;refine ⟨_,_,_,_,_,s18,rfl,trivial,E18.keptP,?_⟩;have E58:=E57.trans E18;refine (jBB w18 (hS w18 E58.size) 1 (.inr rfl) fk _ sd (hD.pure E58)).mono ?_;rintro _ w19 ⟨s19,rfl,hT19,E19⟩;refine ⟨_,_,_,_,_,s19,rfl,trivial,E19.keptP,?_⟩;have E59:=E58.trans E19;refine (lG w19 (hS w19 E59.size) _ _ s18 s19 (hT18.pure E19) hT19).mono ?_;rintro _ w20 ⟨s20,rfl,hT20,E20⟩;refine ⟨_,_,_,_,_,s20,rfl,trivial,E20.keptP,?_⟩;have E510:=E59.trans E20;refine (lG w20 (hS w20 E510.size) (Sp.qG Sp.tE) _ Sl.nil s20 TreeAt.leaf hT20).mono ?_;rintro _ w21 ⟨s21,rfl,hT21,E21⟩;refine ⟨_,_,_,_,_,s21,rfl,trivial,E21.keptP,?_⟩;have E511:=E510.trans E21;refine (jCH w21 (hS w21 E511.size) f _ s21 hT21).mono ?_;rintro _ w22 ⟨s22,rfl,hT22,E22⟩;refine ⟨_,_,_,_,_,s22,rfl,E22.keptP,fun w23 hs23=>fin2 hT22 ((E5.trans E511).trans E22) hs23 ?_⟩;rw [← hR];unfold Sp.vA;rw [if_neg (fun e=>beq_eq_false_iff_ne.1 h1 e),if_neg (fun e=>beq_eq_false_iff_ne.1 h2 e),if_neg (fun e=>beq_eq_false_iff_ne.1 h3 e),if_pos hk];simp only [Bool.and_true]
  ·have hk:=beq_iff_eq.1 hk;obtain ⟨hD,E5,hS⟩:=go hs5;refine ⟨fun _=>True,trivial,?_⟩;rintro w10 e10;have E10:Pure w5 w10:=by rw [e10];exact Ext.drew w5
   refine (p_V _ w10).mono ?_;rintro _ w11 ⟨rfl,E11⟩;refine ⟨_,_,_,_,_,_,rfl,trivial,E11.keptP,?_⟩;refine (p_Z _ w11).mono ?_;rintro _ w12 ⟨rfl,E12⟩;refine ⟨_,_,_,_,_,_,rfl,E12.keptP,?_⟩;have z12:=((E10.trans E11).trans E12).size;refine (lG w12 (hS w12 z12) (Sp.qG Sp.jAC) (Sp.jAT c) Sl.nil Sl.nil TreeAt.leaf TreeAt.leaf).mono ?_;rintro _ w13 ⟨s13,rfl,hT13,E13⟩;refine ⟨_,_,_,_,_,s13,rfl,E13.keptP,?_⟩;refine (jCH w13 (hS w13 (by have:=E13.size;omega)) 2 _ s13 hT13).mono ?_;rintro _ w14 ⟨s14,rfl,hT14,E14⟩;refine ⟨_,_,_,_,_,s14,rfl,E14.keptP,fun w15 hs15=>fin2 hT14 (((((E5.trans E10).trans E11).trans E12).trans E13).trans E14) hs15 ?_⟩;rw [← hR];unfold Sp.vA;rw [if_neg (fun e=>beq_eq_false_iff_ne.1 h1 e),if_neg (fun e=>beq_eq_false_iff_ne.1 h2 e),if_neg (fun e=>beq_eq_false_iff_ne.1 h3 e),if_neg (fun e=>beq_eq_false_iff_ne.1 h4 e),if_pos hk]
  ·have hk:=beq_iff_eq.1 hk;obtain ⟨hD,E5,hS⟩:=go hs5;refine ⟨fun _=>True,trivial,?_⟩;rintro w10 e10;have E10:Pure w5 w10:=by rw [e10];exact Ext.drew w5
   refine (p_V _ w10).mono ?_;rintro _ w11 ⟨rfl,E11⟩;refine ⟨_,_,_,_,_,_,rfl,trivial,E11.keptP,?_⟩;have z11:=(E10.trans E11).size;refine (lG w11 (hS w11 z11) (Sp.qG Sp.jAB) _ Sl.nil sd TreeAt.leaf (hD.pure (E10.trans E11))).mono ?_;rintro _ w13 ⟨s13,rfl,hT13,E13⟩;refine ⟨_,_,_,_,_,s13,rfl,E13.keptP,?_⟩;refine (jCH w13 (hS w13 (by have:=E13.size;omega)) 2 _ s13 hT13).mono ?_;rintro _ w14 ⟨s14,rfl,hT14,E14⟩;refine ⟨_,_,_,_,_,s14,rfl,E14.keptP,fun w15 hs15=>fin2 hT14 ((((E5.trans E10).trans E11).trans E13).trans E14) hs15 ?_⟩;rw [← hR];unfold Sp.vA;rw [if_neg (fun e=>beq_eq_false_iff_ne.1 h1 e),if_neg (fun e=>beq_eq_false_iff_ne.1 h2 e),if_neg (fun e=>beq_eq_false_iff_ne.1 h3 e),if_neg (fun e=>beq_eq_false_iff_ne.1 h4 e),if_neg (fun e=>beq_eq_false_iff_ne.1 h5 e),if_pos hk]
  ·obtain ⟨hD,E5,hS⟩:=go hs5;refine ⟨fun _=>True,trivial,?_⟩;rintro w10 e10;have E10:Pure w5 w10:=by rw [e10];exact Ext.drew w5
   refine (p_V _ w10).mono ?_;rintro _ w11 ⟨rfl,E11⟩;refine ⟨_,_,_,_,_,_,rfl,trivial,E11.keptP,?_⟩;refine (p_Z _ w11).mono ?_;rintro _ w12 ⟨rfl,E12⟩;refine ⟨_,_,_,_,_,_,rfl,E12.keptP,?_⟩;have z12:=((E10.trans E11).trans E12).size;refine (lG w12 (hS w12 z12) (Sp.qG Sp.jPT) (Sp.jAT c) Sl.nil Sl.nil TreeAt.leaf TreeAt.leaf).mono ?_;rintro _ w13 ⟨s13,rfl,hT13,E13⟩;refine ⟨_,_,_,_,_,s13,rfl,E13.keptP,fun w15 hs15=>fin2 hT13 ((((E5.trans E10).trans E11).trans E12).trans E13) hs15 ?_⟩;rw [← hR];unfold Sp.vA;rw [if_neg (fun e=>beq_eq_false_iff_ne.1 h1 e),if_neg (fun e=>beq_eq_false_iff_ne.1 h2 e),if_neg (fun e=>beq_eq_false_iff_ne.1 h3 e),if_neg (fun e=>beq_eq_false_iff_ne.1 h4 e),if_neg (fun e=>beq_eq_false_iff_ne.1 h5 e),if_neg (fun e=>beq_eq_false_iff_ne.1 h6 e)]
 ·rintro _ w' ⟨k,f,t,u,y,s,rfl,hn,hT,E⟩;obtain ⟨k2,f2,t2,u2,x2,ks⟩:=R;cases hn;exact ⟨s,rfl,hT,E⟩
theorem jGG {l:Sp.Letter} (h:Sp.vW l=0):l.frm=0∨l.frm=1:=by
 unfold Sp.vW at h;split at h
 ·cases h
 ·rename_i h1;simp only [not_or] at h1;have:=h1.2.2.1;by_cases h0:l.frm=0
  ·exact .inl h0
  ·exact .inr (Classical.byContradiction (fun h2=>this ⟨h0,h2⟩))
def zU (L:Sp.Pool) (l:Sp.Letter):Int×Int×Sp.Pool:=if Sp.vW l≠0 then (0,Sp.vW l,L) else Sp.of L (Sp.vA l true true)
theorem jWO (p:Addr) (l:Sp.Letter) (w0:World) {L:Sp.Pool} {F:NP} (hP:zR w0 p L F) (hok:Sp.Ok L) :
  Calls prog 111 #[.pointer (some p),.agg #[.int .i64 l.kind,.int .i64 l.frm,.int .u64 l.c,.string l.text,.bool l.fake]] w0 (fun e w'=>∃r1 r2:Int,e=.returned (.tuple #[.int .i64 r1,.int .i64 r2])∧(r1=(zU L l).1∧r2=(zU L l).2.1∧∃F',zR w' p (zU L l).2.2 F'∧Ext F w0 w'∧∀b,F' b→F b∨w0.heap.size≤b)):=by
 refine w_Y4 (some p) l.kind l.frm l.c l.text l.fake w0 (fun r1 r2 w'=>r1=(zU L l).1∧r2=(zU L l).2.1∧∃F',zR w' p (zU L l).2.2 F'∧Ext F w0 w'∧∀b,F' b→F b∨w0.heap.size≤b) ?_
 unfold m_Y4
 intro H1 w1 hs1
 have E1:Pure w0 w1:=hs1.first
 have hF:∀b,F b→b<w0.heap.size:=fun b hb=>hP.lt hb
 refine (jSF l w1).mono ?_
 rintro _ w2 ⟨_,rfl,rfl,E2⟩
 have E02:=E1.trans E2
 refine ⟨_,rfl,E2.keptP,fun hc=>?_,fun hc=>⟨fun h=>(by cases h),fun _=>?_⟩⟩
 ·have hc:=bne_iff_ne.1 hc
  have e:zU L l=(0,Sp.vW l,L):=by unfold zU;rw [if_pos hc]
  rw [e];exact ⟨rfl,rfl,F,hP.pure E02,Ext.pure E02,fun b hb=>.inl hb⟩
 ·have hc:Sp.vW l=0:=by simpa using hc
  have e:zU L l=Sp.of L (Sp.vA l true true):=by unfold zU;rw [if_neg (by simpa using hc)]
  rw [e]
  refine (jUL l (jGG hc) w2).mono ?_
  rintro _ w3 ⟨s3,he,hT3,E3⟩
  generalize Sp.vA l true true=T at *
  obtain ⟨tk,tf,tt,tu,tx,tks⟩:=T
  have he:_=Ending.returned (.agg #[.int .i64 tk,.int .i64 tf,.int .i64 tt,.int .u64 tu,.string tx,s3.v]):=he
  refine ⟨tk,tf,tt,tu,tx,s3,he,E3.keptP,?_⟩
  have E03:=E02.trans E3
  refine (c_Of (S:=fun b=>w2.heap.size≤b∧b<w3.heap.size) p (.mk tk tf tt tu tx tks) s3 w3 hT3.lt (hP.pure E03) hok (fun b hb hh=>by have:=hF b hb;have:=E02.size;omega) (fun b hb=>hb.2)).mono ?_
  rintro _ w4 ⟨r1,r2,rfl,h12,F',hP4,X4,hF4⟩
  obtain ⟨e1,e2⟩:=Prod.mk.inj h12
  refine ⟨r1,r2,rfl,X4.kept (fun b hb hh=>by have:=hs1.old b hb;have:=hF b hh;omega),e1,e2,F',hP4,(Ext.pure E03).trans X4,fun b hb=>(hF4 b hb).imp id (fun h=>by have:=E03.size;omega)⟩
end Go.Proofs
end
section
open Go Go.SE
namespace Go.Proofs
attribute [local irreducible] Calls CallsD
structure LaySep (p2 p3 p4 p6:Addr) (m mb:Nat) (FP F:NP) (B:Nat):Prop where
 lt:p2.block<B∧p3.block<B∧p4.block<B∧p6.block<B∧m<B∧mb<B
 lF:∀b,F b→b<B
 lP:∀b,FP b→b<B
 d3:p2.block≠p3.block∧p4.block≠p3.block∧p6.block≠p3.block∧mb≠p3.block∧m≠p3.block∧¬ F p3.block∧¬ FP p3.block
 db:p2.block≠mb∧p4.block≠mb∧p6.block≠mb∧m≠mb∧¬ F mb∧¬ FP mb
def LayV (p2 p3 p4 p6:Addr) (m mb:Nat) (FP F:NP) (s:Sl) (b:Nat):Prop :=
 b=p2.block∨b=p3.block∨b=p4.block∨b=p6.block∨b=m∨b=mb∨F b∨FP b∨s.blk b
structure LayAt (A:World) (p p2 p3 p4 p6:Addr) (m mb:Nat) (L:Sp.Pool) (FP F:NP) (s:Sl) (bs:List UInt8) (M:List (Int×Int)):Prop where
 b2:Box A p2 [.pointer (some p)] 91
 b3:Box A p3 [s.v] 65
 b4:Box A p4 [.map (some m)] 230
 b6:Box A p6 [.map (some mb)] 245
 rows:Rws A 5 1 s (byr bs)
 nums:IMap (fun i:Int=>.int .i64 i) A mb M
 kinds:Kinds A m F
 pool:zR A p L FP
section
variable {A A':World} {p p2 p3 p4 p6:Addr} {m mb B:Nat} {L:Sp.Pool} {FP F G:NP} {s s':Sl} {bs bs':List UInt8} {M:List (Int×Int)}
theorem LayAt.ext (h:LayAt A p p2 p3 p4 p6 m mb L FP F s bs M) (E:Ext G A A') (hG:∀b,LayV p2 p3 p4 p6 m mb FP F s b→¬ G b):LayAt A' p p2 p3 p4 p6 m mb L FP F s bs M :=
 ⟨h.b2.ext E (hG _ (.inl rfl)),h.b3.ext E (hG _ (.inr (.inl rfl))),h.b4.ext E (hG _ (.inr (.inr (.inl rfl)))),h.b6.ext E (hG _ (.inr (.inr (.inr (.inl rfl))))),
 h.rows.ext E (fun b hb=>hG b (.inr (.inr (.inr (.inr (.inr (.inr (.inr (.inr hb))))))))),h.nums.ext E (hG _ (.inr (.inr (.inr (.inr (.inr (.inl rfl))))))),
 h.kinds.ext E (fun b hb=>hb.elim (fun hb=>hG b (.inr (.inr (.inr (.inr (.inr (.inr (.inl hb)))))))) (fun e=>hG b (.inr (.inr (.inr (.inr (.inl e))))))),
 h.pool.ext E (fun b hb=>hG b (.inr (.inr (.inr (.inr (.inr (.inr (.inr (.inl hb)))))))))⟩
theorem LayAt.pure (h:LayAt A p p2 p3 p4 p6 m mb L FP F s bs M) (E:Pure A A'):LayAt A' p p2 p3 p4 p6 m mb L FP F s bs M:=h.ext E (fun _ _ h=>h)
theorem LayAt.lt (h:LayAt A p p2 p3 p4 p6 m mb L FP F s bs M) {b:Nat} (hb:LayV p2 p3 p4 p6 m mb FP F s b):b<A.heap.size:=by
 rcases hb with rfl | rfl | rfl | rfl | rfl | rfl | hb | hb | hb
 ·exact h.b2.lt
 ·exact h.b3.lt
 ·exact h.b4.lt
 ·exact h.b6.lt
 ·exact h.kinds.mlt
 ·exact h.nums.lt
 ·exact h.kinds.lt _ hb
 ·exact h.pool.lt hb
 ·exact h.rows.lt hb
theorem LayAt.put (h:LayAt A p p2 p3 p4 p6 m mb L FP F s bs M) (S:LaySep p2 p3 p4 p6 m mb FP F B) (hs:∀b,s.blk b→B≤b) (hs':∀b,s'.blk b→B≤b) (E:Ext s.blk A A') (hR:Rws A' 5 1 s' (byr bs')) :
  LayAt (A'.setCell p3 s'.v) p p2 p3 p4 p6 m mb L FP F s' bs' M∧Ext (fun b=>s.blk b∨b=p3.block) A (A'.setCell p3 s'.v):=by
 have E2:Ext (·=p3.block) A' (A'.setCell p3 s'.v):=Ext.setCell p3 _
 have EE:Ext (fun b=>s.blk b∨b=p3.block) A (A'.setCell p3 s'.v):=(E.mono (fun b _ h=>.inl h)).trans (E2.mono (fun b _ h=>.inr h))
 obtain ⟨l2,l3,l4,l6,lm,lb⟩:=S.lt
 obtain ⟨d2,d4,d6,d7,d8,d9,d10⟩:=S.d3
 have ns:∀b,b<B→¬ s.blk b:=fun b hb hh=>by have:=hs b hh;omega
 have b3:=(h.b3.ext E (ns _ l3)).set0 (v:=s'.v)
 refine ⟨⟨h.b2.ext EE ?_,b3,h.b4.ext EE ?_,h.b6.ext EE ?_,hR.ext E2 (fun b hb e=>by have:=hs' b hb;omega),h.nums.ext EE ?_,h.kinds.ext EE ?_,h.pool.ext EE ?_⟩,EE⟩
 ·rintro (hh | hh)
  ·exact ns _ l2 hh
  ·exact d2 hh
 ·rintro (hh | hh)
  ·exact ns _ l4 hh
  ·exact d4 hh
 ·rintro (hh | hh)
  ·exact ns _ l6 hh
  ·exact d6 hh
 ·rintro (hh | hh)
  ·exact ns _ lb hh
  ·exact d7 hh
 ·rintro b (hb | rfl) (hh | hh)
  ·exact ns _ (S.lF b hb) hh
  ·subst hh;exact d9 hb
  ·exact ns _ lm hh
  ·exact d8 hh
 ·rintro b hb (hh | hh)
  ·exact ns _ (S.lP b hb) hh
  ·subst hh;exact d10 hb
end
end Go.Proofs
end
section
open Go Go.SE
namespace Go.Proofs
open Tryz
attribute [local irreducible] Calls
theorem jSZ:SlType prog 199 4 1 1:=by
 refine ⟨underlying199,⟨t4,_,by kernel_rfl,(by kernel_rfl:t4.zero=some (.bool false)),by kernel_rfl,by kernel_rfl,rfl⟩,by omega⟩
theorem jPK:∀i z,prog.info? 4=some i→i.zero=some z→z.cells=#[Value.bool false]:=by
 intro i z hi hz;have h1:prog.info? 4=some t4:=by kernel_rfl
 rw [h1] at hi;cases hi;have h2:t4.zero=some (.bool false):=by kernel_rfl
 rw [h2] at hz;cases hz;rfl
def brw (n:Nat) (V:Int→Bool):List (List Value):=(List.range n).map fun i:Nat=>[Value.bool (V (i:Int))]
theorem jIA (n:Nat) (V:Int→Bool):(brw n V).length=n:=by simp [brw]
theorem jSM (n:Nat):List.replicate n [Value.bool false]=brw n (fun _=>false):=by
 unfold brw;rw [List.map_const',List.length_range]
theorem jWP (n:Nat) (V:Int→Bool) (t:Nat) (b:Bool):(brw n V).set t [.bool b]=brw n (Sp.upd V (t:Int) b):=by
 apply List.ext_getElem?;intro i;rw [List.getElem?_set];by_cases h:t=i
 ·subst h;rw [if_pos rfl];by_cases hl:t<n
  ·simp [brw,hl,Sp.upd]
  ·simp [brw,hl]
 ·rw [if_neg h];by_cases hl:i<n
  ·simp [brw,hl,Sp.upd,show ¬ (i:Int)=t by omega]
  ·simp [brw,hl]
section
variable {w w':World} {e:TypeId} {s:Sl} {n:Nat} {V:Int→Bool}
theorem jWR (h:Rws w e 1 s (brw n V)) {t:Int} (h0:0≤t) (ht:t<n):∃a,At s t 1 a∧s.blk a.block∧w.cell? a=some (.bool (V t)):=by
 obtain ⟨a,h1,h2,h3⟩:=h.at h0 (by rw [jIA];omega);refine ⟨a,h1,h3,?_⟩;have:(brw n V)[t.toNat]'(by rw [jIA];omega)=[Value.bool (V t)]:=by
  simp only [brw,List.getElem_map,List.getElem_range];rw [show ((t.toNat:Nat):Int)=t by omega]
 rw [this] at h2;exact jBS h2
theorem jWQ (h:Rws w e 1 s (brw n V)) {t:Int} (h0:0≤t) (ht:t<n):∃a,At s t 1 a∧s.blk a.block∧CanW w a∧∀b,Rws (w.setCell a (.bool b)) e 1 s (brw n (Sp.upd V t b))∧Ext s.blk w (w.setCell a (.bool b)):=by
 have hset:∀b:Bool,∃a,At s t 1 a∧(∀j,j<1→CanW w (a.add j))∧∀w',w'=storeRow w a [Value.bool b]→Rws w' e 1 s ((brw n V).set t.toNat [.bool b])∧Ext s.blk w w':=fun b=>h.set (i:=t.toNat) (by rw [jIA];omega) rfl (by omega);obtain ⟨a,hat,hw,_⟩:=hset true;obtain ⟨a',h1,_,hblk⟩:=h.at h0 (by rw [jIA];omega);have same:∀{x:Addr},At s t 1 x→x=a:=fun hx=>by
  obtain ⟨_,_,b1,hb1,rfl⟩:=hx;obtain ⟨_,_,b2,hb2,rfl⟩:=hat;rw [hb1] at hb2;cases hb2;rfl
 have h00:a.add 0=a:=by simp [Addr.add]
 refine ⟨a,hat,?_,by have:=hw 0 (by omega);rwa [h00] at this,fun b=>?_⟩
 ·have:=same h1;subst this;exact hblk
 ·obtain ⟨x,hx,_,hx2⟩:=hset b;have:=same hx;subst this;have hst:storeRow w x [Value.bool b]=w.setCell x (.bool b):=by show w.setCell (x.add 0) (.bool b)=_;rw [h00]
  obtain ⟨r1,r2⟩:=hx2 _ rfl;rw [hst] at r1 r2;rw [jWP,show ((t.toNat:Nat):Int)=t by omega] at r1;exact ⟨r1,r2⟩
end
structure WalkAt (w:World) (x q:Addr) (L:Sp.Pool) (st:(Int→Bool)×List Int) (FR:NP) (sv so:Sl):Prop where
 box:Box w x [.pointer (some q),sv.v,so.v] 201
 seen:Rws w 4 1 sv (brw (L.length+1) st.1)
 out:Rws w 78 1 so (tmr st.2)
 pool:qY w q L FR
 n1:¬ sv.blk x.block
 n2:¬ so.blk x.block
 n3:∀b,sv.blk b→¬ so.blk b
 n4:∀b,FR b→b≠x.block∧¬ sv.blk b∧¬ so.blk b
def WF (x:Addr) (sv so:Sl) (b:Nat):Prop:=b=x.block∨sv.blk b∨so.blk b
theorem qY.at7 {w:World} {q:Addr} {L:Sp.Pool} {FR:NP} (h:qY w q L FR) {t:Int} (ht:Sp.inP L t=true) (hok:Sp.Ok L):∃v,w.cell? q=some (Sl.v v)∧∃a,At v (IntKind.i64.wrap (t - 1)) 7 a∧w.cell? (a.add 5)=some (.int .i64 (Sp.nodeOf L t).a)∧w.cell? (a.add 6)=some (.int .i64 (Sp.nodeOf L t).b):=by
 obtain ⟨s1,s2,s3,h,_⟩:=h;obtain ⟨i,hi,rfl⟩:=Sp.tA ht;have:=hok.few;obtain ⟨a,h1,h2⟩:=h.r1.nth hi;rw [IntWalk.i64_in _ (by omega),show (i:Int)+1 - 1=i by omega];have hn:=Sp.qB hi;have e0:jTE L[i]=uR (Sp.nodeOf L ((i:Int)+1)):=by rw [hn];rfl
 rw [e0] at h2;exact ⟨s1,h.box.cell0,a,h1,h2 5 (by simp [uR]),h2 6 (by simp [uR])⟩
theorem jKA (x q:Addr) {L:Sp.Pool} (hW:Sp.Wf L):∀(n:Nat) (t:Int) (w0:World) (st:(Int→Bool)×List Int) (FR:NP) (sv so:Sl),t.toNat<n→WalkAt w0 x q L st FR sv so→Sp.OvOk L st→(∀y,st.1 y=true→y≤t→y∈st.2) →
  Calls prog 133 #[.pointer (some x),.int .i64 t] w0 (fun e w'=>e=.returned (.tuple #[])∧∃so',WalkAt w' x q L (Sp.qU L n t st) FR sv so'∧Ext (WF x sv so) w0 w'∧∀b,so'.blk b→so.blk b∨w0.heap.size≤b):=by
 intro n
 induction n with
 | zero=>intro t w0 st FR sv so h;omega
 | succ n ih =>
 intro t w0 st FR sv so hn h hst hm
 have hR:=Sp.lI hW (n+1) t st hn hst hm
 suffices key:∀K:WP,(∀so' w',WalkAt w' x q L (Sp.qU L (n+1) t st) FR sv so'→Ext (WF x sv so) w0 w'→(∀b,so'.blk b→so.blk b∨w0.heap.size≤b)→K w')→m_Y (some x) t w0 K from
  w_Y _ _ w0 _ (key _ (fun so' w' a b c=>⟨so',a,b,c⟩))
 intro K hK
 unfold m_Y
 refine ⟨x,rfl,_,h.box.cell0,?_⟩
 refine (xH q t w0 h.pool).mono ?_
 rintro _ w0 ⟨r1,rfl,rfl,rfl⟩
 refine ⟨_,rfl,fun hc=>?_,fun hc=>?_⟩
 ·have hin:Sp.inP L t=false:=by simpa using hc
  unfold m_Y_j1
  refine Br.t rfl ?_
  rw [Sp.qU,if_neg (by simp [hin])] at hK
  exact hK so w0 h (Ext.refl _) (fun b hb=>.inl hb)
 have hin:Sp.inP L t=true:=by simpa using hc
 obtain ⟨t1,tL⟩:=Sp.zX.1 hin
 obtain ⟨a13,at13,_,c13⟩:=jWR h.seen (t:=t) (by omega) (by omega)
 refine ⟨x,rfl,sv,h.box.cell rfl,a13,at13,_,c13,?_⟩
 unfold m_Y_j1
 refine ⟨fun hv=>?_,fun hv=>?_⟩
 ·rw [Sp.qU,if_neg (by simp [hv])] at hK
  exact hK so w0 h (Ext.refl _) (fun b hb=>.inl hb)
 rw [Sp.qU,if_pos ⟨hin,hv⟩] at hK hR
 obtain ⟨a2,at2,hb2,cw2,hput⟩:=jWQ h.seen (t:=t) (by omega) (by omega)
 refine ⟨x,rfl,sv,h.box.cell rfl,a2,at2,cw2,?_⟩
 rintro _ rfl
 obtain ⟨R2,E2⟩:=hput true
 have A2:WalkAt (w0.setCell a2 (.bool true)) x q L (Sp.upd st.1 t true,st.2) FR sv so :=
  ⟨h.box.ext E2 h.n1,R2,h.out.ext E2 (fun b hb hb2=>h.n3 b hb2 hb),h.pool.ext E2 (fun b hb hb2=>(h.n4 b hb).2.1 hb2),h.n1,h.n2,h.n3,h.n4⟩
 generalize w0.setCell a2 (.bool true)=w2 at *
 obtain ⟨v3,c3,a5,at5,ca,cb⟩:=A2.pool.at7 hin hW.ok
 refine ⟨x,rfl,_,A2.box.cell0,q,rfl,v3,c3,a5,at5,_,ca,?_⟩
 have low:∀k,k=(Sp.nodeOf L t).a∨k=(Sp.nodeOf L t).b→k<t:=by
  intro k hk;have hkid:=(hW.node hin).2.2.2.2.1;cases hp:Sp.inP L k with
  | true=>exact (hkid k (Sp.jJI hW hin hk hp)).2
  | false =>
   have h1:=(hW.node hin).2.1
   have h2:=(hW.node hin).2.2.1
   rcases Sp.yL (Sp.nodeOf L t).kind with e | e | e
   ·have:=h1 (by omega);have:=h2 (by omega);rcases hk with hk | hk <;> omega
   ·have b0:=h2 (by omega)
    rcases hk with hk | hk
    ·have:=(hkid k (by unfold Sp.zG;rw [e,hk];simp)).2;exact this
    ·omega
   ·exact (hkid k (by unfold Sp.zG;rw [e];rcases hk with hk | hk <;> simp [hk])).2
 have la:=low _ (.inl rfl)
 have lb:=low _ (.inr rfl)
 have o1:Sp.OvOk L (Sp.upd st.1 t true,st.2):=⟨fun y hy=>by simp only [Sp.upd];split <;> simp [hst.marked y hy],hst.closed,hst.nd,hst.inp⟩
 have m1:∀y,(Sp.upd st.1 t true,st.2).1 y=true→y≤(Sp.nodeOf L t).a→y∈(Sp.upd st.1 t true,st.2).2:=fun y hy hle=>by
  simp only [Sp.upd] at hy;rw [if_neg (by omega)] at hy;exact hm y hy (by omega)
 have r1:=Sp.lI hW n (Sp.nodeOf L t).a _ (by omega) o1 m1
 refine (ih (Sp.nodeOf L t).a w2 _ FR sv so (by omega) A2 o1 m1).mono ?_
 rintro _ w3 ⟨rfl,so3,A3,X3,f3⟩
 generalize hs1:Sp.qU L n (Sp.nodeOf L t).a (Sp.upd st.1 t true,st.2)=s1 at *
 obtain ⟨v6,c6,a8,at8,_,cb3⟩:=A3.pool.at7 hin hW.ok
 refine ⟨rfl,x,rfl,_,A3.box.cell0,q,rfl,v6,c6,a8,at8,_,cb3,?_⟩
 have m2:∀y,s1.1 y=true→y≤(Sp.nodeOf L t).b→y∈s1.2:=fun y hy hle=>by
  rcases r1.back y hy with h' | h'
  ·simp only [Sp.upd] at h';rw [if_neg (by omega)] at h';have:=hm y h' (by omega);obtain ⟨M,e,_⟩:=r1.app;simp only at e;rw [e];exact List.mem_append_left _ this
  ·exact h'
 have r2:=Sp.lI hW n (Sp.nodeOf L t).b s1 (by omega) r1.toOvOk m2
 refine (ih (Sp.nodeOf L t).b w3 s1 FR sv so3 (by omega) A3 r1.toOvOk m2).mono ?_
 rintro _ w4 ⟨rfl,so4,A4,X4,f4⟩
 generalize hs2:Sp.qU L n (Sp.nodeOf L t).b s1=s2 at *
 refine ⟨rfl,x,rfl,so4,A4.box.cell rfl,?_⟩
 intro p1 w5 h5
 have E5:Pure w4 w5:=Ext.new h5
 have hfew:s2.2.length≤65536:=by have:=Sp.jAH r2.nd r2.inp;have:=hW.ok.few;omega
 obtain ⟨s1',w6,hr6,R6,X6,f6⟩:=(A4.out.pure E5).append (P:=prog) (ty:=54) (c:=1) jMR (r:=[.int .i64 t]) (Box.of_new h5).row rfl rfl (by rw [qM];omega) (by rw [qM];simp [maxLen];omega)
 have b6:=(A4.box.pure E5).ext X6 A4.n2
 refine ⟨s1',w6,hr6,x,rfl,b6.canW (by simp),?_⟩
 rintro _ rfl
 have E7:=Ext.setCell (w:=w6) (x.add 2) s1'.v
 rw [zV] at E7
 have z2:w0.heap.size≤w2.heap.size:=E2.size
 have z3:=X3.size
 have z4:=X4.size
 have z5:=E5.size
 have f6':∀b,s1'.blk b→so4.blk b∨w4.heap.size≤b:=fun b hb=>(f6 b hb).imp_right (fun h=>by omega)
 have nx:¬ s1'.blk x.block:=fun hh=>(f6' _ hh).elim A4.n2 (fun hh=>by have:=A4.box.lt;omega)
 have nv:∀b,sv.blk b→¬ s1'.blk b:=fun b hb hh=>(f6' b hh).elim (A4.n3 b hb) (fun hh=>by have:=A4.seen.lt hb;omega)
 have hfin:=hK s1' (w6.setCell (x.add 2) s1'.v)
 refine hfin ⟨b6.set 2 s1'.v,((A4.seen.pure E5).ext X6 A4.n3).ext E7 (fun b hb e=>A4.n1 (e▸hb)),?_,((A4.pool.pure E5).ext X6 (fun b hb=>(A4.n4 b hb).2.2)).ext E7 (fun b hb e=>(A4.n4 b hb).1 e),A4.n1,nx,nv,fun b hb=>⟨(A4.n4 b hb).1,(A4.n4 b hb).2.1,fun hh=>(f6' b hh).elim (A4.n4 b hb).2.2 (fun hh=>by have:=A4.pool.lt hb;omega)⟩⟩ ?_ ?_
 ·show Rws _ _ _ _ (tmr (s2.2++[t]))
  rw [show tmr (s2.2++[t])=tmr s2.2++[[.int .i64 t]] by simp [tmr]]
  exact R6.ext E7 (fun b hb e=>nx (e▸hb))
 ·have f34 : ∀ b, so4.blk b → b < w0.heap.size → so.blk b := fun b hb hlt => by
   rcases f4 b hb with h1 | h1
   ·exact (f3 b h1).elim id (fun h2=>by omega)
   ·omega
  have f33:∀b,so3.blk b→b<w0.heap.size→so.blk b:=fun b hb hlt=>(f3 b hb).elim id (fun h2=>by omega)
  refine ((((E2.mono (fun b _ hb=>.inr (.inl hb))).trans X3).trans' X4 (fun i hi hb=>?_)).trans' (E5.pure (F:=WF x sv so4)) (fun i hi hb=>?_)).trans' ((X6.mono (fun b _ hb=>.inr (.inr hb))).trans (E7.mono (fun b _ e=>.inl e))) (fun i hi (hb:WF x sv so4 i)=>?_)
  ·rcases hb with hb | hb | hb
   ·exact .inl hb
   ·exact .inr (.inl hb)
   ·exact .inr (.inr (f33 i hb hi))
  ·rcases hb with hb | hb | hb
   ·exact .inl hb
   ·exact .inr (.inl hb)
   ·exact .inr (.inr (f34 i hb hi))
  ·rcases hb with hb | hb | hb
   ·exact .inl hb
   ·exact .inr (.inl hb)
   ·exact .inr (.inr (f34 i hb hi))
 ·intro b hb
  rcases f6' b hb with h1 | h1
  ·rcases f4 b h1 with h2 | h2
   ·exact (f3 b h2).imp_right (fun h=>by omega)
   ·right;omega
  ·right;omega
theorem jKC (q:Addr) (t:Int) (w0:World) {L:Sp.Pool} {FR:NP} (hW:Sp.Wf L) (hP:qY w0 q L FR) :
  Calls prog 69 #[.pointer (some q),.int .i64 t] w0 (fun e w'=>∃r:Sl,e=.returned r.v∧RetO w0 78 1 (tmr (Sp.subs L t)) r w'):=by
 refine w_X2 _ _ w0 (fun r w'=>RetO w0 78 1 (tmr (Sp.subs L t)) r w') ?_
 unfold m_X2
 obtain ⟨v1,hv1,hv1l⟩:∃v1:Sl,w0.cell? q=some v1.v∧v1.len=L.length:=by
  obtain ⟨s1,s2,s3,h,_⟩:=hP;exact ⟨s1,h.box.cell0,by rw [h.r1.len];simp⟩
 have hL:=hW.ok.few
 refine ⟨q,rfl,v1,hv1,?_⟩
 rw [hv1l,IntWalk.i64_in _ (by omega),show ((L.length:Int)+1)=((L.length+1:Nat):Int) by omega]
 obtain ⟨w1,hr1,R1,E1⟩:=Rws.make (P:=prog) jSZ jPK (k:=.i64) (k':=.i64) (n:=L.length+1) (by omega) (by simp [maxLen];omega) w0
 rw [jSM] at R1
 refine ⟨_,w1,hr1,?_⟩
 intro p2 w2 h2
 have E2:Pure w1 w2:=Ext.new h2
 have hp2:=h2.at_size
 have hnil:∀b,¬ Sl.nil.blk b:=fun b hb=>by obtain ⟨a,h,_⟩:=hb;cases h
 have hsv:∀b,(Sl.mk (some ⟨w0.heap.size,0,none⟩) (L.length+1) (L.length+1)).blk b→b=w0.heap.size:=by rintro b ⟨a,ha,rfl⟩;cases ha;rfl
 have z1:=E1.size
 have l1:w0.heap.size<w1.heap.size:=R1.lt ⟨_,rfl,rfl⟩
 have A2:WalkAt w2 p2 q L (fun _=>false,[]) FR ⟨some ⟨w0.heap.size,0,none⟩,L.length+1,L.length+1⟩ Sl.nil:=by
  refine ⟨Box.of_new h2,R1.pure E2,Rws.nil _ _ _,(hP.pure E1).pure E2,fun hb=>by have:=hsv _ hb;omega,hnil _,fun b _=>hnil b,fun b hb=>⟨fun e=>?_,fun hh=>?_,hnil b⟩⟩
  ·have:=hP.lt hb;omega
  ·have:=hsv _ hh;have:=hP.lt hb;omega
 refine (jKA p2 q hW (t.toNat+1) t w2 _ FR _ Sl.nil (by omega) A2 ⟨by simp,by simp,by simp,by simp⟩ (by simp)).mono ?_
 rintro _ w3 ⟨rfl,so,A3,X3,f3⟩
 refine ⟨rfl,so,A3.box.cell rfl,A3.out,fun b hb=>?_,(E1.trans E2).trans' X3 (fun i hi hb=>?_)⟩
 ·rcases f3 b hb with h | h
  ·exact (hnil b h).elim
  ·have:=E2.size;omega
 ·rcases hb with hb | hb | hb
  ·omega
  ·have:=hsv _ hb;omega
  ·exact hnil _ hb
end Go.Proofs
end
section
open Go Go.SE
namespace Go.Proofs
open Tryz
attribute [local irreducible] Calls CallsD
theorem jSO {s:Sl} {i:Int} {sz:Nat} {a:Addr} (h:At s i sz a):s.blk a.block:=by
 obtain ⟨_,_,b,hb,rfl⟩:=h;exact ⟨b,hb,(zV _ _).symm⟩
theorem jVM {w:World} {e:TypeId} {s:Sl} {A:List Int} (h:Rws w e 1 s (tmr A)) {k:Int} {j:Nat} (hk:k=j) (hj:j<A.length) :
  ∃a,At s k 1 a∧s.blk a.block∧CanW w a∧∀v,Rws (w.setCell a (.int .i64 v)) e 1 s (tmr (A.set j v))∧Ext s.blk w (w.setCell a (.int .i64 v)):=by
 have hset:∀v:Int,∃a,At s k 1 a∧(∀j,j<1→CanW w (a.add j))∧∀w',w'=storeRow w a [Value.int .i64 v]→Rws w' e 1 s ((tmr A).set j [.int .i64 v])∧Ext s.blk w w':=fun v=>h.set (i:=j) (by rw [qM];omega) rfl hk
 obtain ⟨a,hat,hw,_⟩:=hset 0
 have same:∀{x:Addr},At s k 1 x→x=a:=fun hx=>by
  obtain ⟨_,_,b1,hb1,rfl⟩:=hx;obtain ⟨_,_,b2,hb2,rfl⟩:=hat;rw [hb1] at hb2;cases hb2;rfl
 have h00:a.add 0=a:=by simp [Addr.add]
 refine ⟨a,hat,jSO hat,by have:=hw 0 (by omega);rwa [h00] at this,fun v=>?_⟩
 obtain ⟨x,hx,_,hx2⟩:=hset v
 have:=same hx;subst this
 have hst:storeRow w x [Value.int .i64 v]=w.setCell x (.int .i64 v):=by show w.setCell (x.add 0) (.int .i64 v)=_;rw [h00]
 obtain ⟨r1,r2⟩:=hx2 _ rfl
 rw [hst] at r1 r2
 have e0:(tmr A).set j [.int .i64 v]=tmr (A.set j v):=by simp [tmr,List.map_set]
 rw [e0] at r1
 exact ⟨r1,r2⟩
def Sp.opt (c:Bool) (f:Fld) (n:Sp.Node) (na nb:Nat):List UInt8:=if c then f.bytes n na nb else []
theorem jUE (n:Sp.Node) (na nb:Nat) (h1:1≤n.kind) (h9:n.kind≤9):(uS n.kind).flatMap (Fld.bytes n na nb) =
  Sp.opt (s_D1 n.kind) .from_ n na nb++Sp.opt ((n.kind == 8) || (n.kind == 9)) .to_ n na nb++Sp.opt (n.kind == 2) .num n na nb++Sp.opt (n.kind == 3) .text n na nb++Sp.opt (decide (s_A n.kind≥1)) .fst n na nb++Sp.opt (s_A n.kind == 2) .snd n na nb:=by
 rw [xC]
 have:n.kind=1∨n.kind=2∨n.kind=3∨n.kind=4∨n.kind=5∨n.kind=6∨n.kind=7∨n.kind=8∨n.kind=9:=by omega
 rcases this with e | e | e | e | e | e | e | e | e <;> simp [e,uS,Sp.opt,s_D1,Sp.shapeOf]
theorem jTY {n:Sp.Node} (h:s_A n.kind≥1):n.a∈Sp.zG n:=by
 rw [xC] at h;unfold Sp.zG;rcases Sp.yL n.kind with e | e | e <;> rw [e] at h ⊢ <;> simp at h ⊢
theorem jTX {n:Sp.Node} (h:s_A n.kind=2):n.b∈Sp.zG n:=by
 rw [xC] at h;unfold Sp.zG;rw [h];simp
structure TxSep (w0:World) (q:Addr) (FR:NP) (s1 r1:Sl) (B:Nat):Prop where
 lR:∀x,FR x→x<B
 lr:∀x,r1.blk x→x<B
 ls:∀x,s1.blk x→x<B∧w0.heap.size≤x∧¬ FR x∧¬ r1.blk x
 base:w0.heap.size≤B
structure TxAt (w0 w:World) (H:NP) (q:Addr) (L:Sp.Pool) (FR:NP) (s1 r1:Sl) (A xs:List Int) (B:Nat) (b:Sl) (bs:List UInt8):Prop where
 pool:qY w q L FR
 at_:Rws w 3 1 s1 (tmr A)
 subs:Rws w 78 1 r1 (tmr xs)
 rows:Rws w 5 1 b (byr bs)
 pure:Pure w0 w
 hB:∀x,H x→B≤x∧x<w.heap.size
 own:∀x,b.blk x→B≤x∧¬ H x
 lt:B≤w.heap.size
section
variable {w0 w w':World} {H H':NP} {q:Addr} {L:Sp.Pool} {FR:NP} {s1 r1:Sl} {A xs:List Int} {B:Nat} {b b':Sl} {bs bs':List UInt8}
theorem TxAt.hst (h:TxAt w0 w H q L FR s1 r1 A xs B b bs) (S:TxSep w0 q FR s1 r1 B) (hs:Hst w0 H w H' w'):TxAt w0 w' H' q L FR s1 r1 A xs B b bs:=by
 have hB':∀x,H' x→B≤x:=fun x hx=>(hs.new x hx).elim (fun h1=>(h.hB x h1).1) (fun h1=>by have:=h.lt;omega);have hv:∀x,b.blk x→¬ H' x:=hs.disj (fun x hx=>⟨h.rows.lt hx,(h.own x hx).2⟩);exact ⟨h.pool.ext hs.ext (fun x hx hh=>by have:=S.lR x hx;have:=hB' x hh;omega),h.at_.ext hs.ext (fun x hx hh=>by have:=S.ls x hx;have:=hB' x hh;omega),h.subs.ext hs.ext (fun x hx hh=>by have:=S.lr x hx;have:=hB' x hh;omega),h.rows.ext hs.ext hv,h.pure.hst hs,fun x hx=>⟨hB' x hx,hs.lt x hx⟩,fun x hx=>⟨(h.own x hx).1,hv x hx⟩,Nat.le_trans h.lt hs.ext.size⟩
theorem TxAt.call (h:TxAt w0 w H q L FR s1 r1 A xs B b bs) (hr:RetO w 5 1 (byr bs') b' w'):TxAt w0 w' H q L FR s1 r1 A xs B b' bs' :=
 ⟨h.pool.pure hr.pure,h.at_.pure hr.pure,h.subs.pure hr.pure,hr.rows,h.pure.trans hr.pure,fun x hx=>⟨(h.hB x hx).1,Nat.lt_of_lt_of_le (h.hB x hx).2 hr.pure.size⟩,fun x hx=>⟨Nat.le_trans h.lt (hr.own x hx),fun hh=>by have:=hr.own x hx;have:=(h.hB x hh).2;omega⟩,Nat.le_trans h.lt hr.pure.size⟩
end
section
variable (w0:World) (q:Addr) {L:Sp.Pool} (hW:Sp.Wf L) (hN:Sp.uI L) {FR:NP} {s1 r1:Sl} {A xs:List Int} {B:Nat} (S:TxSep w0 q FR s1 r1 B) (i1:Int) (n:Sp.Node) (na nb:Nat)
include S
theorem c_tx6 (hb:s_A n.kind=2→0≤n.b∧A[n.b.toNat]?=some (nb:Int)∧nb<65537) {H:NP} {w:World} {b:Sl} {bs:List UInt8} (h:TxAt w0 w H q L FR s1 r1 A xs B b bs) (hl:bs.length≤1000000000)
  (Kc:Sl→Int→NP→WP) (K:Sl→WP) (hK:∀b' H' w',TxAt w0 w' H' q L FR s1 r1 A xs B b' (bs++Sp.opt (s_A n.kind == 2) .snd n na nb)→Kc b' (IntKind.i64.wrap (i1+1)) H' w'):m_G_j6 s1 i1 n.kind n.b b w0 H w Kc K:=by
 unfold m_G_j6
 refine ⟨fun hc=>?_,fun hc=>?_⟩
 ·rw [hc] at hK
  obtain ⟨h0,hA,h2⟩:=hb (by simpa using hc)
  obtain ⟨hj,hA'⟩:=List.getElem?_eq_some_iff.1 hA
  obtain ⟨a,hat,_,hv⟩:=tQ h.at_.lst hj
  rw [show ((n.b.toNat:Nat):Int)=n.b by omega] at hat
  refine ⟨a,hat,fun w15 hs=>?_⟩
  have h':=h.hst S hs
  obtain ⟨a',hat',_,hv'⟩:=tQ h'.at_.lst hj
  rw [show ((n.b.toNat:Nat):Int)=n.b by omega] at hat'
  have:a'=a:=by
   obtain ⟨_,_,b1,hb1,rfl⟩:=hat;obtain ⟨_,_,b2,hb2,rfl⟩:=hat';rw [hb1] at hb2;cases hb2;rfl
  subst this
  refine ⟨_,hv',?_⟩
  rw [hA',yM (by omega)]
  refine (tB b bs nb w15 h'.rows.lst (by omega) (by omega)).mono ?_
  rintro _ w16 ⟨r,rfl,hr⟩
  exact ⟨r,rfl,hr.kept,hK _ _ _ (h'.call hr)⟩
 ·rw [hc] at hK
  simp only [Sp.opt,Bool.false_eq_true,if_false,List.append_nil] at hK
  exact fun w15 hs=>hK _ _ _ (h.hst S hs)
theorem c_tx5 (ha:s_A n.kind≥1→0≤n.a∧A[n.a.toNat]?=some (na:Int)∧na<65537) (hb:s_A n.kind=2→0≤n.b∧A[n.b.toNat]?=some (nb:Int)∧nb<65537) {H:NP} {w:World} {b:Sl} {bs:List UInt8} (h:TxAt w0 w H q L FR s1 r1 A xs B b bs) (hl:bs.length≤900000000)
  (Kc:Sl→Int→NP→WP) (K:Sl→WP) (hK:∀b' H' w',TxAt w0 w' H' q L FR s1 r1 A xs B b' (bs++Sp.opt (decide (s_A n.kind≥1)) .fst n na nb++Sp.opt (s_A n.kind == 2) .snd n na nb)→Kc b' (IntKind.i64.wrap (i1+1)) H' w'):m_G_j5 s1 i1 n.kind n.a n.b b w0 H w Kc K:=by
 unfold m_G_j5
 refine ⟨fun hc=>?_,fun hc=>?_⟩
 ·rw [hc] at hK
  obtain ⟨h0,hA,h2⟩:=ha (of_decide_eq_true hc)
  obtain ⟨hj,hA'⟩:=List.getElem?_eq_some_iff.1 hA
  obtain ⟨a,hat,_,hv⟩:=tQ h.at_.lst hj
  rw [show ((n.a.toNat:Nat):Int)=n.a by omega] at hat
  refine ⟨a,hat,fun w15 hs=>?_⟩
  have h':=h.hst S hs
  obtain ⟨a',hat',_,hv'⟩:=tQ h'.at_.lst hj
  rw [show ((n.a.toNat:Nat):Int)=n.a by omega] at hat'
  have:a'=a:=by
   obtain ⟨_,_,b1,hb1,rfl⟩:=hat;obtain ⟨_,_,b2,hb2,rfl⟩:=hat';rw [hb1] at hb2;cases hb2;rfl
  subst this
  refine ⟨_,hv',?_⟩
  rw [hA',yM (by omega)]
  refine (tB b bs na w15 h'.rows.lst (by omega) (by omega)).mono ?_
  rintro _ w16 ⟨r,rfl,hr⟩
  have:=vX (n:=na) (by omega)
  exact ⟨r,rfl,hr.kept,c_tx6 w0 q S i1 n na nb hb (h'.call hr) (by rw [List.length_append];omega) Kc K hK⟩
 ·rw [hc] at hK
  simp only [Sp.opt,Bool.false_eq_true,if_false,List.append_nil] at hK
  exact fun w15 hs=>c_tx6 w0 q S i1 n na nb hb (h.hst S hs) (by omega) Kc K hK
theorem c_tx4 (hx:n.text.size≤64) (ha:s_A n.kind≥1→0≤n.a∧A[n.a.toNat]?=some (na:Int)∧na<65537) (hb:s_A n.kind=2→0≤n.b∧A[n.b.toNat]?=some (nb:Int)∧nb<65537) {H:NP} {w:World} {b:Sl} {bs:List UInt8} (h:TxAt w0 w H q L FR s1 r1 A xs B b bs) (hl:bs.length≤800000000)
  (Kc:Sl→Int→NP→WP) (K:Sl→WP) (hK:∀b' H' w',TxAt w0 w' H' q L FR s1 r1 A xs B b' (bs++Sp.opt (n.kind == 3) .text n na nb++Sp.opt (decide (s_A n.kind≥1)) .fst n na nb++Sp.opt (s_A n.kind == 2) .snd n na nb)→Kc b' (IntKind.i64.wrap (i1+1)) H' w'):m_G_j4 s1 i1 n.kind n.text n.a n.b b w0 H w Kc K:=by
 unfold m_G_j4
 refine ⟨fun hc=>?_,fun hc=>?_⟩
 ·rw [hc] at hK
  refine (jPC b bs n.text w h.rows.lst (by omega) (by omega)).mono ?_
  rintro _ w16 ⟨r,rfl,hr⟩
  have:=vX (n:=n.text.size) (by omega)
  have e:n.text.data.toList.length=n.text.size:=Array.length_toList
  exact ⟨r,rfl,hr.kept,c_tx5 w0 q S i1 n na nb ha hb (h.call hr) (by rw [List.length_append,qN,List.length_append];omega) Kc K hK⟩
 ·rw [hc] at hK
  simp only [Sp.opt,Bool.false_eq_true,if_false,List.append_nil] at hK
  exact c_tx5 w0 q S i1 n na nb ha hb h (by omega) Kc K hK
theorem c_tx3 (hu:Sp.uO n.num) (hx:n.text.size≤64) (ha:s_A n.kind≥1→0≤n.a∧A[n.a.toNat]?=some (na:Int)∧na<65537) (hb:s_A n.kind=2→0≤n.b∧A[n.b.toNat]?=some (nb:Int)∧nb<65537) {H:NP} {w:World} {b:Sl} {bs:List UInt8} (h:TxAt w0 w H q L FR s1 r1 A xs B b bs) (hl:bs.length≤700000000)
  (Kc:Sl→Int→NP→WP) (K:Sl→WP) (hK:∀b' H' w',TxAt w0 w' H' q L FR s1 r1 A xs B b' (bs++Sp.opt (n.kind == 2) .num n na nb++Sp.opt (n.kind == 3) .text n na nb++Sp.opt (decide (s_A n.kind≥1)) .fst n na nb++Sp.opt (s_A n.kind == 2) .snd n na nb)→Kc b' (IntKind.i64.wrap (i1+1)) H' w'):m_G_j3 s1 i1 n.kind n.num n.text n.a n.b b w0 H w Kc K:=by
 unfold m_G_j3
 refine ⟨fun hc=>?_,fun hc=>?_⟩
 ·rw [hc] at hK
  obtain ⟨u0,u1⟩:=hu
  have e:n.num=((n.num.toNat:Nat):Int):=by omega
  rw [e]
  refine (tB b bs n.num.toNat w h.rows.lst (by omega) (by omega)).mono ?_
  rintro _ w16 ⟨r,rfl,hr⟩
  have:=vX (n:=n.num.toNat) (by omega)
  exact ⟨r,rfl,hr.kept,c_tx4 w0 q S i1 n na nb hx ha hb (h.call hr) (by rw [List.length_append];omega) Kc K hK⟩
 ·rw [hc] at hK
  simp only [Sp.opt,Bool.false_eq_true,if_false,List.append_nil] at hK
  exact c_tx4 w0 q S i1 n na nb hx ha hb h (by omega) Kc K hK
theorem c_tx2 (ht:0≤n.to∧n.to<16) (hu:Sp.uO n.num) (hx:n.text.size≤64) (ha:s_A n.kind≥1→0≤n.a∧A[n.a.toNat]?=some (na:Int)∧na<65537) (hb:s_A n.kind=2→0≤n.b∧A[n.b.toNat]?=some (nb:Int)∧nb<65537) {H:NP} {w:World} {b:Sl} {bs:List UInt8} (h:TxAt w0 w H q L FR s1 r1 A xs B b bs) (hl:bs.length≤600000000)
  (Kc:Sl→Int→NP→WP) (K:Sl→WP) (hK:∀b' H' w',TxAt w0 w' H' q L FR s1 r1 A xs B b' (bs++Sp.opt ((n.kind == 8) || (n.kind == 9)) .to_ n na nb++Sp.opt (n.kind == 2) .num n na nb++Sp.opt (n.kind == 3) .text n na nb++Sp.opt (decide (s_A n.kind≥1)) .fst n na nb++Sp.opt (s_A n.kind == 2) .snd n na nb)→Kc b' (IntKind.i64.wrap (i1+1)) H' w'):m_G_j2 s1 i1 n.kind n.to n.num n.text n.a n.b b w0 H w Kc K:=by
 unfold m_G_j2
 refine ⟨fun hc H4 w13 hs=>?_,fun hc H4 w13 hs=>?_⟩
 ·rw [hc] at hK
  have h':=h.hst S hs
  have e:n.to=((n.to.toNat:Nat):Int):=by omega
  rw [e,yM (by omega)]
  refine (tB b bs n.to.toNat w13 h'.rows.lst (by omega) (by omega)).mono ?_
  rintro _ w16 ⟨r,rfl,hr⟩
  have:=vX (n:=n.to.toNat) (by omega)
  exact ⟨r,rfl,hr.kept,c_tx3 w0 q S i1 n na nb hu hx ha hb (h'.call hr) (by rw [List.length_append];omega) Kc K hK⟩
 ·rw [hc] at hK
  simp only [Sp.opt,Bool.false_eq_true,if_false,List.append_nil] at hK
  exact c_tx3 w0 q S i1 n na nb hu hx ha hb (h.hst S hs) (by omega) Kc K hK
end
theorem jJZ (q:Addr) (t:Int) (w0:World) {L:Sp.Pool} {FR:NP} (hW:Sp.Wf L) (hN:Sp.uI L) (hP:qY w0 q L FR) :
  Calls prog 166 #[.pointer (some q),.int .i64 t] w0 (fun e w'=>∃r:Sl,e=.returned r.v∧RetO w0 5 1 (byr (yV L t)) r w'):=by
 refine w_G _ _ w0 (fun r w'=>RetO w0 5 1 (byr (yV L t)) r w') ?_
 unfold m_G
 refine (jKC q t w0 hW hP).mono ?_
 rintro _ w1 ⟨r1,rfl,hr1⟩
 have P1:=hP.pure hr1.pure
 have hfew:=Sp.jBO hW t
 have hsub:∀u∈Sp.subs L t,Sp.inP L u=true:=fun u hu=>have h:=(Sp.jGX hW).1 hu;(Sp.Sub.le hW h.1 h.2).1
 have hord:=Sp.jMQ hW t
 have hnd:=Sp.jCL hW t
 have htx:yV L t=vC L [] (Sp.subs L t):=rfl
 rw [htx]
 generalize hxs:Sp.subs L t=xs at *
 have hL:=hW.ok.few
 have hv1:∃v1:Sl,w1.cell? q=some v1.v∧v1.len=L.length:=by
  obtain ⟨sa,sb,sc,h,_⟩:=P1;exact ⟨sa,h.box.cell0,by rw [h.r1.len];simp⟩
 obtain ⟨v1,hv1,hv1l⟩:=hv1
 refine ⟨r1,rfl,hr1.kept,q,rfl,v1,hv1,?_⟩
 rw [hv1l,show IntKind.i64.wrap ((L.length:Int)+1)=((L.length+1:Nat):Int) by rw [i64 (by omega) (by omega)];omega]
 obtain ⟨w2, hmk, hR2, E2⟩ := Rws.make (P := prog) jCN (zr := [.int .i64 0]) (fun i z hi hz => by
   have h1:prog.info? 3=some t3:=by kernel_rfl
   rw [h1] at hi;cases hi;have h2:t3.zero=some (.int .i64 0):=by kernel_rfl
   rw [h2] at hz;cases hz;rfl) (k:=.i64) (k':=.i64) (n:=L.length+1) (by omega) (by simp only [maxLen];omega) w1
 refine ⟨_,w2,hmk,E2.keptP,?_⟩
 generalize hs1e:(Sl.mk (some ⟨w1.heap.size,0,none⟩) (L.length+1) (L.length+1))=s1 at *
 have hs1b:∀x,s1.blk x→x=w1.heap.size:=fun x hx=>by subst hs1e;obtain ⟨a,ha,rfl⟩:=hx;cases ha;rfl
 have hrep:List.replicate (L.length+1) [Value.int .i64 0]=tmr (List.replicate (L.length+1) 0):=by simp [tmr]
 rw [hrep] at hR2
 have z1:=hr1.pure.size
 have z2:=E2.size
 have hs1lt:∀x,s1.blk x→x<w2.heap.size:=fun x hx=>hR2.lt hx
 have hnil:∀b,¬ Sl.nil.blk b:=fun b hb=>by obtain ⟨a,h,_⟩:=hb;cases h
 have S:TxSep w0 q FR s1 r1 w2.heap.size:=⟨fun x hx=>by have:=hP.lt hx;omega,fun x hx=>by have:=hr1.rows.lt hx;omega,fun x hx=>⟨hs1lt x hx,by have:=hs1b x hx;omega,fun hh=>by have:=hP.lt hh;have:=hs1b x hx;omega,fun hh=>by have:=hr1.rows.lt hh;have:=hs1b x hx;omega⟩,by omega⟩
 have T2:TxAt w0 w2 None q L FR s1 r1 (List.replicate (L.length+1) 0) xs w2.heap.size Sl.nil []:=⟨P1.pure E2,hR2,hr1.rows.pure E2,Rws.nil _ _ _,hr1.pure.trans E2,fun x hx=>hx.elim,fun x hx=>(hnil x hx).elim,Nat.le_refl _⟩
 generalize w2.heap.size=B at *
 refine ⟨fun b i H w=>∃(j:Nat) (A:List Int),i=j∧j≤xs.length∧A.length=L.length+1∧(∀u∈xs.take j,A[u.toNat]?=some ((posOf (xs.take j) u:Nat):Int))∧TxAt w0 w H q L FR s1 r1 A xs B b (vC L [] (xs.take j)),fun _ i _=>((xs.length:Int) - i).toNat,⟨0,_,rfl,Nat.zero_le _,by simp,by simp,T2⟩,?_⟩
 rintro b _ Hl wl hst ⟨j,A,rfl,hj,hAl,hA,hT⟩
 unfold m_G_l1
 have hlen:r1.len=xs.length:=by rw [hT.subs.len,qM]
 refine ⟨fun hc=>?_,fun hc=>?_⟩
 ·have hc:=uN hlen hc
  have hzin:=hsub xs[j] (List.getElem_mem _)
  have hz:=Sp.zX.1 hzin
  have hsplit:xs=xs.take j++xs[j] :: xs.drop (j+1):=by rw [← List.drop_eq_getElem_cons hc,List.take_append_drop]
  have hko:=hord _ _ _ hsplit
  have hzn:xs[j] ∉ xs.take j:=by
   rw [hsplit] at hnd;have:=(List.nodup_append.1 hnd).2.2;exact fun h=>this _ h _ (.head _) rfl
  have htk:xs.take (j+1)=xs.take j++[xs[j]]:=List.take_succ_eq_append_getElem hc
  have hbs:=jIM hW hN (xs.take j) [] (fun u hu=>hsub u (List.mem_of_mem_take hu)) (by simp only [List.length_nil,List.length_take];omega)
  have hjl:(xs.take j).length=j:=by rw [List.length_take];omega
  rw [hjl] at hbs
  obtain ⟨k1,k9,f0,f1,t0,t1,x1⟩:=Sp.jBZ hW hzin
  have hnum:=hN.node xs[j]
  obtain ⟨a3,hat3,_,hv3⟩:=tQ hT.subs.lst hc
  have hnode:∃(v2:Sl) (a4:Addr),wl.cell? q=some v2.v∧FR q.block∧At v2 (IntKind.i64.wrap (xs[j] - 1)) 7 a4∧Row wl a4 (uR (Sp.nodeOf L xs[j]))∧FR a4.block:=by
   obtain ⟨sa,sb,sc,h,hF⟩:=hT.pool;obtain ⟨e,he,⟨a,g1,g2⟩,_⟩:=h.at1 hzin hW.ok;refine ⟨sa,a,h.box.cell0,(hF _).2 (.inl rfl),g1,?_,(hF _).2 (.inr (.inl (jSO g1)))⟩;have:Sp.nodeOf L xs[j]=e.node:=by simp only [Sp.nodeOf,he,Option.map_some,Option.getD_some]
   rw [this];exact g2
  obtain ⟨v2,a4,hv2,hFq,hat4,hrow4,hF4⟩:=hnode
  have hHR:∀x,FR x→¬ Hl x:=fun x hx hh=>by have:=S.lR x hx;have:=(hT.hB x hh).1;omega
  refine ⟨q,rfl,v2,hv2,hHR _ hFq,a3,hat3,_,hv3,fun hh=>by have:=S.lr _ (jSO hat3);have:=(hT.hB _ hh).1;omega,a4,hat4,_,_,_,_,_,_,_,hrow4,hHR _ hF4,a3,hat3,fun H2 w6 hs6=>?_⟩
  have T6:=hT.hst S hs6
  obtain ⟨a3',hat3',_,hv3'⟩:=tQ T6.subs.lst hc
  have:a3'=a3:=by
   obtain ⟨_,_,b1,hb1,rfl⟩:=hat3;obtain ⟨_,_,b2,hb2,rfl⟩:=hat3';rw [hb1] at hb2;cases hb2;rfl
  subst this
  obtain ⟨a6,hat6,hb6,hw6,hset⟩:=jVM T6.at_ (k:=xs[j]) (j:=xs[j].toNat) (by omega) (by omega)
  refine ⟨_,hv3',a6,hat6,hw6,fun hh=>by have:=S.ls _ hb6;have:=(T6.hB _ hh).1;omega,?_⟩
  rintro w9 h9
  obtain ⟨hA9,X9⟩:=hset (j:Int)
  rw [← h9] at hA9 X9
  have T9:TxAt w0 w9 H2 q L FR s1 r1 (A.set xs[j].toNat j) xs B b (vC L [] (xs.take j)) :=
   ⟨T6.pool.ext X9 (fun x hx hh=>(S.ls x hh).2.2.1 hx),hA9,T6.subs.ext X9 (fun x hx hh=>(S.ls x hh).2.2.2 hx),T6.rows.ext X9 (fun x hx hh=>by have:=(T6.own x hx).1;have:=(S.ls x hh).1;omega),T6.pure.trans' X9 (fun i hi hh=>by have:=(S.ls i hh).2.1;omega),fun x hx=>⟨(T6.hB x hx).1,by have:=(T6.hB x hx).2;have:=X9.size;omega⟩,T6.own,by have:=T6.lt;have:=X9.size;omega⟩
  generalize hz':xs[j]=z at *
  have hnt:yO L (xs.take j) z=UInt8.ofNat (Sp.nodeOf L z).kind.toNat :: (uS (Sp.nodeOf L z).kind).flatMap (Fld.bytes (Sp.nodeOf L z) (posOf (xs.take j) (Sp.nodeOf L z).a) (posOf (xs.take j) (Sp.nodeOf L z).b)):=rfl
  rw [jUE _ _ _ k1 k9] at hnt
  have hkin:∀u∈Sp.zG (Sp.nodeOf L z),0≤u∧(A.set z.toNat (j:Int))[u.toNat]?=some ((posOf (xs.take j) u:Nat):Int)∧posOf (xs.take j) u<65537:=fun u hu=>by
   have hm:=hko u hu;have hin:=Sp.zX.1 (hsub u (List.mem_of_mem_take hm));refine ⟨by omega,?_,by have:=jBX (xs.take j) u;rw [hjl] at this;omega⟩;rw [List.getElem?_set_ne (fun e=>hzn (by rw [show z=u by omega];exact hm))];exact hA u hm
  have hA':∀u∈xs.take (j+1),(A.set z.toNat (j:Int))[u.toNat]?=some ((posOf (xs.take (j+1)) u:Nat):Int):=fun u hu=>by
   rw [htk] at hu ⊢;rcases List.mem_append.1 hu with hu | hu
   ·rw [jES hu,List.getElem?_set_ne (fun e=>hzn (by have:=Sp.zX.1 (hsub u (List.mem_of_mem_take hu));rw [show z=u by omega];exact hu))];exact hA u hu
   ·rw [List.mem_singleton] at hu;subst hu;rw [jBW hzn,hjl,List.getElem?_set_self (by omega)]
  have hlA':(A.set z.toNat (j:Int)).length=L.length+1:=by rw [List.length_set];exact hAl
  have htxt:vC L [] (xs.take (j+1))=vC L [] (xs.take j)++yO L (xs.take j) z:=by rw [htk,jBN,List.nil_append]
  rw [hnt] at htxt
  generalize hnz:Sp.nodeOf L z=n at *
  obtain ⟨kn,hkn⟩:∃kn:Nat,n.kind=kn:=⟨n.kind.toNat,by omega⟩
  intro p5 w10 h10
  have E10:Pure w9 w10:=Ext.new h10
  rw [hkn,jGT] at h10
  obtain ⟨s2,w11,hr11,hR11,X11,hb11⟩:=(T9.rows.pure E10).append (P:=prog) (ty:=65) (c:=1) jFW (Box.of_newA h10).row rfl rfl (by rw [qO];omega) (by rw [qO];simp only [maxLen];omega)
  have z10:=E10.size
  have z11:=X11.size
  have nb:∀x,x<B→¬ b.blk x:=fun x hx hh=>by have:=(T9.own x hh).1;omega
  have T11:TxAt w0 w11 H2 q L FR s1 r1 (A.set z.toNat j) xs B s2 (vC L [] (xs.take j)++[UInt8.ofNat kn]) :=
   ⟨(T9.pool.pure E10).ext X11 (fun x hx hh=>nb x (S.lR x hx) hh),(T9.at_.pure E10).ext X11 (fun x hx hh=>nb x (S.ls x hx).1 hh),(T9.subs.pure E10).ext X11 (fun x hx hh=>nb x (S.lr x hx) hh),by rw [jMJ];exact hR11,(T9.pure.trans E10).trans' X11 (fun i hi hh=>by have:=(T9.own i hh).1;have:=S.base;omega),fun x hx=>⟨(T9.hB x hx).1,by have:=(T9.hB x hx).2;omega⟩,fun x hx=>⟨(hb11 x hx).elim (fun h=>(T9.own x h).1) (fun h=>by have:=T9.lt;omega),(hb11 x hx).elim (fun h=>(T9.own x h).2) (fun h hh=>by have:=(T9.hB x hh).2;omega)⟩,by have:=T9.lt;omega⟩
  refine ⟨s2,w11,hr11,X11.kept (fun x hx hh=>(T9.own x hh).2 hx),?_⟩
  have hcn:n.kind.toNat=kn:=by omega
  rw [hcn] at htxt
  have hfin : ∀ (b' : Sl) (H' : NP) (w' : World), TxAt w0 w' H' q L FR s1 r1 (A.set z.toNat j) xs B b' (vC L [] (xs.take j) ++ [UInt8.ofNat kn] ++ Sp.opt (s_D1 n.kind) .from_ n (posOf (xs.take j) n.a) (posOf (xs.take j) n.b) ++ Sp.opt ((n.kind == 8) || (n.kind == 9)) .to_ n (posOf (xs.take j) n.a) (posOf (xs.take j) n.b) ++ Sp.opt (n.kind == 2) .num n (posOf (xs.take j) n.a) (posOf (xs.take j) n.b) ++ Sp.opt (n.kind == 3) .text n (posOf (xs.take j) n.a) (posOf (xs.take j) n.b) ++ Sp.opt (decide (s_A n.kind ≥ 1)) .fst n (posOf (xs.take j) n.a) (posOf (xs.take j) n.b) ++ Sp.opt (s_A n.kind == 2) .snd n (posOf (xs.take j) n.a) (posOf (xs.take j) n.b)) →
    (∃(j':Nat) (A':List Int),IntKind.i64.wrap ((j:Int)+1)=j'∧j'≤xs.length∧A'.length=L.length+1∧(∀u∈xs.take j',A'[u.toNat]?=some ((posOf (xs.take j') u:Nat):Int))∧TxAt w0 w' H' q L FR s1 r1 A' xs B b' (vC L [] (xs.take j')))∧((xs.length:Int) - IntKind.i64.wrap ((j:Int)+1)).toNat<((xs.length:Int) - (j:Int)).toNat:=fun b' H' w' h=>by
   refine ⟨⟨j+1,_,vV hc (by omega),hc,hlA',hA',?_⟩,by rw [vV hc (by omega)];exact jCC hc⟩
   rw [htxt]
   simpa using h
  have hfstk:s_A n.kind≥1→0≤n.a∧(A.set z.toNat (j:Int))[n.a.toNat]?=some ((posOf (xs.take j) n.a:Nat):Int)∧posOf (xs.take j) n.a<65537:=fun h=>hkin _ (jTY h)
  have hsndk:s_A n.kind=2→0≤n.b∧(A.set z.toNat (j:Int))[n.b.toNat]?=some ((posOf (xs.take j) n.b:Nat):Int)∧posOf (xs.take j) n.b<65537:=fun h=>hkin _ (jTX h)
  refine ⟨fun hcn w12 hs12=>?_,fun hcn w12 hs12=>?_⟩
  ·have T12:=T11.hst S hs12
   have e:n.frm=((n.frm.toNat:Nat):Int):=by omega
   rw [e,yM (by omega)]
   refine (tB s2 _ n.frm.toNat w12 T12.rows.lst (by rw [List.length_append,List.length_singleton];omega) (by omega)).mono ?_
   rintro _ w16 ⟨r,rfl,hr⟩
   have:=vX (n:=n.frm.toNat) (by omega)
   refine ⟨r,rfl,hr.kept,?_⟩
   refine c_tx2 w0 q S j n (posOf (xs.take j) n.a) (posOf (xs.take j) n.b) ⟨t0,t1⟩ hnum x1 hfstk hsndk (T12.call hr) (by rw [List.length_append,List.length_append,List.length_singleton];omega) _ _ (fun b' H' w' h=>hfin b' H' w' ?_)
   rw [hcn];exact h
  ·have T12:=T11.hst S hs12
   refine c_tx2 w0 q S j n (posOf (xs.take j) n.a) (posOf (xs.take j) n.b) ⟨t0,t1⟩ hnum x1 hfstk hsndk T12 (by rw [List.length_append,List.length_singleton];omega) _ _ (fun b' H' w' h=>hfin b' H' w' ?_)
   rw [hcn]
   simp only [Sp.opt,Bool.false_eq_true,if_false,List.append_nil] at h ⊢
   exact h
 ·have hc:=xS hlen hj hc
  subst hc
  rw [List.take_length] at hT
  exact ⟨hT.rows,fun x hx=>by have:=(hT.own x hx).1;have:=S.base;omega,hT.pure⟩
theorem jFL (q:Addr) (t:Int) (w0:World) {L:Sp.Pool} {FR:NP} (hW:Sp.Wf L) (hN:Sp.uI L) (hP:qY w0 q L FR) :
  Calls prog 108 #[.pointer (some q),.int .i64 t] w0 (fun e w'=>∃r:Sl,∃n:Int,e=.returned (.tuple #[r.v,.int .i64 n])∧(n=(jKW L t).2∧RetO w0 5 1 (byr (jKW L t).1) r w')):=by
 refine w_H3 _ _ w0 (fun r n w'=>n=(jKW L t).2∧RetO w0 5 1 (byr (jKW L t).1) r w') ?_
 unfold m_H3
 have hnil:∀b,¬ Sl.nil.blk b:=fun b hb=>by obtain ⟨a,h,_⟩:=hb;cases h
 refine (xH q t w0 hP).mono ?_
 rintro _ _ ⟨_,rfl,rfl,rfl⟩
 refine ⟨_,rfl,fun hc=>?_,fun hc=>?_⟩
 ·have hin:Sp.inP L t=false:=by simpa using hc
  have e:jKW L t=([],51):=by unfold jKW;rw [hin];rfl
  rw [e]
  exact ⟨rfl,Rws.nil _ _ _,fun b hb=>(hnil b hb).elim,Ext.refl _⟩
 ·have hin:Sp.inP L t=true:=by simpa using hc
  refine (jJZ q t _ hW hN hP).mono ?_
  rintro _ w4 ⟨r2,rfl,h⟩
  have hl:r2.len=(yV L t).length:=by rw [h.rows.len,qO]
  refine ⟨r2,rfl,fun hc=>?_,fun hc=>?_⟩
  ·have hc:=of_decide_eq_true hc
   have e:jKW L t=([],1):=by unfold jKW;rw [hin,if_pos rfl,if_pos (by omega)]
   rw [e]
   exact ⟨rfl,Rws.nil _ _ _,fun b hb=>(hnil b hb).elim,h.pure⟩
  ·have hc:=of_decide_eq_false hc
   have e:jKW L t=(yV L t,0):=by unfold jKW;rw [hin,if_pos rfl,if_neg (by omega)]
   rw [e]
   exact ⟨rfl,h⟩
end Go.Proofs
end
section
open Go Go.SE
namespace Go.Sp
theorem uQ {L:Pool} (h:Wf L) (l:Letter):Wf (Go.Proofs.zU L l).2.2:=by
 unfold Go.Proofs.zU;split
 ·exact h
 ·exact of_wf h _
end Go.Sp
end
section
open Go Go.SE
namespace Go.Sp
open Go.Proofs
def yU (l:Letter):List UInt8×Int:=if (zU [] l).2.1≠0 then ([],(zU [] l).2.1) else jKW (zU [] l).2.2 (zU [] l).1
def jQG (l:Letter):ByteArray:=⟨(yU l).1.toArray⟩
theorem lC {k f t u:Int} {x:ByteArray} {a:Tree} (h:uO u) (ha:NumT a):NumT (.mk k f t u x [a]):=.mk _ _ _ _ _ _ h (fun i hi=>by
 have:i=0:=by simpa using hi
 subst this;exact ha)
theorem lB {k f t u:Int} {x:ByteArray} {a b:Tree} (h:uO u) (ha:NumT a) (hb:NumT b):NumT (.mk k f t u x [a,b]):=.mk _ _ _ _ _ _ h (fun i hi=>by
 have:i=0∨i=1:=by simp at hi;omega
 rcases this with rfl | rfl
 ·exact ha
 ·exact hb)
theorem yA {k f t u:Int} {x:ByteArray} (h:uO u):NumT (.mk k f t u x []):=.mk _ _ _ _ _ _ h (fun i hi=>by simp at hi)
theorem jDX:uO 0:=⟨by decide,by decide⟩
theorem jQY {c:Int} {x:ByteArray} (h:uO c):NumT (qF c x):=lB jDX (yA jDX) (lB jDX (yA h) (yA jDX))
theorem jLN {l:Letter} (h:uO l.c) (a b:Bool):NumT (vA l a b):=by
 unfold vA;have hd:=jQY (x:=l.text) h;split;· exact lC jDX hd
 split;· exact lC jDX hd
 split;· exact lC jDX (lB jDX (yA jDX) (yA h))
 split;· exact lC jDX (lB jDX (yA jDX) (lB jDX (lC jDX hd) (lC jDX hd)))
 split;· exact lC jDX (lB jDX (yA jDX) (yA h))
 split;· exact lC jDX (lB jDX (yA jDX) hd)
 exact lB jDX (yA jDX) (yA h)
theorem tG {L:Pool} (hN:uI L) {l:Letter} (h:uO l.c):uI (zU L l).2.2:=by
 unfold zU;split
 ·exact hN
 ·exact hN.of (jLN h _ _)
theorem jAK {L:Pool} (hok:Ok L) (l:Letter):∃M,(zU L l).2.2=L++M:=by
 unfold zU;split
 ·exact ⟨[],(List.append_nil L).symm⟩
 ·exact jTQ hok _
end Go.Sp
end
section
open Go Go.SE
namespace Go.Sp
open Go.Proofs
open Classical in
noncomputable def yT (G:List Int):List Letter→Pool→Int×Pool
 | [],L=>(0,L)
 | l :: ls,L=>if (zU L l).2.1=0∧Drv (zU L l).2.2 (Seen (zU L l).2.2 G) (zU L l).1 then ((zU L l).1,(zU L l).2.2) else yT G ls (zU L l).2.2
def evs (who c:Int) (x:ByteArray):List Letter:=[⟨2,who,c,x,false⟩,⟨6,0,c,x,false⟩]
noncomputable def uZ (L:Pool) (G:List Int) (who c:Int) (x:ByteArray):Int×Pool:=if uM who=true then yT G (evs who c x) L else (0,L)
open Classical in
noncomputable def keyS (L:Pool) (G:List Int) (n:Int):Bool:=match find L (vL n) with | some i=>decide (Seen L G ((i:Int)+1)) | none=>false
noncomputable def jFJ (L:Pool) (G:List Int) (who:Int):Bool:=uM who && (keyS L G who || keyS L G 2)
end Go.Sp
end
section
open Go Go.SE
open Go.IntKind renaming i64 → q6
namespace Go.Proofs
open Tryz
set_option maxRecDepth 100000
set_option maxHeartbeats 4000000
attribute [local irreducible] wpL wpX opE wpE Calls
def m_Z4 (aD aE aF:Int) (aG:ByteArray) (aH:Bool) (w0:World) (K:ByteArray→WP):Prop :=∀(H1:NP) (w1:World),Hst w0 None w0 H1 w1→Calls prog 48 #[(.agg #[(vi aD),(vi aE),(vu aF),(vs aG),(vb aH)])] w1 (fun e w2=>∃r1:Sl,∃r2:Int,e=.returned (.tuple #[r1.v,(vi r2)])∧Kept H1 w1 w2∧∃c1:ByteArray,(convert 65 9 r1.v).run prog w2=.ok (vs c1) w2∧K c1 w2)
theorem w_Z4 (aD aE aF:Int) (aG:ByteArray) (aH:Bool) (w0:World) (K:ByteArray→WP) (h:m_Z4 aD aE aF aG aH w0 K) :
  Calls prog 12 #[(.agg #[(vi aD),(vi aE),(vu aF),(vs aG),(vb aH)])] w0 (fun e w'=>∃r3:ByteArray,e=.returned (vs r3)∧K r3 w'):=by
 refine cw (args:=[(.agg #[(vi aD),(vi aE),(vu aF),(vs aG),(vb aH)])]) func12 ntmps12 ?_
 obtain ⟨hs,hb⟩:=st0 w0
 refine eg (nw3 [(vi aD),(vi aE),(vu aF),(vs aG),(vb aH)] 30 hs hb xb fun p1 w1 H1 hs hb=>?_)
 refine q (ln (eg (q2 (.agg #[(vi aD),(vi aE),(vu aF),(vs aG),(vb aH)]) (xa p1 [(vi aD),(vi aE),(vu aF),(vs aG),(vb aH)] (isAgg30 _) (sizeOf30 _) (hb.r0 0 5 gZ)) ?_)))
 have ⟨h,hs⟩:=hs.hr (h H1 w1)
 refine sc call48 (h.mono fun e w2 ⟨r1,r2,k,hk,h⟩=>have ⟨hs,hb⟩:=hk.hh hs hb;⟨_,k,?_⟩)
 refine q (qd (ln (eg (q ?_))))
 obtain ⟨c1,hv1,h⟩:=h
 refine q2 (vs c1) (jBF (by kernel_rfl) hv1) (q (ln (er (rs1 results12 ⟨c1,rfl,h⟩))))
def s_V1 (e1:Int):Int :=e1
theorem pw_V1 (e1:Int) (w0:World) :
  Calls prog 22 #[(vi e1)] w0 (fun e w'=>(e=.returned (vi e1))∧Pure w0 w'):=by
 refine cw (args:=[(vi e1)]) func22 ntmps22 (eg (q0 (vi 0) (ln (eg (q0 (vi e1) (q0 (vi e1) (ln ?_)))))))
 refine er (rs1 results22 (v:=(vi e1)) ?_)
 exact ⟨by kernel_rfl,Ext.refl _⟩
theorem p_V1 (e1:Int) (w0:World):Calls prog 22 #[(.int .i64 e1)] w0 (fun e w'=>e=.returned (.int .i64 (s_V1 e1))∧Pure w0 w'):=pw_V1 e1 w0
def m_I_j5 (r1:Option Addr) (x4:Bool) (H:NP) (w:World) (K:Bool→WP):Prop :=Br x4 (Calls prog 14 #[(vp r1),(.agg #[(vi 0),(vu 9),(vs (⟨#[120]⟩:ByteArray))])] w (fun e w2=>∃r2:Bool,e=.returned (vb r2)∧Kept H w w2∧K r2 w2)) (K false w)
def m_I_j4 (r1:Option Addr) (x3:Bool) (H:NP) (w:World) (K:Bool→WP):Prop :=Br x3 (Calls prog 15 #[(vp r1),(vi 0)] w (fun e w3=>∃r3:Bool,e=.returned (vb r3)∧Kept H w w3∧m_I_j5 r1 r3 H w3 K)) (m_I_j5 r1 false H w K)
def m_I_j3 (r1:Option Addr) (x2:Bool) (w0:World) (H:NP) (w:World) (K:Bool→WP):Prop :=Br x2 (Calls prog 13 #[(vp r1),(vi 2)] w (fun e w4=>∃r4:Int,e=.returned (vi r4)∧Kept H w w4∧∀(w5:World),Hst w0 H w4 H w5→m_I_j4 r1 (r4 == 2) H w5 K)) (m_I_j4 r1 false H w K)
def m_I_j2 (r1:Option Addr) (a1:Bool) (w0:World) (H:NP) (w:World) (K:Bool→WP):Prop :=Br a1 (Calls prog 13 #[(vp r1),(vi 0)] w (fun e w6=>∃r5:Int,e=.returned (vi r5)∧Kept H w w6∧∀(w7:World),Hst w0 H w6 H w7→m_I_j3 r1 (r5 == 0) w0 H w7 K)) (m_I_j3 r1 false w0 H w K)
def m_I_j6 (r1:Option Addr) (x5:Bool) (w0:World) (H:NP) (w:World) (K:Bool→WP):Prop :=Br x5 (Calls prog 15 #[(vp r1),(vi 1)] w (fun e w9=>∃r7:Bool,e=.returned (vb r7)∧Kept H w w9∧m_I_j2 r1 (!r7) w0 H w9 K)) (m_I_j2 r1 false w0 H w K)
def m_I_j1 (r1:Option Addr) (x1:Bool) (w0:World) (H:NP) (w:World) (K:Bool→WP):Prop :=Br x1 (K false w) (Calls prog 14 #[(vp r1),(.agg #[(vi 1),(vu 7),(vs (⟨#[116]⟩:ByteArray))])] w (fun e w8=>∃r6:Bool,e=.returned (vb r6)∧Kept H w w8∧Br r6 (Calls prog 14 #[(vp r1),(.agg #[(vi 0),(vu 7),(vs (⟨#[116]⟩:ByteArray))])] w8 (fun e w10=>∃r8:Bool,e=.returned (vb r8)∧Kept H w8 w10∧m_I_j6 r1 (!r8) w0 H w10 K)) (m_I_j6 r1 false w0 H w8 K)))
def m_I  (w0:World) (K:Bool→WP):Prop :=Calls prog 10 #[] w0 (fun e w1=>∃r1:Option Addr,e=.returned (vp r1)∧Kept None w0 w1∧Br (Option.isNone r1) (K false w1) (Calls prog 12 #[(.agg #[(vi 2),(vi 1),(vu 7),(vs (⟨#[116]⟩:ByteArray)),(vb false)])] w1 (fun e w11=>∃r9:ByteArray,e=.returned (vs r9)∧Kept None w1 w11∧Calls prog 11 #[(vp r1),(vs r9)] w11 (fun e w12=>∃r10:Bool,e=.returned (vb r10)∧Kept None w11 w12∧Br (!r10) (m_I_j1 r1 true w0 None w12 K) (Calls prog 11 #[(vp r1),(vs (⟨#[120]⟩:ByteArray))] w12 (fun e w13=>∃r11:Bool,e=.returned (vb r11)∧Kept None w12 w13∧m_I_j1 r1 r11 w0 None w13 K))))))
theorem w_I  (w0:World) (K:Bool→WP) (h:m_I  w0 K) :
  Calls prog 9 #[] w0 (fun e w'=>∃r12:Bool,e=.returned (vb r12)∧K r12 w'):=by
 refine cw (args:=[]) func9 ntmps9 ?_
 obtain ⟨hs,hb⟩:=st0 w0
 refine eg (q (ln (eg ?_)))
 refine sc call10 (h.mono fun e w1 ⟨r1,k,hk,h⟩=>have ⟨hs,hb⟩:=hk.hh hs hb;⟨_,k,?_⟩)
 refine q (ln (zA (eg (q (q2 (vb (Option.isNone r1)) (vY (by kernel_rfl) rfl underlying27) (ln ?_))))))
 refine cbr h ?_ ?_<;>intro h
 refine eg (q (ln (er (vF (rs1 results9 ⟨false,rfl,h⟩)))))
 refine zC (zK (zA (zA ?_)))
 refine vE (fun ρ w=>∃x1:Bool,∃H:NP,Has ρ [(1,(vp r1)),(14,(vb x1))]∧Hst w0 H w H w∧HB H w []∧m_I_j1 r1 x1 w0 H w K) ?_ ?_
 rintro ρ w ⟨x1,H,hH,hs,hb,h⟩
 refine zW hH ?_
 refine cbr h ?_ ?_<;>intro h
 refine eg (q (ln (er (vF (rs1 results9 ⟨false,rfl,h⟩)))))
 refine zC (zK (zA ?_))
 refine vE (fun ρ w=>∃a1:Bool,∃H:NP,Has ρ [(1,(vp r1)),(2,(vb a1))]∧Hst w0 H w H w∧HB H w []∧m_I_j2 r1 a1 w0 H w K) ?_ ?_
 rintro ρ w ⟨a1,H,hH,hs,hb,h⟩
 refine zW hH ?_
 refine eg (qb ?_)
 refine zI 5 (fun ρ w=>∃x2:Bool,∃H:NP,Has ρ [(1,(vp r1)),(35,(vb x2))]∧Hst w0 H w H w∧HB H w []∧m_I_j3 r1 x2 w0 H w K) ?_ ?_
 rintro ρ w ⟨x2,H,hH,hs,hb,h⟩
 refine zM hH ?_
 refine q ?_
 refine zI 5 (fun ρ w=>∃x3:Bool,∃H:NP,Has ρ [(1,(vp r1)),(41,(vb x3))]∧Hst w0 H w H w∧HB H w []∧m_I_j4 r1 x3 H w K) ?_ ?_
 rintro ρ w ⟨x3,H,hH,hs,hb,h⟩
 refine zM hH ?_
 refine q ?_
 refine zI 3 (fun ρ w=>∃x4:Bool,∃H:NP,Has ρ [(1,(vp r1)),(45,(vb x4))]∧Hst w0 H w H w∧HB H w []∧m_I_j5 r1 x4 H w K) ?_ ?_
 rintro ρ w ⟨x4,H,hH,hs,hb,h⟩
 refine zM hH ?_
 refine q ?_
 obtain ⟨hg1,h⟩|⟨hg1,h⟩:=h.br
 refine qk 46 hg1 (qk 46 hg1 ?_)
 refine kZ (wy 46 hg1) (xc call14) (h.mono ?_)
 rintro e w2 ⟨r2,rfl,hk,h⟩
 refine ⟨_,rfl,?_⟩
 obtain ⟨hs,hb⟩:=hk.hh hs hb
 refine q2 (vb r2) (xT hg1) (q (ln (er (rs1 results9 ⟨r2,rfl,h⟩))))
 refine sj 46 hg1 (sj 46 hg1 (sj 46 hg1 (q2 (vb false) (xF hg1) (q (ln (er (rs1 results9 ⟨false,rfl,h⟩)))))))
 obtain ⟨hg2,h⟩|⟨hg2,h⟩:=h.br
 refine qk 42 hg2 ?_
 refine kZ (wy 42 hg2) (xc call15) (h.mono ?_)
 rintro e w3 ⟨r3,rfl,hk,h⟩
 refine ⟨_,rfl,?_⟩
 obtain ⟨hs,hb⟩:=hk.hh hs hb
 refine q2 (vb r3) (xT hg2) (zB ?_)
 exact ⟨r3,H,hm,hs,hb,h⟩
 refine sj 42 hg2 (sj 42 hg2 (q2 (vb false) (xF hg2) (zB ?_)))
 exact ⟨false,H,hm,hs,hb,h⟩
 obtain ⟨hg3,h⟩|⟨hg3,h⟩:=h.br
 refine qk 36 hg3 ?_
 refine kZ (wy 36 hg3) (xc call13) (h.mono ?_)
 rintro e w4 ⟨r4,rfl,hk,h⟩
 refine ⟨_,rfl,?_⟩
 obtain ⟨hs,hb⟩:=hk.hh hs hb
 refine kZ (wy 36 hg3) (xc call22) ((p_V1 r4 w4).mono ?_)
 rintro e w5 ⟨he,hE⟩
 refine ⟨_,he,?_⟩
 obtain ⟨hs,hb⟩:=hs.pp hb hE
 refine qk 36 hg3 (q2 (vb (r4 == 2)) (xT hg3) (zB ?_))
 have ⟨h,hs⟩:=hs.hr (h w5)
 exact ⟨(r4 == 2),H,hm,hs,hb,h⟩
 refine sj 36 hg3 (sj 36 hg3 (sj 36 hg3 (sj 36 hg3 (q2 (vb false) (xF hg3) (zB ?_)))))
 exact ⟨false,H,hm,hs,hb,h⟩
 obtain ⟨hg4,h⟩|⟨hg4,h⟩:=h.br
 refine qk 30 hg4 ?_
 refine kZ (wy 30 hg4) (xc call13) (h.mono ?_)
 rintro e w6 ⟨r5,rfl,hk,h⟩
 refine ⟨_,rfl,?_⟩
 obtain ⟨hs,hb⟩:=hk.hh hs hb
 refine kZ (wy 30 hg4) (xc call22) ((p_V1 r5 w6).mono ?_)
 rintro e w7 ⟨he,hE⟩
 refine ⟨_,he,?_⟩
 obtain ⟨hs,hb⟩:=hs.pp hb hE
 refine qk 30 hg4 (q2 (vb (r5 == 0)) (xT hg4) (zB ?_))
 have ⟨h,hs⟩:=hs.hr (h w7)
 exact ⟨(r5 == 0),H,hm,hs,hb,h⟩
 refine sj 30 hg4 (sj 30 hg4 (sj 30 hg4 (sj 30 hg4 (q2 (vb false) (xF hg4) (zB ?_)))))
 exact ⟨false,H,hm,hs,hb,h⟩
 refine rg (qb ?_)
 refine sc call14 (h.mono fun e w8 ⟨r6,k,hk,h⟩=>have ⟨hs,hb⟩:=hk.hh hs hb;⟨_,k,?_⟩)
 refine q ?_
 refine zI 5 (fun ρ w=>∃x5:Bool,∃H:NP,Has ρ [(1,(vp r1)),(23,(vb x5))]∧Hst w0 H w H w∧HB H w []∧m_I_j6 r1 x5 w0 H w K) ?_ ?_
 rintro ρ w ⟨x5,H,hH,hs,hb,h⟩
 refine zM hH ?_
 refine q ?_
 obtain ⟨hg5,h⟩|⟨hg5,h⟩:=h.br
 refine qk 24 hg5 ?_
 refine kZ (wy 24 hg5) (xc call15) (h.mono ?_)
 rintro e w9 ⟨r7,rfl,hk,h⟩
 refine ⟨_,rfl,?_⟩
 obtain ⟨hs,hb⟩:=hk.hh hs hb
 refine qk 24 hg5 (q2 (vb (!r7)) (xT hg5) (q (ln ?_)))
 exact ⟨(!r7),H,hm,hs,hb,h⟩
 refine sj 24 hg5 (sj 24 hg5 (sj 24 hg5 (q2 (vb false) (xF hg5) (q (ln ?_)))))
 exact ⟨false,H,hm,hs,hb,h⟩
 obtain ⟨hg6,h⟩|⟨hg6,h⟩:=h.br
 refine qk 18 hg6 (qk 18 hg6 ?_)
 refine kZ (wy 18 hg6) (xc call14) (h.mono ?_)
 rintro e w10 ⟨r8,rfl,hk,h⟩
 refine ⟨_,rfl,?_⟩
 obtain ⟨hs,hb⟩:=hk.hh hs hb
 refine qk 18 hg6 (q2 (vb (!r8)) (xT hg6) (zB ?_))
 exact ⟨(!r8),H,hm,hs,hb,h⟩
 refine sj 18 hg6 (sj 18 hg6 (sj 18 hg6 (sj 18 hg6 (q2 (vb false) (xF hg6) (zB ?_)))))
 exact ⟨false,H,hm,hs,hb,h⟩
 refine rg (qb ?_)
 refine sc call12 (h.mono fun e w11 ⟨r9,k,hk,h⟩=>have ⟨hs,hb⟩:=hk.hh hs hb;⟨_,k,?_⟩)
 refine sc call11 (h.mono fun e w12 ⟨r10,k,hk,h⟩=>have ⟨hs,hb⟩:=hk.hh hs hb;⟨_,k,?_⟩)
 refine qb ?_
 obtain ⟨hg7,h⟩|⟨hg7,h⟩:=h.br
 refine sj 11 hg7 (sj 11 hg7 (q2 (vb true) (xT hg7) (ln ?_)))
 exact ⟨true,None,hm,hs,hb,h⟩
 refine qk 11 hg7 ?_
 refine kZ (wy 11 hg7) (xc call11) (h.mono ?_)
 rintro e w13 ⟨r11,rfl,hk,h⟩
 refine ⟨_,rfl,?_⟩
 obtain ⟨hs,hb⟩:=hk.hh hs hb
 refine q2 (vb r11) (xF hg7) (ln ?_)
 exact ⟨r11,None,hm,hs,hb,h⟩
def m_M_j2 (l1:Sl) (i1 n2:Int) (H:NP) (w:World) (Kc1:Int→Int→NP→WP) (K:Bool→WP):Prop :=∃a4:Addr,At l1 i1 9 a4∧∃v4:Sl,w.cell? (a4.add 8)=some v4.v∧Br (decide ((v4.len:Int)>265)) (K true w) (Kc1 n2 (q6.wrap (i1+1)) H w)
def m_M_j4 (l1:Sl) (i1 n3 k1:Int) (x1:Bool) (H:NP) (w:World) (Kc1:Int→Int→NP→WP) (Kc3:Int→Int→NP→WP) (K:Bool→WP):Prop :=Br x1 (∃a5:Addr,At l1 i1 9 a5∧∃v5:Sl,w.cell? (a5.add 8)=some v5.v∧∃a6:Addr,At v5 k1 5 a6∧∃v6:ByteArray,w.cell? (a6.add 4)=some (vs v6)∧Kc3 (q6.wrap (n3+(v6.size:Int))) (q6.wrap (k1+1)) H w) (m_M_j2 l1 i1 n3 H w Kc1 K)
def m_M_l3 (l1:Sl) (i1 n3 k1:Int) (w0:World) (Hl2:NP) (wl2:World) (Kc1:Int→Int→NP→WP) (Kc3:Int→Int→NP→WP) (K:Bool→WP):Prop :=∃a7:Addr,At l1 i1 9 a7∧∃v7:Sl,wl2.cell? (a7.add 8)=some v7.v∧∀(H2:NP) (w3:World),Hst w0 Hl2 wl2 H2 w3→m_M_j4 l1 i1 n3 k1 ((decide (k1<(v7.len:Int))) && (decide (k1≤256))) H2 w3 Kc1 Kc3 K
def m_M_l1 (l1:Sl) (n1 i1:Int) (w0:World) (Hl1:NP) (wl1:World) (Kc1:Int→Int→NP→WP) (K:Bool→WP):Prop :=Br ((decide (i1<(l1.len:Int))) && (decide (i1≤60))) (∃a1:Addr,At l1 i1 9 a1∧∀(H1:NP) (w2:World),Hst w0 Hl1 wl1 H1 w2→∃v1:ByteArray,w2.cell? (a1.add 1)=some (vs v1)∧∃a2:Addr,At l1 i1 9 a2∧∃v2:ByteArray,w2.cell? ((a2.add 2).add 3)=some (vs v2)∧∃a3:Addr,At l1 i1 9 a3∧∃v3:Sl,w2.cell? (a3.add 8)=some v3.v∧∃(I2:Int→Int→NP→WP) (mu2:Int→Int→World→Nat),I2 (q6.wrap ((q6.wrap ((q6.wrap (n1+(v1.size:Int)))+(v2.size:Int)))+(v3.len:Int))) 0 H1 w2∧∀(n3 k1:Int) (Hl2:NP) (wl2:World),Hst w0 Hl2 wl2 Hl2 wl2→I2 n3 k1 Hl2 wl2→m_M_l3 l1 i1 n3 k1 w0 Hl2 wl2 Kc1 (fun y'0 y'1 H' w'=>I2 y'0 y'1 H' w'∧mu2 y'0 y'1 w'<mu2 n3 k1 wl2) K) (∀(H4:NP) (w5:World),Hst w0 Hl1 wl1 H4 w5→K ((decide ((l1.len:Int)>60)) || (decide (n1>60000))) w5)
def m_M (l1:Sl) (w0:World) (K:Bool→WP):Prop :=∃(I1:Int→Int→NP→WP) (mu1:Int→Int→World→Nat),I1 0 0 None w0∧∀(n1 i1:Int) (Hl1:NP) (wl1:World),Hst w0 Hl1 wl1 Hl1 wl1→I1 n1 i1 Hl1 wl1→m_M_l1 l1 n1 i1 w0 Hl1 wl1 (fun y'0 y'1 H' w'=>I1 y'0 y'1 H' w'∧mu1 y'0 y'1 w'<mu1 n1 i1 wl1) K
theorem w_M (l1:Sl) (w0:World) (K:Bool→WP) (h:m_M l1 w0 K) :
  Calls prog 16 #[l1.v] w0 (fun e w'=>∃r1:Bool,e=.returned (vb r1)∧K r1 w'):=by
 refine cw (args:=[l1.v]) func16 ntmps16 ?_
 obtain ⟨hs,hb⟩:=st0 w0
 refine eg (q (ln (eg (q (ln (zA (zA ?_)))))))
 refine rg (q (ln (zJ ?_)))
 obtain ⟨I1,mu1,h0,hr⟩:=h
 refine vP (σ:=Int×Int×NP×World) (fun s ρ w=>w=s.2.2.2∧Has ρ [(0,l1.v),(3,(vi s.1)),(4,(vi s.2.1))]∧Hst w0 s.2.2.1 w s.2.2.1 w∧HB s.2.2.1 w []∧I1 s.1 s.2.1 s.2.2.1 s.2.2.2) (fun s=>mu1 s.1 s.2.1 s.2.2.2) (0,0,None,w0) ⟨rfl,hm,hs,hb,h0⟩ ?_
 rintro ⟨n1,i1,Hl1,wl1⟩ ρ w ⟨hw,hH,hs,hb,hI⟩
 dsimp only at hw hH hs hb;subst w
 have h:=hr n1 i1 Hl1 wl1 hs hI
 refine zW hH ?_
 refine zA (zA ?_)
 refine vK (fun ρ wJ=>∃b1'0:Bool,∃HJ:NP,((decide (i1<(l1.len:Int)))=b1'0)∧Hst w0 Hl1 wl1 HJ wJ∧HB HJ wJ []∧Has ρ [(0,l1.v),(3,(vi n1)),(4,(vi i1)),(13,(vb (b1'0 && (decide (i1≤60)))))]) ?_ ?_
 refine rg (q (qd ?_))
 rcases bte (decide (i1<(l1.len:Int))) with hg2 | hg2
 refine qk 10 hg2 (qk 10 hg2 (q2 (vb (decide (i1≤60))) (xT hg2) (ln ?_)))
 exact ⟨true,_,hg2,hs,hb,hm⟩
 refine sj 10 hg2 (sj 10 hg2 (q2 (vb false) (xF hg2) (ln ?_)))
 exact ⟨false,_,hg2,hs,hb,hm⟩
 rintro ρ w1 ⟨b1'0,H1,he0,hs,hb,hH⟩
 subst he0
 refine vD hH ?_
 refine zK ?_
 refine cbr h ?_ ?_<;>intro h
 refine zC (zK (zA (zJ (zA (qE (by kernel_rfl) (by kernel_rfl) (by kernel_rfl) (by kernel_rfl) ?_)))))
 intro w2 hw2
 have hs:Hst w0 Hl1 wl1 H1 w2:=by rw [hw2];exact hs.drew
 have hb:HB H1 w2 []:=by rw [hw2];exact hb.drew
 refine qq 0 (vi n1) Kp0 (qq 1 l1.v Kp1 (qq 2 (vi i1) Kp2 (qg 3 ?_)))
 obtain ⟨a1,hv14,h⟩:=h
 refine sxQ Kp3 (zL rfl) rfl (xi (runUnderlying38 _) (sizeOf46 _) hv14) (qq 4 (vp (some (a1.add 1))) Kp4 (qg 5 ?_))
 have ⟨h,hs⟩:=hs.hr (h H1 w2)
 obtain ⟨v1,hv13,h⟩:=h
 refine sxQ Kp5 (zL rfl) rfl (xl (isAgg9 _) hv13) (qq 6 (vi (v1.size:Int)) Kp6 (qq 7 (vi (q6.wrap (n1+(v1.size:Int)))) Kp7 (qq 8 l1.v Kp8 (qq 9 (vi i1) Kp9 (qg 10 ?_)))))
 obtain ⟨a2,hv12,h⟩:=h
 refine sxQ (zT (S8 (zH (zH zS)))) (zL rfl) rfl (xi (runUnderlying38 _) (sizeOf46 _) hv12) (qq 11 (vp (some (a2.add 2))) (zT (S8 (zH (zH (zH zS))))) (qq 12 (vp (some ((a2.add 2).add 3))) (zT (S8 (S4 zS))) (qg 13 ?_)))
 obtain ⟨v2,hv11,h⟩:=h
 refine sxQ (zT (S8 (S4 (zH zS)))) (zL rfl) rfl (xl (isAgg9 _) hv11) (qq 14 (vi (v2.size:Int)) (zT (S8 (S4 (zH (zH zS))))) (qq 15 (vi (q6.wrap ((q6.wrap (n1+(v1.size:Int)))+(v2.size:Int)))) (zT (S8 (S4 (zH (zH (zH zS)))))) (qq 16 l1.v (zT (S8 (S8 zS))) (qq 17 (vi i1) (zT (S8 (S8 (zH zS)))) (qg 18 ?_)))))
 obtain ⟨a3,hv10,h⟩:=h
 refine sxQ (zT (S8 (S8 (zH (zH zS))))) (zL rfl) rfl (xi (runUnderlying38 _) (sizeOf46 _) hv10) (qq 19 (vp (some (a3.add 8))) (zT (S8 (S8 (zH (zH (zH zS)))))) (qg 20 ?_))
 obtain ⟨v3,hv9,h⟩:=h
 refine sxQ (zT (S8 (S8 (S4 zS)))) (zL rfl) rfl (xl (isAgg44 _) hv9) (qq 21 (vi (v3.len:Int)) (zT (S8 (S8 (S4 (zH zS))))) (qq 22 (vi (q6.wrap ((q6.wrap ((q6.wrap (n1+(v1.size:Int)))+(v2.size:Int)))+(v3.len:Int)))) (zT (S8 (S8 (S4 (zH (zH zS)))))) (qq 23 (vi (q6.wrap ((q6.wrap ((q6.wrap (n1+(v1.size:Int)))+(v2.size:Int)))+(v3.len:Int)))) (zT (S8 (S8 (S4 (zH (zH (zH zS))))))) (wn (zK (zA (eg (q (ln ?_)))))))))
 refine vE (fun ρ w=>∃n2:Int,∃H:NP,Has ρ [(0,l1.v),(3,(vi n2)),(4,(vi i1))]∧Hst w0 H w H w∧HB H w []∧m_M_j2 l1 i1 n2 H w (fun y'0 y'1 H' w'=>I1 y'0 y'1 H' w'∧mu1 y'0 y'1 w'<mu1 n1 i1 wl1) K) ?_ ?_
 rintro ρ w ⟨n2,H,hH,hs,hb,h⟩
 refine zW hH ?_
 refine eg (qb ?_)
 refine qi (runUnderlying38 _) (sizeOf46 _) h fun a4 h=>q ?_
 refine ql (isAgg44 _) h fun v4 h=>qb (ln ?_)
 refine cbr h ?_ ?_<;>intro h
 refine eg (q (ln (er (uC (vF (vF (uC (vF (rs1 results16 ⟨true,rfl,h⟩)))))))))
 refine zC (xW (zK (rg (qc (ln ?_)))))
 exact ⟨(n2,(q6.wrap (i1+1)),H,w),⟨rfl,hm,hs,hb,h.1⟩,h.2⟩
 refine zJ ?_
 obtain ⟨I2,mu2,h0,hr⟩:=h
 refine vP (σ:=Int×Int×NP×World) (fun s ρ w=>w=s.2.2.2∧Has ρ [(0,l1.v),(3,(vi s.1)),(4,(vi i1)),(5,(vi s.2.1))]∧Hst w0 s.2.2.1 w s.2.2.1 w∧HB s.2.2.1 w []∧I2 s.1 s.2.1 s.2.2.1 s.2.2.2) (fun s=>mu2 s.1 s.2.1 s.2.2.2) ((q6.wrap ((q6.wrap ((q6.wrap (n1+(v1.size:Int)))+(v2.size:Int)))+(v3.len:Int))),0,H1,w2) ⟨rfl,hm,hs,hb,h0⟩ ?_
 rintro ⟨n3,k1,Hl2,wl2⟩ ρ w ⟨hw,hH,hs,hb,hI⟩
 dsimp only at hw hH hs hb;subst w
 have h:=hr n3 k1 Hl2 wl2 hs hI
 refine zW hH ?_
 refine zA (zA ?_)
 refine vE (fun ρ w=>∃x1:Bool,∃H:NP,Has ρ [(0,l1.v),(3,(vi n3)),(4,(vi i1)),(5,(vi k1)),(50,(vb x1))]∧Hst w0 H w H w∧HB H w []∧m_M_j4 l1 i1 n3 k1 x1 H w (fun y'0 y'1 H' w'=>I1 y'0 y'1 H' w'∧mu1 y'0 y'1 w'<mu1 n1 i1 wl1) (fun y'0 y'1 H' w'=>I2 y'0 y'1 H' w'∧mu2 y'0 y'1 w'<mu2 n3 k1 wl2) K) ?_ ?_
 rintro ρ w ⟨x1,H,hH,hs,hb,h⟩
 refine zW hH ?_
 refine cbr h ?_ ?_<;>intro h
 refine zC (zK (zA (zJ (rg (qc ?_)))))
 refine qi (runUnderlying38 _) (sizeOf46 _) h fun a5 h=>q ?_
 refine ql (isAgg44 _) h fun v5 h=>q ?_
 refine qi (runUnderlying44 _) (sizeOf109 _) h fun a6 h=>q ?_
 refine ql (isAgg9 _) h fun v6 h=>qc (zB (xW (zK (rg (qc (zB ?_))))))
 refine zK ?_
 exact ⟨((q6.wrap (n3+(v6.size:Int))),(q6.wrap (k1+1)),H,w),⟨rfl,hm,hs,hb,h.1⟩,h.2⟩
 refine vO (uU (uU (uY (zK ?_))))
 exact ⟨n3,H,hm,hs,hb,h⟩
 refine rg (qc ?_)
 refine qi (runUnderlying38 _) (sizeOf46 _) h fun a7 h=>q ?_
 refine ql (isAgg44 _) h fun v7 h=>qc ?_
 refine zI 3 (fun ρ wJ=>∃b2'0:Bool,∃HJ:NP,((decide (k1<(v7.len:Int)))=b2'0)∧Hst w0 Hl2 wl2 HJ wJ∧HB HJ wJ []∧Has ρ [(0,l1.v),(3,(vi n3)),(4,(vi i1)),(5,(vi k1)),(50,(vb (b2'0 && (decide (k1≤256)))))]) ?_ ?_
 rintro ρ w3 ⟨b2'0,H2,he0,hs,hb,hH⟩
 subst he0
 refine zM hH ?_
 refine zB ?_
 have ⟨h,hs⟩:=hs.hr (h H2 w3)
 refine zK ?_
 exact ⟨((decide (k1<(v7.len:Int))) && (decide (k1≤256))),H2,hm,hs,hb,h⟩
 rcases bte (decide (k1<(v7.len:Int))) with hg4 | hg4
 refine qk 47 hg4 (qk 47 hg4 (q2 (vb (decide (k1≤256))) (xT hg4) (zB ?_)))
 exact ⟨true,_,hg4,hs,hb,hm⟩
 refine sj 47 hg4 (sj 47 hg4 (q2 (vb false) (xF hg4) (zB ?_)))
 exact ⟨false,_,hg4,hs,hb,hm⟩
 refine vO (uU (uU (uY (zK (zA ?_)))))
 refine vK (fun ρ wJ=>∃HJ:NP,Hst w0 Hl1 wl1 HJ wJ∧HB HJ wJ []∧Has ρ [(2,(vb ((decide ((l1.len:Int)>60)) || (decide (n1>60000)))))]) ?_ ?_
 refine rg (qd ?_)
 refine zI 3 (fun ρ wJ=>∃b5'0:Bool,∃HJ:NP,((decide ((l1.len:Int)>60))=b5'0)∧Hst w0 Hl1 wl1 HJ wJ∧HB HJ wJ []∧Has ρ [(78,(vb (b5'0 || (decide (n1>60000)))))]) ?_ ?_
 rintro ρ w6 ⟨b5'0,H5,he0,hs,hb,hH⟩
 subst he0
 refine zM hH ?_
 refine q (ln ?_)
 exact ⟨_,hs,hb,hm⟩
 rcases bte (decide ((l1.len:Int)>60)) with hg8 | hg8
 refine sj 75 hg8 (sj 75 hg8 (q2 (vb true) (xT hg8) (zB ?_)))
 exact ⟨true,_,hg8,hs,hb,hm⟩
 refine qk 75 hg8 (qk 75 hg8 (q2 (vb (decide (n1>60000))) (xF hg8) (zB ?_)))
 exact ⟨false,_,hg8,hs,hb,hm⟩
 rintro ρ w5 ⟨H4,hs,hb,hH⟩
 refine vD hH ?_
 refine zK (er ?_)
 have ⟨h,hs⟩:=hs.hr (h H4 w5)
 refine rs1 results16 ⟨((decide ((l1.len:Int)>60)) || (decide (n1>60000))),rfl,h⟩
def m_B_j10 (x10:Bool) (H:NP) (w:World) (K:Bool→WP):Prop :=Br x10 (Calls prog 9 #[] w (fun e w13=>∃r8:Bool,e=.returned (vb r8)∧Kept H w w13∧K r8 w13)) (K false w)
def m_B_j9 (x9:Bool) (H:NP) (w:World) (K:Bool→WP):Prop :=Br x9 (Calls prog 27 #[(vp none)] w (fun e w14=>∃r9:Option Addr,e=.returned (vp r9)∧Kept H w w14∧m_B_j10 (Option.isNone r9) H w14 K)) (m_B_j10 false H w K)
def m_B_j8 (x8:Bool) (H:NP) (w:World) (K:Bool→WP):Prop :=Br x8 (Calls prog 32 #[(vp none)] w (fun e w15=>∃r10:Int,e=.returned (vi r10)∧Kept H w w15∧m_B_j9 (r10 == 0) H w15 K)) (m_B_j9 false H w K)
def m_B_j7 (r5:Sl) (r6 x7:Bool) (w0:World) (H:NP) (w:World) (K:Bool→WP):Prop :=Br ((x7 && (((r5.len:Int):Int) == 0)) && (!r6)) (∀(H6:NP) (w12:World),Hst w0 H w H6 w12→Calls prog 28 #[(vp none)] w12 (fun e w16=>∃r11:Sl,e=.returned r11.v∧Kept H6 w12 w16∧m_B_j8 (((r11.len:Int):Int) == 0) H6 w16 K)) (∀(H6:NP) (w12:World),Hst w0 H w H6 w12→m_B_j8 false H6 w12 K)
def m_B_j6 (who1:Int) (r5:Sl) (r6 x6:Bool) (w0:World) (H:NP) (w:World) (K:Bool→WP):Prop :=Br x6 (Calls prog 30 #[(vp none),(vi who1),(vu 1)] w (fun e w17=>∃r12:Sl,e=.returned r12.v∧Kept H w w17∧m_B_j7 r5 r6 (((r12.len:Int):Int) == 0) w0 H w17 K)) (m_B_j7 r5 r6 false w0 H w K)
def m_B_j5 (who1:Int) (r5:Sl) (r6 x5:Bool) (w0:World) (H:NP) (w:World) (K:Bool→WP):Prop :=Br x5 (Calls prog 15 #[(vp none),(vi who1)] w (fun e w18=>∃r13:Bool,e=.returned (vb r13)∧Kept H w w18∧m_B_j6 who1 r5 r6 (!r13) w0 H w18 K)) (m_B_j6 who1 r5 r6 false w0 H w K)
def m_B_j4 (who1 aA aB:Int) (aC:ByteArray) (r5:Sl) (r6 x4:Bool) (w0:World) (H:NP) (w:World) (K:Bool→WP):Prop :=Br x4 (Calls prog 14 #[(vp none),(.agg #[(vi aA),(vu aB),(vs aC)])] w (fun e w19=>∃r14:Bool,e=.returned (vb r14)∧Kept H w w19∧m_B_j5 who1 r5 r6 (!r14) w0 H w19 K)) (m_B_j5 who1 r5 r6 false w0 H w K)
def m_B_j3 (who1 aA aB:Int) (aC r2:ByteArray) (r3 r4:Int) (r5:Sl) (r6 x3:Bool) (w0:World) (H:NP) (w:World) (K:Bool→WP):Prop :=Br (((x3 && (decide (r2=⟨#[]⟩))) && (r3 == 7)) && (r4 == 0)) (∀(H4:NP) (w10:World),Hst w0 H w H4 w10→Calls prog 25 #[(vp none),(.agg #[(vi 2),(vi 0),(vi 0),(vu 0),ve,Sl.nil.v])] w10 (fun e w20=>∃r15:Bool,e=.returned (vb r15)∧Kept H4 w10 w20∧m_B_j4 who1 aA aB aC r5 r6 (!r15) w0 H4 w20 K)) (∀(H4:NP) (w10:World),Hst w0 H w H4 w10→m_B_j4 who1 aA aB aC r5 r6 false w0 H4 w10 K)
def m_B_j2 (who1 aA aB:Int) (aC r2:ByteArray) (r3 r4:Int) (r5:Sl) (r6 x2:Bool) (w0:World) (H:NP) (w:World) (K:Bool→WP):Prop :=Br x2 (Calls prog 34 #[(vp none),(vi who1)] w (fun e w21=>∃r16:Bool,e=.returned (vb r16)∧Kept H w w21∧m_B_j3 who1 aA aB aC r2 r3 r4 r5 r6 (!r16) w0 H w21 K)) (m_B_j3 who1 aA aB aC r2 r3 r4 r5 r6 false w0 H w K)
def m_B_j1 (body1:ByteArray) (who1:Int) (l1:Sl) (aA aB:Int) (aC:ByteArray) (x1:Bool) (w0:World) (H:NP) (w:World) (K:Bool→WP):Prop :=Br x1 (Calls prog 9 #[] w (fun e w2=>∃r1:Bool,e=.returned (vb r1)∧Kept H w w2∧K r1 w2)) (Calls prog 20 #[(vp none),l1.v] w (fun e w3=>∃r2:ByteArray,∃r3 r4:Int,e=.returned (.tuple #[(vs r2),(vi r3),(vi r4)])∧Kept H w w3∧Calls prog 19 #[(vp none),(.agg #[(vi aA),(vu aB),(vs aC)])] w3 (fun e w4=>∃r5:Sl,∃r6:Bool,e=.returned (.tuple #[r5.v,(vb r6)])∧Kept H w3 w4∧Calls prog 11 #[(vp none),(vs body1)] w4 (fun e w5=>∃r7:Bool,e=.returned (vb r7)∧Kept H w4 w5∧Br (!r7) (Calls prog 13 #[(vp none),(vi who1)] w5 (fun e w22=>∃r17:Int,e=.returned (vi r17)∧Kept H w5 w22∧∀(w23:World),Hst w0 H w22 H w23→m_B_j2 who1 aA aB aC r2 r3 r4 r5 r6 (r17 == 7) w0 H w23 K)) (m_B_j2 who1 aA aB aC r2 r3 r4 r5 r6 false w0 H w5 K)))))
def m_B (body1:ByteArray) (who1:Int) (l1:Sl) (aA aB:Int) (aC:ByteArray) (w0:World) (K:Bool→WP):Prop :=Br (decide ((body1.size:Int)>60000)) (∀(H1:NP) (w1:World),Hst w0 None w0 H1 w1→m_B_j1 body1 who1 l1 aA aB aC true w0 H1 w1 K) (∀(H1:NP) (w1:World),Hst w0 None w0 H1 w1→∀(p2:Addr) (w24:World),New w1 (.cells #[(vi 0),ve,(vi 0),(vi 0),(vu 0),ve,(vb false),(vi 0),l1.v] 46) p2 w24→Calls prog 16 #[(Sl.mk (some p2) 1 1).v] w24 (fun e w25=>∃r18:Bool,e=.returned (vb r18)∧Kept H1 w24 w25∧m_B_j1 body1 who1 l1 aA aB aC r18 w0 H1 w25 K))
theorem w_B (body1:ByteArray) (who1:Int) (l1:Sl) (aA aB:Int) (aC:ByteArray) (w0:World) (K:Bool→WP) (h:m_B body1 who1 l1 aA aB aC w0 K) :
  Calls prog 8 #[(vs body1),(vi who1),l1.v,(.agg #[(vi aA),(vu aB),(vs aC)])] w0 (fun e w'=>∃r19:Bool,e=.returned (vb r19)∧K r19 w'):=by
 refine cw (args:=[(vs body1),(vi who1),l1.v,(.agg #[(vi aA),(vu aB),(vs aC)])]) func8 ntmps8 ?_
 obtain ⟨hs,hb⟩:=st0 w0
 refine eg (nw3 [(vi aA),(vu aB),(vs aC)] 25 hs hb xb fun p1 w1 H1 hs hb=>?_)
 refine q (ln (zA (zA ?_)))
 refine vE (fun ρ w=>∃x1:Bool,∃H:NP,Has ρ [(0,(vs body1)),(1,(vi who1)),(2,l1.v),(7,(vp (some p1))),(23,(vb x1))]∧Hst w0 H w H w∧HB H w [(p1,[(vi aA),(vu aB),(vs aC)],25)]∧m_B_j1 body1 who1 l1 aA aB aC x1 w0 H w K) ?_ ?_
 rintro ρ w ⟨x1,H,hH,hs,hb,h⟩
 refine zW hH ?_
 refine cbr h ?_ ?_<;>intro h
 refine eg ?_
 refine sc call9 (h.mono fun e w2 ⟨r1,k,hk,h⟩=>have ⟨hs,hb⟩:=hk.hh hs hb;⟨_,k,?_⟩)
 refine q (ln (er (vF (rs1 results8 ⟨r1,rfl,h⟩))))
 refine zC (zK (eg (q (ln (eg (qb ?_))))))
 refine sc call20 (h.mono fun e w3 ⟨r2,r3,r4,k,hk,h⟩=>have ⟨hs,hb⟩:=hk.hh hs hb;⟨_,k,?_⟩)
 refine qc (qd (ln (eg (q ?_))))
 refine q2 (.agg #[(vi aA),(vu aB),(vs aC)]) (xa p1 [(vi aA),(vu aB),(vs aC)] (isAgg25 _) (sizeOf25 _) (hb.r0 0 3 gZ)) ?_
 refine sc call19 (h.mono fun e w4 ⟨r5,r6,k,hk,h⟩=>have ⟨hs,hb⟩:=hk.hh hs hb;⟨_,k,?_⟩)
 refine q (qd (ln (eg (qb ?_))))
 refine sc call11 (h.mono fun e w5 ⟨r7,k,hk,h⟩=>have ⟨hs,hb⟩:=hk.hh hs hb;⟨_,k,?_⟩)
 refine qb ?_
 refine zI 6 (fun ρ w=>∃x2:Bool,∃H:NP,Has ρ [(1,(vi who1)),(7,(vp (some p1))),(9,(vp none)),(10,(vs r2)),(11,(vi r3)),(12,(vi r4)),(13,r5.v),(14,(vb r6)),(48,(vb x2))]∧Hst w0 H w H w∧HB H w [(p1,[(vi aA),(vu aB),(vs aC)],25)]∧m_B_j2 who1 aA aB aC r2 r3 r4 r5 r6 x2 w0 H w K) ?_ ?_
 rintro ρ w ⟨x2,H,hH,hs,hb,h⟩
 refine zM hH ?_
 refine q ?_
 refine zI 5 (fun ρ w=>∃x3:Bool,∃H:NP,Has ρ [(1,(vi who1)),(7,(vp (some p1))),(9,(vp none)),(10,(vs r2)),(11,(vi r3)),(12,(vi r4)),(13,r5.v),(14,(vb r6)),(54,(vb x3))]∧Hst w0 H w H w∧HB H w [(p1,[(vi aA),(vu aB),(vs aC)],25)]∧m_B_j3 who1 aA aB aC r2 r3 r4 r5 r6 x3 w0 H w K) ?_ ?_
 rintro ρ w ⟨x3,H,hH,hs,hb,h⟩
 refine zM hH ?_
 refine q ?_
 refine zI 3 (fun ρ wJ=>∃b1'0:Bool,∃HJ:NP,(x3=b1'0)∧Hst w0 H w HJ wJ∧HB HJ wJ [(p1,[(vi aA),(vu aB),(vs aC)],25)]∧Has ρ [(1,(vi who1)),(7,(vp (some p1))),(9,(vp none)),(11,(vi r3)),(12,(vi r4)),(13,r5.v),(14,(vb r6)),(58,(vb (b1'0 && (decide (r2=⟨#[]⟩)))))]) ?_ ?_
 rintro ρ w6 ⟨b1'0,H2,he0,hs,hb,hH⟩
 subst he0
 refine zM hH ?_
 refine q ?_
 refine zI 4 (fun ρ wJ=>∃b2'0:Bool,∃HJ:NP,((x3 && (decide (r2=⟨#[]⟩)))=b2'0)∧Hst w0 H w HJ wJ∧HB HJ wJ [(p1,[(vi aA),(vu aB),(vs aC)],25)]∧Has ρ [(1,(vi who1)),(7,(vp (some p1))),(9,(vp none)),(12,(vi r4)),(13,r5.v),(14,(vb r6)),(63,(vb (b2'0 && (r3 == 7))))]) ?_ ?_
 rintro ρ w8 ⟨b2'0,H3,he0,hs,hb,hH⟩
 subst he0
 refine zM hH ?_
 refine q ?_
 refine zI 3 (fun ρ wJ=>∃b3'0:Bool,∃HJ:NP,(((x3 && (decide (r2=⟨#[]⟩))) && (r3 == 7))=b3'0)∧Hst w0 H w HJ wJ∧HB HJ wJ [(p1,[(vi aA),(vu aB),(vs aC)],25)]∧Has ρ [(1,(vi who1)),(7,(vp (some p1))),(9,(vp none)),(13,r5.v),(14,(vb r6)),(67,(vb (b3'0 && (r4 == 0))))]) ?_ ?_
 rintro ρ w10 ⟨b3'0,H4,he0,hs,hb,hH⟩
 subst he0
 refine zM hH ?_
 refine q ?_
 refine zI 5 (fun ρ w=>∃x4:Bool,∃H:NP,Has ρ [(1,(vi who1)),(7,(vp (some p1))),(9,(vp none)),(13,r5.v),(14,(vb r6)),(73,(vb x4))]∧Hst w0 H w H w∧HB H w [(p1,[(vi aA),(vu aB),(vs aC)],25)]∧m_B_j4 who1 aA aB aC r5 r6 x4 w0 H w K) ?_ ?_
 rintro ρ w ⟨x4,H,hH,hs,hb,h⟩
 refine zM hH ?_
 refine q ?_
 refine zI 5 (fun ρ w=>∃x5:Bool,∃H:NP,Has ρ [(1,(vi who1)),(9,(vp none)),(13,r5.v),(14,(vb r6)),(79,(vb x5))]∧Hst w0 H w H w∧HB H w [(p1,[(vi aA),(vu aB),(vs aC)],25)]∧m_B_j5 who1 r5 r6 x5 w0 H w K) ?_ ?_
 rintro ρ w ⟨x5,H,hH,hs,hb,h⟩
 refine zM hH ?_
 refine q ?_
 refine zI 5 (fun ρ w=>∃x6:Bool,∃H:NP,Has ρ [(1,(vi who1)),(9,(vp none)),(13,r5.v),(14,(vb r6)),(85,(vb x6))]∧Hst w0 H w H w∧HB H w [(p1,[(vi aA),(vu aB),(vs aC)],25)]∧m_B_j6 who1 r5 r6 x6 w0 H w K) ?_ ?_
 rintro ρ w ⟨x6,H,hH,hs,hb,h⟩
 refine zM hH ?_
 refine q ?_
 refine zI 6 (fun ρ w=>∃x7:Bool,∃H:NP,Has ρ [(9,(vp none)),(13,r5.v),(14,(vb r6)),(92,(vb x7))]∧Hst w0 H w H w∧HB H w [(p1,[(vi aA),(vu aB),(vs aC)],25)]∧m_B_j7 r5 r6 x7 w0 H w K) ?_ ?_
 rintro ρ w ⟨x7,H,hH,hs,hb,h⟩
 refine zM hH ?_
 refine q ?_
 refine zI 4 (fun ρ wJ=>∃b4'0:Bool,∃HJ:NP,(x7=b4'0)∧Hst w0 H w HJ wJ∧HB HJ wJ [(p1,[(vi aA),(vu aB),(vs aC)],25)]∧Has ρ [(9,(vp none)),(14,(vb r6)),(97,(vb (b4'0 && (((r5.len:Int):Int) == 0))))]) ?_ ?_
 rintro ρ w11 ⟨b4'0,H5,he0,hs,hb,hH⟩
 subst he0
 refine zM hH ?_
 refine q ?_
 refine zI 3 (fun ρ wJ=>∃b5'0:Bool,∃HJ:NP,((x7 && (((r5.len:Int):Int) == 0))=b5'0)∧Hst w0 H w HJ wJ∧HB HJ wJ [(p1,[(vi aA),(vu aB),(vs aC)],25)]∧Has ρ [(9,(vp none)),(101,(vb (b5'0 && (!r6))))]) ?_ ?_
 rintro ρ w12 ⟨b5'0,H6,he0,hs,hb,hH⟩
 subst he0
 refine zM hH ?_
 refine q ?_
 refine zI 5 (fun ρ w=>∃x8:Bool,∃H:NP,Has ρ [(9,(vp none)),(107,(vb x8))]∧Hst w0 H w H w∧HB H w [(p1,[(vi aA),(vu aB),(vs aC)],25)]∧m_B_j8 x8 H w K) ?_ ?_
 rintro ρ w ⟨x8,H,hH,hs,hb,h⟩
 refine zM hH ?_
 refine q ?_
 refine zI 4 (fun ρ w=>∃x9:Bool,∃H:NP,Has ρ [(9,(vp none)),(112,(vb x9))]∧Hst w0 H w H w∧HB H w [(p1,[(vi aA),(vu aB),(vs aC)],25)]∧m_B_j9 x9 H w K) ?_ ?_
 rintro ρ w ⟨x9,H,hH,hs,hb,h⟩
 refine zM hH ?_
 refine q ?_
 refine zI 4 (fun ρ w=>∃x10:Bool,∃H:NP,Has ρ [(117,(vb x10))]∧Hst w0 H w H w∧HB H w [(p1,[(vi aA),(vu aB),(vs aC)],25)]∧m_B_j10 x10 H w K) ?_ ?_
 rintro ρ w ⟨x10,H,hH,hs,hb,h⟩
 refine zM hH ?_
 refine q ?_
 obtain ⟨hg11,h⟩|⟨hg11,h⟩:=h.br
 refine kZ (wy 118 hg11) (xc call9) (h.mono ?_)
 rintro e w13 ⟨r8,rfl,hk,h⟩
 refine ⟨_,rfl,?_⟩
 obtain ⟨hs,hb⟩:=hk.hh hs hb
 refine q2 (vb r8) (xT hg11) (q (ln (er (rs1 results8 ⟨r8,rfl,h⟩))))
 refine sj 118 hg11 (q2 (vb false) (xF hg11) (q (ln (er (rs1 results8 ⟨false,rfl,h⟩)))))
 obtain ⟨hg12,h⟩|⟨hg12,h⟩:=h.br
 refine qk 113 hg12 ?_
 refine kZ (wy 113 hg12) (xc call27) (h.mono ?_)
 rintro e w14 ⟨r9,rfl,hk,h⟩
 refine ⟨_,rfl,?_⟩
 obtain ⟨hs,hb⟩:=hk.hh hs hb
 refine stq (v:=(vb (Option.isNone r9))) (wy 113 hg12) (vY (by kernel_rfl) rfl underlying27) (q2 (vb (Option.isNone r9)) (xT hg12) (zB ?_))
 exact ⟨(Option.isNone r9),H,hm,hs,hb,h⟩
 refine sj 113 hg12 (sj 113 hg12 (sj 113 hg12 (q2 (vb false) (xF hg12) (zB ?_))))
 exact ⟨false,H,hm,hs,hb,h⟩
 obtain ⟨hg13,h⟩|⟨hg13,h⟩:=h.br
 refine qk 108 hg13 ?_
 refine kZ (wy 108 hg13) (xc call32) (h.mono ?_)
 rintro e w15 ⟨r10,rfl,hk,h⟩
 refine ⟨_,rfl,?_⟩
 obtain ⟨hs,hb⟩:=hk.hh hs hb
 refine qk 108 hg13 (q2 (vb (r10 == 0)) (xT hg13) (zB ?_))
 exact ⟨(r10 == 0),H,hm,hs,hb,h⟩
 refine sj 108 hg13 (sj 108 hg13 (sj 108 hg13 (q2 (vb false) (xF hg13) (zB ?_))))
 exact ⟨false,H,hm,hs,hb,h⟩
 obtain ⟨hg14,h⟩|⟨hg14,h⟩:=h.br
 refine qk 102 hg14 ?_
 have ⟨h,hs⟩:=hs.hr (h H6 w12)
 refine kZ (wy 102 hg14) (xc call28) (h.mono ?_)
 rintro e w16 ⟨r11,rfl,hk,h⟩
 refine ⟨_,rfl,?_⟩
 obtain ⟨hs,hb⟩:=hk.hh hs hb
 refine qk 102 hg14 (qk 102 hg14 (q2 (vb (((r11.len:Int):Int) == 0)) (xT hg14) (zB ?_)))
 exact ⟨(((r11.len:Int):Int) == 0),H6,hm,hs,hb,h⟩
 refine sj 102 hg14 (sj 102 hg14 (sj 102 hg14 (sj 102 hg14 (q2 (vb false) (xF hg14) (zB ?_)))))
 have ⟨h,hs⟩:=hs.hr (h H6 w12)
 exact ⟨false,H6,hm,hs,hb,h⟩
 rcases bte (x7 && (((r5.len:Int):Int) == 0)) with hg10 | hg10
 refine qk 98 hg10 (qk 98 hg10 (q2 (vb (!r6)) (xT hg10) (zB ?_)))
 exact ⟨true,_,hg10,hs,hb,hm⟩
 refine sj 98 hg10 (sj 98 hg10 (q2 (vb false) (xF hg10) (zB ?_)))
 exact ⟨false,_,hg10,hs,hb,hm⟩
 rcases bte x7 with hg8 | hg8
 refine qk 93 hg8 (qk 93 hg8 (qk 93 hg8 (q2 (vb (((r5.len:Int):Int) == 0)) (xT hg8) (zB ?_))))
 exact ⟨true,_,hg8,hs,hb,hm⟩
 refine sj 93 hg8 (sj 93 hg8 (sj 93 hg8 (q2 (vb false) (xF hg8) (zB ?_))))
 exact ⟨false,_,hg8,hs,hb,hm⟩
 obtain ⟨hg15,h⟩|⟨hg15,h⟩:=h.br
 refine qk 86 hg15 (qk 86 hg15 ?_)
 refine kZ (wy 86 hg15) (xc call30) (h.mono ?_)
 rintro e w17 ⟨r12,rfl,hk,h⟩
 refine ⟨_,rfl,?_⟩
 obtain ⟨hs,hb⟩:=hk.hh hs hb
 refine qk 86 hg15 (qk 86 hg15 (q2 (vb (((r12.len:Int):Int) == 0)) (xT hg15) (zB ?_)))
 exact ⟨(((r12.len:Int):Int) == 0),H,hm,hs,hb,h⟩
 refine sj 86 hg15 (sj 86 hg15 (sj 86 hg15 (sj 86 hg15 (sj 86 hg15 (q2 (vb false) (xF hg15) (zB ?_))))))
 exact ⟨false,H,hm,hs,hb,h⟩
 obtain ⟨hg16,h⟩|⟨hg16,h⟩:=h.br
 refine qk 80 hg16 (qk 80 hg16 ?_)
 refine kZ (wy 80 hg16) (xc call15) (h.mono ?_)
 rintro e w18 ⟨r13,rfl,hk,h⟩
 refine ⟨_,rfl,?_⟩
 obtain ⟨hs,hb⟩:=hk.hh hs hb
 refine qk 80 hg16 (q2 (vb (!r13)) (xT hg16) (zB ?_))
 exact ⟨(!r13),H,hm,hs,hb,h⟩
 refine sj 80 hg16 (sj 80 hg16 (sj 80 hg16 (sj 80 hg16 (q2 (vb false) (xF hg16) (zB ?_)))))
 exact ⟨false,H,hm,hs,hb,h⟩
 obtain ⟨hg17,h⟩|⟨hg17,h⟩:=h.br
 refine qk 74 hg17 (stq (v:=(.agg #[(vi aA),(vu aB),(vs aC)])) (wy 74 hg17) (xa p1 [(vi aA),(vu aB),(vs aC)] (isAgg25 _) (sizeOf25 _) (hb.r0 0 3 gZ)) ?_)
 refine kZ (wy 74 hg17) (xc call14) (h.mono ?_)
 rintro e w19 ⟨r14,rfl,hk,h⟩
 refine ⟨_,rfl,?_⟩
 obtain ⟨hs,hb⟩:=hk.hh hs hb
 refine qk 74 hg17 (q2 (vb (!r14)) (xT hg17) (zB ?_))
 exact ⟨(!r14),H,hm,hs,hb,h⟩
 refine sj 74 hg17 (sj 74 hg17 (sj 74 hg17 (sj 74 hg17 (q2 (vb false) (xF hg17) (zB ?_)))))
 exact ⟨false,H,hm,hs,hb,h⟩
 obtain ⟨hg18,h⟩|⟨hg18,h⟩:=h.br
 refine qk 68 hg18 (qk 68 hg18 ?_)
 have ⟨h,hs⟩:=hs.hr (h H4 w10)
 refine kZ (wy 68 hg18) (xc call25) (h.mono ?_)
 rintro e w20 ⟨r15,rfl,hk,h⟩
 refine ⟨_,rfl,?_⟩
 obtain ⟨hs,hb⟩:=hk.hh hs hb
 refine qk 68 hg18 (q2 (vb (!r15)) (xT hg18) (zB ?_))
 exact ⟨(!r15),H4,hm,hs,hb,h⟩
 refine sj 68 hg18 (sj 68 hg18 (sj 68 hg18 (sj 68 hg18 (q2 (vb false) (xF hg18) (zB ?_)))))
 have ⟨h,hs⟩:=hs.hr (h H4 w10)
 exact ⟨false,H4,hm,hs,hb,h⟩
 rcases bte ((x3 && (decide (r2=⟨#[]⟩))) && (r3 == 7)) with hg6 | hg6
 refine qk 64 hg6 (qk 64 hg6 (q2 (vb (r4 == 0)) (xT hg6) (zB ?_)))
 exact ⟨true,_,hg6,hs,hb,hm⟩
 refine sj 64 hg6 (sj 64 hg6 (q2 (vb false) (xF hg6) (zB ?_)))
 exact ⟨false,_,hg6,hs,hb,hm⟩
 rcases bte (x3 && (decide (r2=⟨#[]⟩))) with hg4 | hg4
 refine qk 59 hg4 ?_
 refine kZ (wy 59 hg4) (xc call22) ((p_V1 r3 w6).mono ?_)
 rintro e w9 ⟨he,hE⟩
 refine ⟨_,he,?_⟩
 obtain ⟨hs,hb⟩:=hs.pp hb hE
 refine qk 59 hg4 (q2 (vb (r3 == 7)) (xT hg4) (zB ?_))
 exact ⟨true,_,hg4,hs,hb,hm⟩
 refine sj 59 hg4 (sj 59 hg4 (sj 59 hg4 (q2 (vb false) (xF hg4) (zB ?_))))
 exact ⟨false,_,hg4,hs,hb,hm⟩
 rcases bte x3 with hg2 | hg2
 refine qk 55 hg2 (stq (v:=(vb (decide (r2=⟨#[]⟩)))) (wy 55 hg2) (jKX (by kernel_rfl) (by kernel_rfl)) (q2 (vb (decide (r2=⟨#[]⟩))) (xT hg2) (zB ?_)))
 exact ⟨true,_,hg2,hs,hb,hm⟩
 refine sj 55 hg2 (sj 55 hg2 (q2 (vb false) (xF hg2) (zB ?_)))
 exact ⟨false,_,hg2,hs,hb,hm⟩
 obtain ⟨hg19,h⟩|⟨hg19,h⟩:=h.br
 refine qk 49 hg19 (qk 49 hg19 ?_)
 refine kZ (wy 49 hg19) (xc call34) (h.mono ?_)
 rintro e w21 ⟨r16,rfl,hk,h⟩
 refine ⟨_,rfl,?_⟩
 obtain ⟨hs,hb⟩:=hk.hh hs hb
 refine qk 49 hg19 (q2 (vb (!r16)) (xT hg19) (zB ?_))
 exact ⟨(!r16),H,hm,hs,hb,h⟩
 refine sj 49 hg19 (sj 49 hg19 (sj 49 hg19 (sj 49 hg19 (q2 (vb false) (xF hg19) (zB ?_)))))
 exact ⟨false,H,hm,hs,hb,h⟩
 obtain ⟨hg20,h⟩|⟨hg20,h⟩:=h.br
 refine qk 42 hg20 (qk 42 hg20 ?_)
 refine kZ (wy 42 hg20) (xc call13) (h.mono ?_)
 rintro e w22 ⟨r17,rfl,hk,h⟩
 refine ⟨_,rfl,?_⟩
 obtain ⟨hs,hb⟩:=hk.hh hs hb
 refine kZ (wy 42 hg20) (xc call22) ((p_V1 r17 w22).mono ?_)
 rintro e w23 ⟨he,hE⟩
 refine ⟨_,he,?_⟩
 obtain ⟨hs,hb⟩:=hs.pp hb hE
 refine qk 42 hg20 (q2 (vb (r17 == 7)) (xT hg20) (zB ?_))
 have ⟨h,hs⟩:=hs.hr (h w23)
 exact ⟨(r17 == 7),H,hm,hs,hb,h⟩
 refine sj 42 hg20 (sj 42 hg20 (sj 42 hg20 (sj 42 hg20 (sj 42 hg20 (q2 (vb false) (xF hg20) (zB ?_))))))
 exact ⟨false,H,hm,hs,hb,h⟩
 refine rg (qd ?_)
 obtain ⟨hg21,h⟩|⟨hg21,h⟩:=h.br
 refine sj 18 hg21 (sj 18 hg21 (sj 18 hg21 (sj 18 hg21 (q2 (vb true) (xT hg21) (zB ?_)))))
 have ⟨h,hs⟩:=hs.hr (h H1 w1)
 refine zK ?_
 exact ⟨true,H1,hm,hs,hb,h⟩
 refine qk 18 hg21 (qk 18 hg21 ?_)
 have ⟨h,hs⟩:=hs.hr (h H1 w1)
 refine uE (O:=(.cells #[(vi 0),ve,(vi 0),(vi 0),(vu 0),ve,(vb false),(vi 0),l1.v] 46)) (fun p=>(Sl.mk (some p) 1 1).v) (wy 18 hg21) (vJ (vs:=#[(0,(.agg #[(vi 0),ve,(vi 0),(vi 0),(vu 0),ve,(vb false),(vi 0),l1.v]))]) (by kernel_rfl) (by kernel_rfl)) ?_
 intro p2 w24 hn2
 have h:=h p2 w24 hn2
 obtain ⟨hs,hb⟩:=hs.nw hb hn2
 refine kZ (wy 18 hg21) (xc call16) (h.mono ?_)
 rintro e w25 ⟨r18,rfl,hk,h⟩
 refine ⟨_,rfl,?_⟩
 obtain ⟨hs,hb⟩:=hk.hh hs hb
 refine q2 (vb r18) (xF hg21) (ln ?_)
 exact ⟨r18,H1,hm,hs,hb,h⟩
end Go.Proofs
end
section
open Go Go.SE
open Go.IntKind renaming i64 → q6
namespace Go.Proofs
open Tryz
set_option maxRecDepth 100000
set_option maxHeartbeats 4000000
attribute [local irreducible] wpL wpX opE wpE Calls
def s_C (kind1:Int):Bool :=(((kind1 == 1) || (kind1 == 2)) || (kind1 == 4))
theorem pw_C (kind1:Int) (w0:World) :
  Calls prog 175 #[(vi kind1)] w0 (fun e w'=>(e=.returned (vb (((kind1 == 1) || (kind1 == 2)) || (kind1 == 4))))∧Pure w0 w'):=by
 refine cw (args:=[(vi kind1)]) func175 ntmps175 (eg (q0 (vb false) (ln (zA ?_))))
 refine vK (fun ρ wJ=>w0=wJ∧Has ρ [(2,(vb (((kind1 == 1) || (kind1 == 2)) || (kind1 == 4))))]) ?_ ?_
 refine rg (qc ?_)
 refine zI 3 (fun ρ wJ=>∃b4'0:Bool,((kind1 == 1)=b4'0)∧w0=wJ∧Has ρ [(0,(vi kind1)),(8,(vb (b4'0 || (kind1 == 2))))]) ?_ ?_
 rintro ρ w4 ⟨b4'0,he0,hw,hH⟩
 subst he0
 subst hw
 refine zM hH ?_
 refine q ?_
 refine zI 3 (fun ρ wJ=>∃b5'0:Bool,(((kind1 == 1) || (kind1 == 2))=b5'0)∧w0=wJ∧Has ρ [(12,(vb (b5'0 || (kind1 == 4))))]) ?_ ?_
 rintro ρ w5 ⟨b5'0,he0,hw,hH⟩
 subst he0
 subst hw
 refine zM hH ?_
 refine q (ln ?_)
 exact ⟨rfl,hm⟩
 rcases bte ((kind1 == 1) || (kind1 == 2)) with hg8 | hg8
 refine sj 9 hg8 (sj 9 hg8 (q2 (vb true) (xT hg8) (zB ?_)))
 exact ⟨true,hg8,rfl,hm⟩
 refine qk 9 hg8 (qk 9 hg8 (q2 (vb (kind1 == 4)) (xF hg8) (zB ?_)))
 exact ⟨false,hg8,rfl,hm⟩
 rcases bte (kind1 == 1) with hg6 | hg6
 refine sj 5 hg6 (sj 5 hg6 (q2 (vb true) (xT hg6) (zB ?_)))
 exact ⟨true,hg6,rfl,hm⟩
 refine qk 5 hg6 (qk 5 hg6 (q2 (vb (kind1 == 2)) (xF hg6) (zB ?_)))
 exact ⟨false,hg6,rfl,hm⟩
 rintro ρ w3 ⟨hw,hH⟩
 subst hw
 refine vD hH ?_
 refine zK (er (rs1 results175 (v:=(vb (((kind1 == 1) || (kind1 == 2)) || (kind1 == 4)))) ?_))
 exact ⟨by kernel_rfl,Ext.refl _⟩
theorem p_C (kind1:Int) (w0:World):Calls prog 175 #[(.int .i64 kind1)] w0 (fun e w'=>e=.returned (.bool (s_C kind1))∧Pure w0 w'):=pw_C kind1 w0
def s_A5 (kind1:Int):Bool :=((s_C kind1) || (kind1 == 6))
theorem pw_A5 (kind1:Int) (w0:World) :
  Calls prog 176 #[(vi kind1)] w0 (fun e w'=>(e=.returned (vb ((s_C kind1) || (kind1 == 6))))∧Pure w0 w'):=by
 refine cw (args:=[(vi kind1)]) func176 ntmps176 ?_
 obtain ⟨hs,hb⟩:=st0 w0
 refine eg (q (ln (zA ?_)))
 refine vK (fun ρ wJ=>∃HJ:NP,Hst w0 None w0 HJ wJ∧HB HJ wJ []∧Has ρ [(2,(vb ((s_C kind1) || (kind1 == 6))))]) ?_ ?_
 refine rg (q ?_)
 refine sc call175 ((p_C kind1 w0).mono ?_)
 rintro e w4 ⟨he,hE⟩
 refine ⟨_,he,?_⟩
 obtain ⟨hs,hb⟩:=hs.pp hb hE
 refine q ?_
 refine zI 3 (fun ρ wJ=>∃b3'0:Bool,∃HJ:NP,((s_C kind1)=b3'0)∧Hst w0 None w0 HJ wJ∧HB HJ wJ []∧Has ρ [(8,(vb (b3'0 || (kind1 == 6))))]) ?_ ?_
 rintro ρ w5 ⟨b3'0,H3,he0,hs,hb,hH⟩
 subst he0
 refine zM hH ?_
 refine q (ln ?_)
 exact ⟨_,hs,hb,hm⟩
 rcases bte (s_C kind1) with hg4 | hg4
 refine sj 5 hg4 (sj 5 hg4 (q2 (vb true) (xT hg4) (zB ?_)))
 exact ⟨true,_,hg4,hs,hb,hm⟩
 refine qk 5 hg4 (qk 5 hg4 (q2 (vb (kind1 == 6)) (xF hg4) (zB ?_)))
 exact ⟨false,_,hg4,hs,hb,hm⟩
 rintro ρ w3 ⟨H2,hs,hb,hH⟩
 refine vD hH ?_
 refine zK (er (rs1 results176 (v:=(vb ((s_C kind1) || (kind1 == 6)))) ?_))
 exact ⟨by kernel_rfl,(Ext.refl (F:=None) _).hst hs⟩
theorem p_A5 (kind1:Int) (w0:World):Calls prog 176 #[(.int .i64 kind1)] w0 (fun e w'=>e=.returned (.bool (s_A5 kind1))∧Pure w0 w'):=pw_A5 kind1 w0
def s_T (aA aB aK:Int) (aD:ByteArray) (aE:Bool):Int :=(cond ((((((decide (aA<1)) || (decide (aA>7))) || ((aB != 0) && (aB != 1))) || ((!(s_C aA)) && (aB != 0))) || ((!((s_C aA) || (aA == 6))) && (!(decide (aD=⟨#[]⟩))))) || ((aE && (aA != 1)) && (aA != 4))) 110 (cond (decide ((aD.size:Int)>64)) 1 0))
theorem pw_T (aA aB aK:Int) (aD:ByteArray) (aE:Bool) (w0:World) :
  Calls prog 165 #[(.agg #[(vi aA),(vi aB),(vu aK),(vs aD),(vb aE)])] w0 (fun e w'=>∃b'0 b'1:Bool,(((((((decide (aA<1)) || (decide (aA>7))) || ((aB != 0) && (aB != 1))) || ((!(s_C aA)) && (aB != 0))) || ((!((s_C aA) || (aA == 6))) && (!(decide (aD=⟨#[]⟩))))) || ((aE && (aA != 1)) && (aA != 4)))=b'0∧(decide ((aD.size:Int)>64))=b'1)∧(e=.returned (vi (cond b'0 110 (cond b'1 1 0))))∧Pure w0 w'):=by
 refine cw (args:=[(.agg #[(vi aA),(vi aB),(vu aK),(vs aD),(vb aE)])]) func165 ntmps165 ?_
 obtain ⟨hs,hb⟩:=st0 w0
 refine eg (nw3 [(vi aA),(vi aB),(vu aK),(vs aD),(vb aE)] 30 hs hb xb fun p1 w1 H1 hs hb=>?_)
 refine q (ln (zA (zA ?_)))
 refine vK (fun ρ wJ=>∃b13'0:Bool,∃HJ:NP,((((((decide (aA<1)) || (decide (aA>7))) || ((aB != 0) && (aB != 1))) || ((!(s_C aA)) && (aB != 0))) || ((!((s_C aA) || (aA == 6))) && (!(decide (aD=⟨#[]⟩)))))=b13'0)∧Hst w0 None w0 HJ wJ∧HB HJ wJ [(p1,[(vi aA),(vi aB),(vu aK),(vs aD),(vb aE)],30)]∧Has ρ [(1,(vp (some p1))),(56,(vb (b13'0 || ((aE && (aA != 1)) && (aA != 4)))))]) ?_ ?_
 refine rg (q (q3 (xl (isAgg3 _) (hb.d0 0 gZ)) (qb ?_)))
 refine zI 4 (fun ρ wJ=>∃b14'0:Bool,∃HJ:NP,((decide (aA<1))=b14'0)∧Hst w0 None w0 HJ wJ∧HB HJ wJ [(p1,[(vi aA),(vi aB),(vu aK),(vs aD),(vb aE)],30)]∧Has ρ [(1,(vp (some p1))),(10,(vb (b14'0 || (decide (aA>7)))))]) ?_ ?_
 rintro ρ w19 ⟨b14'0,H15,he0,hs,hb,hH⟩
 subst he0
 refine zM hH ?_
 refine q ?_
 refine zI 9 (fun ρ wJ=>∃b16'0:Bool,∃HJ:NP,(((decide (aA<1)) || (decide (aA>7)))=b16'0)∧Hst w0 None w0 HJ wJ∧HB HJ wJ [(p1,[(vi aA),(vi aB),(vu aK),(vs aD),(vb aE)],30)]∧Has ρ [(1,(vp (some p1))),(20,(vb (b16'0 || ((aB != 0) && (aB != 1)))))]) ?_ ?_
 rintro ρ w21 ⟨b16'0,H17,he0,hs,hb,hH⟩
 subst he0
 refine zM hH ?_
 refine q ?_
 refine zI 10 (fun ρ wJ=>∃b19'0:Bool,∃HJ:NP,((((decide (aA<1)) || (decide (aA>7))) || ((aB != 0) && (aB != 1)))=b19'0)∧Hst w0 None w0 HJ wJ∧HB HJ wJ [(p1,[(vi aA),(vi aB),(vu aK),(vs aD),(vb aE)],30)]∧Has ρ [(1,(vp (some p1))),(31,(vb (b19'0 || ((!(s_C aA)) && (aB != 0)))))]) ?_ ?_
 rintro ρ w25 ⟨b19'0,H20,he0,hs,hb,hH⟩
 subst he0
 refine zM hH ?_
 refine q ?_
 refine zI 10 (fun ρ wJ=>∃b22'0:Bool,∃HJ:NP,(((((decide (aA<1)) || (decide (aA>7))) || ((aB != 0) && (aB != 1))) || ((!(s_C aA)) && (aB != 0)))=b22'0)∧Hst w0 None w0 HJ wJ∧HB HJ wJ [(p1,[(vi aA),(vi aB),(vu aK),(vs aD),(vb aE)],30)]∧Has ρ [(1,(vp (some p1))),(42,(vb (b22'0 || ((!((s_C aA) || (aA == 6))) && (!(decide (aD=⟨#[]⟩)))))))]) ?_ ?_
 rintro ρ w30 ⟨b22'0,H23,he0,hs,hb,hH⟩
 subst he0
 refine zM hH ?_
 refine q ?_
 rcases bte (((((decide (aA<1)) || (decide (aA>7))) || ((aB != 0) && (aB != 1))) || ((!(s_C aA)) && (aB != 0))) || ((!((s_C aA) || (aA == 6))) && (!(decide (aD=⟨#[]⟩))))) with hg46 | hg46
 refine sj 43 hg46 (sj 43 hg46 (sj 43 hg46 (sm (sm (sm (sj 43 hg46 (sj 43 hg46 (sm (sm (sm (sj 43 hg46 ?_)))))))))))
 refine q2 (vb true) (xT hg46) (ln ?_)
 exact ⟨true,_,hg46,hs,hb,hm⟩
 refine qk 43 hg46 (q4 43 hg46 (xl (isAgg4 _) (hb.d 0 4 gZ)) (qk 43 hg46 ?_))
 refine zI 4 (fun ρ wJ=>∃b24'0:Bool,∃HJ:NP,(aE=b24'0)∧Hst w0 None w0 HJ wJ∧HB HJ wJ [(p1,[(vi aA),(vi aB),(vu aK),(vs aD),(vb aE)],30)]∧Has ρ [(1,(vp (some p1))),(43,(vb (((((decide (aA<1)) || (decide (aA>7))) || ((aB != 0) && (aB != 1))) || ((!(s_C aA)) && (aB != 0))) || ((!((s_C aA) || (aA == 6))) && (!(decide (aD=⟨#[]⟩))))))),(50,(vb (b24'0 && (aA != 1))))]) ?_ ?_
 rintro ρ w33 ⟨b24'0,H25,he0,hs,hb,hH⟩
 subst he0
 refine zM hH ?_
 refine qk 43 hg46 ?_
 refine zI 4 (fun ρ wJ=>∃b25'0:Bool,∃HJ:NP,((aE && (aA != 1))=b25'0)∧Hst w0 None w0 HJ wJ∧HB HJ wJ [(p1,[(vi aA),(vi aB),(vu aK),(vs aD),(vb aE)],30)]∧Has ρ [(1,(vp (some p1))),(43,(vb (((((decide (aA<1)) || (decide (aA>7))) || ((aB != 0) && (aB != 1))) || ((!(s_C aA)) && (aB != 0))) || ((!((s_C aA) || (aA == 6))) && (!(decide (aD=⟨#[]⟩))))))),(55,(vb (b25'0 && (aA != 4))))]) ?_ ?_
 rintro ρ w34 ⟨b25'0,H26,he0,hs,hb,hH⟩
 subst he0
 refine zM hH ?_
 refine q2 (vb ((aE && (aA != 1)) && (aA != 4))) (xF hg46) (ln ?_)
 exact ⟨false,_,hg46,hs,hb,hm⟩
 rcases bte (aE && (aA != 1)) with hg50 | hg50
 refine qk 51 hg50 (q4 51 hg50 (xl (isAgg3 _) (hb.d0 0 gZ)) (qk 51 hg50 (stq (v:=(vb (aA != 4))) (wy 43 hg46) (xT hg50) (zB ?_))))
 exact ⟨true,_,hg50,hs,hb,hm⟩
 refine sj 51 hg50 (sj 51 hg50 (sj 51 hg50 (stq (v:=(vb false)) (wy 43 hg46) (xF hg50) (zB ?_))))
 exact ⟨false,_,hg50,hs,hb,hm⟩
 rcases bte aE with hg48 | hg48
 refine qk 46 hg48 (q4 46 hg48 (xl (isAgg3 _) (hb.d0 0 gZ)) (qk 46 hg48 (stq (v:=(vb (aA != 1))) (wy 43 hg46) (xT hg48) (zB ?_))))
 exact ⟨true,_,hg48,hs,hb,hm⟩
 refine sj 46 hg48 (sj 46 hg48 (sj 46 hg48 (stq (v:=(vb false)) (wy 43 hg46) (xF hg48) (zB ?_))))
 exact ⟨false,_,hg48,hs,hb,hm⟩
 rcases bte ((((decide (aA<1)) || (decide (aA>7))) || ((aB != 0) && (aB != 1))) || ((!(s_C aA)) && (aB != 0))) with hg43 | hg43
 refine sj 32 hg43 (sj 32 hg43 (sj 32 hg43 (sj 32 hg43 (sj 32 hg43 (sm (sm (sm (sj 32 hg43 (q2 (vb true) (xT hg43) (zB ?_))))))))))
 exact ⟨true,_,hg43,hs,hb,hm⟩
 refine qk 32 hg43 (q4 32 hg43 (xl (isAgg3 _) (hb.d0 0 gZ)) ?_)
 refine kZ (wy 32 hg43) (xc call176) ((p_A5 aA w25).mono ?_)
 rintro e w31 ⟨he,hE⟩
 refine ⟨_,he,?_⟩
 obtain ⟨hs,hb⟩:=hs.pp hb hE
 refine qk 32 hg43 (qk 32 hg43 ?_)
 refine zI 4 (fun ρ wJ=>∃b23'0:Bool,∃HJ:NP,((!((s_C aA) || (aA == 6)))=b23'0)∧Hst w0 None w0 HJ wJ∧HB HJ wJ [(p1,[(vi aA),(vi aB),(vu aK),(vs aD),(vb aE)],30)]∧Has ρ [(1,(vp (some p1))),(32,(vb ((((decide (aA<1)) || (decide (aA>7))) || ((aB != 0) && (aB != 1))) || ((!(s_C aA)) && (aB != 0))))),(41,(vb (b23'0 && (!(decide (aD=⟨#[]⟩))))))]) ?_ ?_
 rintro ρ w32 ⟨b23'0,H24,he0,hs,hb,hH⟩
 subst he0
 refine zM hH ?_
 refine q2 (vb ((!((s_C aA) || (aA == 6))) && (!(decide (aD=⟨#[]⟩))))) (xF hg43) (zB ?_)
 exact ⟨false,_,hg43,hs,hb,hm⟩
 rcases bte (!((s_C aA) || (aA == 6))) with hg45 | hg45
 refine qk 37 hg45 (q4 37 hg45 (xl (isAgg9 _) (hb.d 0 3 gZ)) (stq (v:=(vb (!(decide (aD=⟨#[]⟩))))) (wy 37 hg45) (jDQ (by kernel_rfl) (by kernel_rfl)) (stq (v:=(vb (!(decide (aD=⟨#[]⟩))))) (wy 32 hg43) (xT hg45) (zB ?_))))
 exact ⟨true,_,hg45,hs,hb,hm⟩
 refine sj 37 hg45 (sj 37 hg45 (sj 37 hg45 (stq (v:=(vb false)) (wy 32 hg43) (xF hg45) (zB ?_))))
 exact ⟨false,_,hg45,hs,hb,hm⟩
 rcases bte (((decide (aA<1)) || (decide (aA>7))) || ((aB != 0) && (aB != 1))) with hg37 | hg37
 refine sj 21 hg37 (sj 21 hg37 (sj 21 hg37 (sj 21 hg37 (sj 21 hg37 (sm (sm (sm (sj 21 hg37 (q2 (vb true) (xT hg37) (zB ?_))))))))))
 exact ⟨true,_,hg37,hs,hb,hm⟩
 refine qk 21 hg37 (q4 21 hg37 (xl (isAgg3 _) (hb.d0 0 gZ)) ?_)
 refine kZ (wy 21 hg37) (xc call175) ((p_C aA w21).mono ?_)
 rintro e w26 ⟨he,hE⟩
 refine ⟨_,he,?_⟩
 obtain ⟨hs,hb⟩:=hs.pp hb hE
 refine qk 21 hg37 (qk 21 hg37 ?_)
 refine zI 4 (fun ρ wJ=>∃b20'0:Bool,∃HJ:NP,((!(s_C aA))=b20'0)∧Hst w0 None w0 HJ wJ∧HB HJ wJ [(p1,[(vi aA),(vi aB),(vu aK),(vs aD),(vb aE)],30)]∧Has ρ [(1,(vp (some p1))),(21,(vb (((decide (aA<1)) || (decide (aA>7))) || ((aB != 0) && (aB != 1))))),(30,(vb (b20'0 && (aB != 0))))]) ?_ ?_
 rintro ρ w27 ⟨b20'0,H21,he0,hs,hb,hH⟩
 subst he0
 refine zM hH ?_
 refine q2 (vb ((!(s_C aA)) && (aB != 0))) (xF hg37) (zB ?_)
 exact ⟨false,_,hg37,hs,hb,hm⟩
 rcases bte (!(s_C aA)) with hg39 | hg39
 refine qk 26 hg39 (q4 26 hg39 (xl (isAgg3 _) (hb.d 0 1 gZ)) (qk 26 hg39 (stq (v:=(vb (aB != 0))) (wy 21 hg37) (xT hg39) (zB ?_))))
 exact ⟨true,_,hg39,hs,hb,hm⟩
 refine sj 26 hg39 (sj 26 hg39 (sj 26 hg39 (stq (v:=(vb false)) (wy 21 hg37) (xF hg39) (zB ?_))))
 exact ⟨false,_,hg39,hs,hb,hm⟩
 rcases bte ((decide (aA<1)) || (decide (aA>7))) with hg31 | hg31
 refine sj 11 hg31 (sj 11 hg31 (sj 11 hg31 (sj 11 hg31 (sm (sm (sm (sj 11 hg31 (q2 (vb true) (xT hg31) (zB ?_)))))))))
 exact ⟨true,_,hg31,hs,hb,hm⟩
 refine qk 11 hg31 (q4 11 hg31 (xl (isAgg3 _) (hb.d 0 1 gZ)) (qk 11 hg31 (qk 11 hg31 ?_)))
 refine zI 4 (fun ρ wJ=>∃b17'0:Bool,∃HJ:NP,((aB != 0)=b17'0)∧Hst w0 None w0 HJ wJ∧HB HJ wJ [(p1,[(vi aA),(vi aB),(vu aK),(vs aD),(vb aE)],30)]∧Has ρ [(1,(vp (some p1))),(11,(vb ((decide (aA<1)) || (decide (aA>7))))),(19,(vb (b17'0 && (aB != 1))))]) ?_ ?_
 rintro ρ w22 ⟨b17'0,H18,he0,hs,hb,hH⟩
 subst he0
 refine zM hH ?_
 refine q2 (vb ((aB != 0) && (aB != 1))) (xF hg31) (zB ?_)
 exact ⟨false,_,hg31,hs,hb,hm⟩
 rcases bte (aB != 0) with hg33 | hg33
 refine qk 15 hg33 (q4 15 hg33 (xl (isAgg3 _) (hb.d 0 1 gZ)) (qk 15 hg33 (stq (v:=(vb (aB != 1))) (wy 11 hg31) (xT hg33) (zB ?_))))
 exact ⟨true,_,hg33,hs,hb,hm⟩
 refine sj 15 hg33 (sj 15 hg33 (sj 15 hg33 (stq (v:=(vb false)) (wy 11 hg31) (xF hg33) (zB ?_))))
 exact ⟨false,_,hg33,hs,hb,hm⟩
 rcases bte (decide (aA<1)) with hg27 | hg27
 refine sj 6 hg27 (sj 6 hg27 (sj 6 hg27 (q2 (vb true) (xT hg27) (zB ?_))))
 exact ⟨true,_,hg27,hs,hb,hm⟩
 refine qk 6 hg27 (q4 6 hg27 (xl (isAgg3 _) (hb.d0 0 gZ)) (qk 6 hg27 (q2 (vb (decide (aA>7))) (xF hg27) (zB ?_))))
 exact ⟨false,_,hg27,hs,hb,hm⟩
 rintro ρ w18 ⟨b13'0,H14,he0,hs,hb,hH⟩
 subst he0
 refine vD hH ?_
 refine zK ?_
 refine vH (t:=((((((decide (aA<1)) || (decide (aA>7))) || ((aB != 0) && (aB != 1))) || ((!(s_C aA)) && (aB != 0))) || ((!((s_C aA) || (aA == 6))) && (!(decide (aD=⟨#[]⟩))))) || ((aE && (aA != 1)) && (aA != 4)))) (by kernel_rfl) (fun hc1=>?_) (fun hc1=>?_)
 refine eg (q (ln (er (vF (rs1 results165 (v:=(vi 110)) ?_)))))
 exact ⟨true,_,⟨hc1,rfl⟩,by kernel_rfl,(Ext.refl (F:=None) _).hst hs⟩
 refine zC (zK (zA (eg (q (q3 (xl (isAgg9 _) (hb.d 0 3 gZ)) (qb (ln ?_)))))))
 refine vH (t:=(decide ((aD.size:Int)>64))) (by kernel_rfl) (fun hc2=>?_) (fun hc2=>?_)
 refine eg (q (ln (er (vF (rs1 results165 (v:=(vi 1)) ?_)))))
 exact ⟨false,true,⟨hc1,hc2⟩,by kernel_rfl,(Ext.refl (F:=None) _).hst hs⟩
 refine zC (zK (eg (q (ln (er (rs1 results165 (v:=(vi 0)) ?_))))))
 exact ⟨false,false,⟨hc1,hc2⟩,by kernel_rfl,(Ext.refl (F:=None) _).hst hs⟩
theorem p_T (aA aB aK:Int) (aD:ByteArray) (aE:Bool) (w0:World):Calls prog 165 #[(.agg #[(.int .i64 aA),(.int .i64 aB),(.int .u64 aK),(.string aD),(.bool aE)])] w0 (fun e w'=>e=.returned (.int .i64 (s_T aA aB aK aD aE))∧Pure w0 w'):=by
 refine (pw_T aA aB aK aD aE w0).mono ?_;rintro e w' ⟨b'0,b'1,⟨e0,e1⟩,h,E⟩;subst e0;subst e1;exact ⟨h,E⟩
def m_B5 (p1:Option Addr) (aA aB aK:Int) (aD:ByteArray) (aE:Bool) (w0:World) (K:Int→Int→WP):Prop :=Br (((s_T aA aB aK aD aE):Int) != 0) (∀(H1:NP) (w2:World),Hst w0 None w0 H1 w2→K 0 (s_T aA aB aK aD aE) w2) (∀(H1:NP) (w2:World),Hst w0 None w0 H1 w2→Calls prog 29 #[(.agg #[(vi aA),(vi aB),(vu aK),(vs aD),(vb aE)]),(vb true),(vb true)] w2 (fun e w3=>∃bO bP:Int,∃bQ bR:Int,∃bS:ByteArray,∃bT:Sl,e=.returned (.agg #[(vi bO),(vi bP),(vi bQ),(vu bR),(vs bS),bT.v])∧Kept H1 w2 w3∧Calls prog 100 #[(vp p1),(.agg #[(vi bO),(vi bP),(vi bQ),(vu bR),(vs bS),bT.v])] w3 (fun e w4=>∃r1 r2:Int,e=.returned (.tuple #[(vi r1),(vi r2)])∧Kept H1 w3 w4∧K r1 r2 w4)))
theorem w_B5 (p1:Option Addr) (aA aB aK:Int) (aD:ByteArray) (aE:Bool) (w0:World) (K:Int→Int→WP) (h:m_B5 p1 aA aB aK aD aE w0 K) :
  Calls prog 107 #[(vp p1),(.agg #[(vi aA),(vi aB),(vu aK),(vs aD),(vb aE)])] w0 (fun e w'=>∃r3 r4:Int,e=.returned (.tuple #[(vi r3),(vi r4)])∧K r3 r4 w'):=by
 refine cw (args:=[(vp p1),(.agg #[(vi aA),(vi aB),(vu aK),(vs aD),(vb aE)])]) func107 ntmps107 ?_
 obtain ⟨hs,hb⟩:=st0 w0
 refine eg (nw3 [(vi aA),(vi aB),(vu aK),(vs aD),(vb aE)] 30 hs hb xb fun p2 w1 H1 hs hb=>?_)
 refine qb (ln (eg (q2 (.agg #[(vi aA),(vi aB),(vu aK),(vs aD),(vb aE)]) (xa p2 [(vi aA),(vi aB),(vu aK),(vs aD),(vb aE)] (isAgg30 _) (sizeOf30 _) (hb.r0 0 5 gZ)) ?_)))
 refine sc call165 ((p_T aA aB aK aD aE w1).mono ?_)
 rintro e w2 ⟨he,hE⟩
 refine ⟨_,he,?_⟩
 obtain ⟨hs,hb⟩:=hs.pp hb hE
 refine q (ln (zA (eg (qb (ln ?_)))))
 refine cbr h ?_ ?_<;>intro h
 refine eg (qc (ln (er (vF ?_))))
 have ⟨h,hs⟩:=hs.hr (h H1 w2)
 refine xO (.inl rfl) results107 (v:=(vi 0)) (by kernel_rfl) (v':=(vi (s_T aA aB aK aD aE))) (by kernel_rfl) ?_
 exact ⟨0,(s_T aA aB aK aD aE),rfl,h⟩
 refine zC (zK (eg (q (q2 (.agg #[(vi aA),(vi aB),(vu aK),(vs aD),(vb aE)]) (xa p2 [(vi aA),(vi aB),(vu aK),(vs aD),(vb aE)] (isAgg30 _) (sizeOf30 _) (hb.r0 0 5 gZ)) ?_))))
 have ⟨h,hs⟩:=hs.hr (h H1 w2)
 refine sc call29 (h.mono fun e w3 ⟨bO,bP,bQ,bR,bS,bT,k,hk,h⟩=>have ⟨hs,hb⟩:=hk.hh hs hb;⟨_,k,?_⟩)
 refine sc call100 (h.mono fun e w4 ⟨r1,r2,k,hk,h⟩=>have ⟨hs,hb⟩:=hk.hh hs hb;⟨_,k,?_⟩)
 refine qd (ln (er (xO (.inl rfl) results107 (v:=(vi r1)) (by kernel_rfl) (v':=(vi r2)) (by kernel_rfl) ?_)))
 exact ⟨r1,r2,rfl,h⟩
def m_C5 (aA aB aK:Int) (aD:ByteArray) (aE:Bool) (w0:World) (K:Sl→Int→WP):Prop :=∀(H1:NP) (w1:World),Hst w0 None w0 H1 w1→Calls prog 54 #[] w1 (fun e w2=>∃r1:Option Addr,e=.returned (vp r1)∧Kept H1 w1 w2∧Calls prog 107 #[(vp r1),(.agg #[(vi aA),(vi aB),(vu aK),(vs aD),(vb aE)])] w2 (fun e w3=>∃r2 r3:Int,e=.returned (.tuple #[(vi r2),(vi r3)])∧Kept H1 w2 w3∧Br (r3 != 0) (K Sl.nil r3 w3) (Calls prog 108 #[(vp r1),(vi r2)] w3 (fun e w4=>∃r4:Sl,∃r5:Int,e=.returned (.tuple #[r4.v,(vi r5)])∧Kept H1 w3 w4∧K r4 r5 w4))))
theorem w_C5 (aA aB aK:Int) (aD:ByteArray) (aE:Bool) (w0:World) (K:Sl→Int→WP) (h:m_C5 aA aB aK aD aE w0 K) :
  Calls prog 48 #[(.agg #[(vi aA),(vi aB),(vu aK),(vs aD),(vb aE)])] w0 (fun e w'=>∃r6:Sl,∃r7:Int,e=.returned (.tuple #[r6.v,(vi r7)])∧K r6 r7 w'):=by
 refine cw (args:=[(.agg #[(vi aA),(vi aB),(vu aK),(vs aD),(vb aE)])]) func48 ntmps48 ?_
 obtain ⟨hs,hb⟩:=st0 w0
 refine eg (nw3 [(vi aA),(vi aB),(vu aK),(vs aD),(vb aE)] 30 hs hb xb fun p1 w1 H1 hs hb=>?_)
 refine qb (ln (eg ?_))
 have ⟨h,hs⟩:=hs.hr (h H1 w1)
 refine sc call54 (h.mono fun e w2 ⟨r1,k,hk,h⟩=>have ⟨hs,hb⟩:=hk.hh hs hb;⟨_,k,?_⟩)
 refine q (ln (eg (q (q2 (.agg #[(vi aA),(vi aB),(vu aK),(vs aD),(vb aE)]) (xa p1 [(vi aA),(vi aB),(vu aK),(vs aD),(vb aE)] (isAgg30 _) (sizeOf30 _) (hb.r0 0 5 gZ)) ?_))))
 refine sc call107 (h.mono fun e w3 ⟨r2,r3,k,hk,h⟩=>have ⟨hs,hb⟩:=hk.hh hs hb;⟨_,k,?_⟩)
 refine q (qd (ln (zA (eg (qb ?_)))))
 refine ln ?_
 refine cbr h ?_ ?_<;>intro h
 refine eg (qc (ln (er (vF (xO (.inl rfl) results48 (v:=Sl.nil.v) (by kernel_rfl) (v':=(vi r3)) (by kernel_rfl) ?_)))))
 exact ⟨Sl.nil,r3,rfl,h⟩
 refine zC (zK (eg (qb ?_)))
 refine sc call108 (h.mono fun e w4 ⟨r4,r5,k,hk,h⟩=>have ⟨hs,hb⟩:=hk.hh hs hb;⟨_,k,?_⟩)
 refine qd (ln (er (xO (.inl rfl) results48 (v:=r4.v) (by kernel_rfl) (v':=(vi r5)) (by kernel_rfl) ?_)))
 exact ⟨r4,r5,rfl,h⟩
end Go.Proofs
end
section
open Go Go.SE
namespace Go.Proofs
attribute [local irreducible] Calls
theorem jLJ (l:Sp.Letter):s_T l.kind l.frm l.c l.text l.fake=Sp.vW l:=by
 obtain ⟨k,f,c,x,g⟩:=l;unfold s_T Sp.vW;have e1:s_C k=Sp.qI k:=rfl;rw [e1];have e2:(Sp.qI k || k == 6)=Sp.qR k:=rfl;rw [e2];have e3:decide (((x.size:Int))>64)=decide (x.size>64):=decide_eq_decide.2 (by omega);rw [e3];generalize Sp.qI k=a;generalize Sp.qR k=b;have hc:((((((decide (k<1)) || (decide (k>7))) || (((f:Int) != 0) && ((f:Int) != 1))) || ((!a) && ((f:Int) != 0))) || ((!b) && (!(decide (x=(⟨#[]⟩:ByteArray)))))) || ((g && ((k:Int) != 1)) && ((k:Int) != 4)))=decide (k<1∨k>7∨(f≠0∧f≠1)∨(a=false∧f≠0)∨(b=false∧x≠⟨#[]⟩)∨(g=true∧k≠1∧k≠4)):=by
  rw [Bool.eq_iff_iff];simp only [Bool.or_eq_true,Bool.and_eq_true,decide_eq_true_eq,bne_iff_ne,Bool.not_eq_true',decide_eq_false_iff_not];simp only [or_assoc,and_assoc]
 rw [hc];by_cases h:(k<1∨k>7∨(f≠0∧f≠1)∨(a=false∧f≠0)∨(b=false∧x≠⟨#[]⟩)∨(g=true∧k≠1∧k≠4))
 ·rw [decide_eq_true h,if_pos h];rfl
 ·rw [decide_eq_false h,if_neg h];by_cases h2:x.size>64
  ·rw [decide_eq_true h2,if_pos h2];rfl
  ·rw [decide_eq_false h2,if_neg h2];rfl
theorem TreeAt.back {S:NP} {w w':World} {s:Sl} {t:Sp.Tree} (h:TreeAt S w' s t) (hE:Pure w w') (hd:∀b,S b→b<w.heap.size):TreeAt S w s t:=by
 induction h with
 | mk k f t u x ks s rs len fit row kid ih =>
  refine .mk k f t u x ks s rs len fit (fun i h=>let ⟨a,h1,h2,h3⟩:=row i h;⟨a,h1,h2,fun j hj=>?_⟩) ih
  rw [← h3 j hj]
  unfold World.cell?
  rw [zV,hE.keep _ (hd _ h2) (fun h=>h)]
end Go.Proofs
end
section
open Go Go.SE
namespace Go.Proofs
open Tryz
attribute [local irreducible] Calls
abbrev MkR (S:Int×Int×Sp.Pool) (p:Addr) (F:NP) (w0 w':World):Prop:=∃F',qY w' p S.2.2 F'∧Ext F w0 w'∧∀b,F' b→F b∨w0.heap.size≤b
theorem jME (p:Addr) (l:Sp.Letter) (w0:World) {L:Sp.Pool} {F:NP} (hP:qY w0 p L F) (hok:Sp.Ok L) :
  Calls prog 107 #[.pointer (some p),.agg #[.int .i64 l.kind,.int .i64 l.frm,.int .u64 l.c,.string l.text,.bool l.fake]] w0 (fun e w'=>∃r1 r2:Int,e=.returned (.tuple #[.int .i64 r1,.int .i64 r2])∧(r1=(zU L l).1∧r2=(zU L l).2.1∧MkR (zU L l) p F w0 w')):=by
 refine w_B5 (some p) l.kind l.frm l.c l.text l.fake w0 (fun r1 r2 w'=>r1=(zU L l).1∧r2=(zU L l).2.1∧MkR (zU L l) p F w0 w') ?_
 unfold m_B5
 rw [jLJ l]
 have hF:∀b,F b→b<w0.heap.size:=fun b hb=>hP.lt hb
 refine ⟨fun hc H w2 hs=>?_,fun hc H w2 hs=>?_⟩
 ·have e:zU L l=(0,Sp.vW l,L):=by unfold zU;rw [if_pos (bne_iff_ne.1 hc)]
  rw [e];exact ⟨rfl,rfl,F,hP.pure hs.first,Ext.pure hs.first,fun b hb=>.inl hb⟩
 have hc:Sp.vW l=0:=by simpa using hc
 have e:zU L l=Sp.of L (Sp.vA l true true):=by unfold zU;rw [if_neg (by simpa using hc)]
 rw [e]
 have E2:=hs.first
 refine (jJX w2.heap.size l.kind l.frm l.c l.text l.fake true true w2 (Nat.le_refl _) (jGG hc)).mono ?_
 rintro _ w3 ⟨s3,he,hT3,E3⟩
 have hT3:TreeAt (w2.heap.size≤·) w3 s3 (Sp.vA l true true):=hT3
 have he:_=Ending.returned (.agg (xN (Sp.vA l true true) s3).toArray):=he
 generalize Sp.vA l true true=T at *
 obtain ⟨tk,tf,tt,tu,tx,tks⟩:=T
 have he:_=Ending.returned (.agg #[.int .i64 tk,.int .i64 tf,.int .i64 tt,.int .u64 tu,.string tx,s3.v]):=he
 refine ⟨tk,tf,tt,tu,tx,s3,he,E3.keptP,?_⟩
 have E03:=E2.trans E3
 refine (jPB (S:=fun b=>w2.heap.size≤b∧b<w3.heap.size) p (.mk tk tf tt tu tx tks) s3 w3 hT3.lt (hP.pure E03) hok (fun b hb hh=>by have:=hF b hb;have:=E2.size;omega) (fun b hb=>hb.2)).mono ?_
 rintro _ w4 ⟨r1,r2,rfl,h12,F',hP4,X4,hF4⟩
 obtain ⟨e1,e2⟩:=Prod.mk.inj h12
 refine ⟨r1,r2,rfl,X4.kept (fun b hb hh=>by have:=hs.old b hb;have:=hF b hh;omega),e1,e2,F',hP4,(Ext.pure E03).trans X4,fun b hb=>(hF4 b hb).imp id (fun h=>by have:=E03.size;omega)⟩
theorem jKE (l:Sp.Letter) (hl:Sp.uO l.c) (w0:World) :
  Calls prog 48 #[.agg #[.int .i64 l.kind,.int .i64 l.frm,.int .u64 l.c,.string l.text,.bool l.fake]] w0 (fun e w'=>∃r:Sl,∃n:Int,e=.returned (.tuple #[r.v,.int .i64 n])∧(n=(Sp.yU l).2∧RetO w0 5 1 (byr (Sp.yU l).1) r w')):=by
 refine w_C5 _ _ _ _ _ w0 (fun r n w'=>n=(Sp.yU l).2∧RetO w0 5 1 (byr (Sp.yU l).1) r w') ?_
 unfold m_C5
 intro H1 w1 hs
 have E1:=hs.first
 refine (jMB w1).mono ?_
 rintro _ w2 ⟨_,rfl,p,F,rfl,hP,E2,hF⟩
 refine ⟨_,rfl,E2.keptP,?_⟩
 refine (jME p l w2 hP Sp.Wf.nil.ok).mono ?_
 rintro _ w3 ⟨r2,r3,rfl,e2,e3,F3,hP3,E3,hF3⟩
 have E02:=E1.trans E2
 have E03:Pure w0 w3:=E02.trans' E3 (fun i hi hf=>by have:=hF i hf;have:=E1.size;omega)
 refine ⟨_,_,rfl,E3.kept (fun b hb hf=>by have:=hs.lt b hb;have:=hF b hf;omega),fun hc=>?_,fun hc=>?_⟩
 ·have hc:=bne_iff_ne.1 hc
  have e:Sp.yU l=([],(zU [] l).2.1):=by unfold Sp.yU;rw [if_pos (by rw [← e3];exact hc)]
  rw [e]
  exact ⟨e3,Rws.nil _ _ _,fun b hb=>(by obtain ⟨a,ha,_⟩:=hb;cases ha),E03⟩
 ·have hc:r3=0:=by simpa using hc
  have e:Sp.yU l=jKW (zU [] l).2.2 (zU [] l).1:=by unfold Sp.yU;rw [if_neg (by rw [← e3];simpa using hc)]
  rw [e,← e2]
  refine (jFL p r2 w3 (Sp.uQ Sp.Wf.nil l) (Sp.tG Sp.uI.nil hl) hP3).mono ?_
  rintro _ w4 ⟨r4,r5,rfl,e5,hR⟩
  exact ⟨_,_,rfl,hR.pure.keptP,e5,hR.rows,fun b hb=>by have:=hR.own b hb;have:=E03.size;omega,E03.trans hR.pure⟩
end Go.Proofs
end
section
open Go Go.SE
namespace Go.Sp
def Dep (L:Pool) (S:List Way) (t y:Int):Prop :=
 (∃v∈S,v.t=t∧v.rule≠0∧y=v.frm)∨(t ∉ zO S∧0<y∧(y=(jAU L S t).1∨y=(jAU L S t).2.1))
inductive Dp (L:Pool) (S:List Way):Int→Int→Prop
 | refl (t:Int):Dp L S t t
 | step {t y z:Int}:Dep L S t y→Dp L S y z→Dp L S t z
theorem Dep.made {L:Pool} {S:List Way} {t y a b:Int} {f m:Bool} (h:jAU L S t=(a,b,f,m)) (ht:t ∉ zO S):Dep L S t y↔0<y∧(y=a∨y=b):=by
 unfold Dep;rw [h];constructor
 ·rintro (⟨v,hv,rfl,_⟩ | ⟨_,h⟩)
  ·exact absurd (List.mem_map.2 ⟨v,hv,rfl⟩) ht
  ·exact h
 ·exact fun h=>.inr ⟨ht,h⟩
theorem Dep.way {L:Pool} {S:List Way} {t y r f:Int} (hn:(zO S).Nodup) (hl:SE.look (S.map fun v=>(v.t,(v.rule,v.frm))) t=some (r,f)):Dep L S t y↔r≠0∧y=f:=by
 have hm:=uW hl;obtain ⟨v,hv,e⟩:=List.mem_map.1 hm;simp only [Prod.mk.injEq] at e;obtain ⟨rfl,rfl,rfl⟩:=e;have hk:v.t∈zO S:=List.mem_map.2 ⟨v,hv,rfl⟩;unfold Dep;constructor
 ·rintro (⟨u,hu,e,hr,rfl⟩ | ⟨h,_⟩)
  ·have hnd:((S.map fun v=>(v.t,(v.rule,v.frm))).map Prod.fst).Nodup:=by rw [List.map_map];exact hn
   have h2:=jLQ hnd (List.mem_map.2 ⟨u,hu,rfl⟩);rw [e,hl] at h2;simp only [Option.some.injEq,Prod.mk.injEq] at h2;exact ⟨by rw [h2.1];exact hr,h2.2.symm⟩
  ·exact absurd hk h
 ·rintro ⟨h1,rfl⟩;exact .inl ⟨v,hv,rfl,h1,rfl⟩
theorem Dp.all {L:Pool} {S:List Way} {M:List Step} (hc:∀s∈M,∀y,Dep L S s.t y→y∈M.map Step.t) {t x:Int} (ht:t∈M.map Step.t) (h:Dp L S t x):x∈M.map Step.t:=by
 induction h with
 | refl=>exact ht
 | step hd _ ih =>
  obtain ⟨s,hs,rfl⟩:=List.mem_map.1 ht
  exact ih (hc s hs _ hd)
end Go.Sp
namespace Go.Proofs
open Tryz
attribute [local irreducible] Calls
def jPZ (s:Sp.Step):List Value:=[.int .i64 s.rule,.int .i64 s.a,.int .i64 s.b,.int .i64 s.t]
theorem jSY:SlType prog 181 185 4 32:=by
 refine ⟨underlying181,⟨t185,_,by kernel_rfl,(by kernel_rfl:t185.zero=some (.agg #[.int .i64 0,.int .i64 0,.int .i64 0,.int .i64 0])),by kernel_rfl,by kernel_rfl,rfl⟩,by omega⟩
def tru (_:Unit):Value:=.bool true
def jUZ (B:List Int):List (Int×Unit):=B.map fun t=>(t,())
theorem jKM (B:List Int):(jUZ B).map Prod.fst=B:=by
 unfold jUZ;rw [List.map_map];exact List.map_id' B
theorem jSN (B:List Int) (t:Int):jUZ (B++[t])=jUZ B++[(t,())]:=by simp [jUZ]
def PW (ma mb:Nat) (c5:Addr) (sl:Sl) (b:Nat):Prop:=b=ma∨b=mb∨b=c5.block∨sl.blk b
def says (f:FuncId) (c1 c2 c3 c4 c5:Addr):Value:=.func (.func f) #[] #[.pointer (some c1),.pointer (some c2),.pointer (some c3),.pointer (some c4),.pointer (some c5)]
structure PrfAt (w:World) (k:Addr) (c1 c2 c3 c4 c5:Addr) (ma mb:Nat) (sl:Sl) (l:List Sp.Step) (B:List Int):Prop where
 a1:w.cell? c1=some (.map (some ma))
 a2:w.cell? c2=some (.map (some mb))
 a3:w.cell? c3=some (.pointer (some k))
 a4:w.cell? c4=some (says 171 c1 c2 c3 c4 c5)
 a5:Box w c5 [sl.v] 181
 am:IMap jKV w ma (Sp.jSR l)
 bm:IMap tru w mb (jUZ B)
 ls:Rws w 185 4 sl (l.map jPZ)
 d:∀b,PW ma mb c5 sl b→b≠c1.block∧b≠c2.block∧b≠c3.block∧b≠c4.block
 n1:ma≠mb
 n2:ma≠c5.block
 n3:mb≠c5.block
 n4:¬ sl.blk ma
 n5:¬ sl.blk mb
 n6:¬ sl.blk c5.block
structure SaysAt (w:World) (k p:Addr) (c1 c2 c3 c4 c5:Addr) (ma mb:Nat) (L:Sp.Pool) (G:List Int) (S:List Sp.Way) (F FP:NP) (sl:Sl) (l:List Sp.Step) (B:List Int):Prop where
 prf:PrfAt w k c1 c2 c3 c4 c5 ma mb sl l B
 know:qA w k p G S F
 pool:zR w p L FP
 dF:∀b,F b→¬ PW ma mb c5 sl b
 dP:∀b,FP b→¬ PW ma mb c5 sl b
section
variable {w w':World} {k p c1 c2 c3 c4 c5:Addr} {ma mb:Nat} {L:Sp.Pool} {G:List Int} {S:List Sp.Way} {F FP:NP} {sl:Sl} {l:List Sp.Step} {B:List Int}
theorem PrfAt.ext {X:NP} (h:PrfAt w k c1 c2 c3 c4 c5 ma mb sl l B) (hE:Ext X w w') (h1:∀b,PW ma mb c5 sl b→¬ X b) (x1:¬ X c1.block) (x2:¬ X c2.block) (x3:¬ X c3.block) (x4:¬ X c4.block):PrfAt w' k c1 c2 c3 c4 c5 ma mb sl l B :=
 ⟨hE.cell h.a1 x1,hE.cell h.a2 x2,hE.cell h.a3 x3,hE.cell h.a4 x4,h.a5.ext hE (h1 _ (.inr (.inr (.inl rfl)))),h.am.ext hE (h1 _ (.inl rfl)),h.bm.ext hE (h1 _ (.inr (.inl rfl))),h.ls.ext hE (fun b hb=>h1 b (.inr (.inr (.inr hb)))),h.d,h.n1,h.n2,h.n3,h.n4,h.n5,h.n6⟩
theorem PrfAt.lt (h:PrfAt w k c1 c2 c3 c4 c5 ma mb sl l B) {b:Nat} (hb:PW ma mb c5 sl b):b<w.heap.size:=by
 rcases hb with rfl | rfl | rfl | hb
 ·exact h.am.lt
 ·exact h.bm.lt
 ·exact h.a5.lt
 ·exact h.ls.lt hb
theorem SaysAt.ext {X:NP} {n:Nat} (h:SaysAt w k p c1 c2 c3 c4 c5 ma mb L G S F FP sl l B) (hE:Ext X w w') (hn:∀b,X b→n≤b) (z1:∀b,PW ma mb c5 sl b→b<n∨¬ X b) (zc:c1.block<n∧c2.block<n∧c3.block<n∧c4.block<n) (zF:∀b,F b→b<n) (zP:∀b,FP b→b<n):SaysAt w' k p c1 c2 c3 c4 c5 ma mb L G S F FP sl l B:=by
 have hx:∀b,b<n→¬ X b:=fun b hb hX=>by have:=hn b hX;omega
 exact ⟨h.prf.ext hE (fun b hb=>(z1 b hb).elim (hx b) id) (hx _ zc.1) (hx _ zc.2.1) (hx _ zc.2.2.1) (hx _ zc.2.2.2),h.know.ext hE (fun b hb=>hx b (zF b hb)),h.pool.ext hE (fun b hb=>hx b (zP b hb)),h.dF,h.dP⟩
theorem SaysAt.pure (h:SaysAt w k p c1 c2 c3 c4 c5 ma mb L G S F FP sl l B) (E:Pure w w'):SaysAt w' k p c1 c2 c3 c4 c5 ma mb L G S F FP sl l B :=
 ⟨h.prf.ext E (fun _ _ h=>h) (fun h=>h) (fun h=>h) (fun h=>h) (fun h=>h),h.know.pure E,h.pool.pure E,h.dF,h.dP⟩
theorem SaysAt.zc (h:SaysAt w k p c1 c2 c3 c4 c5 ma mb L G S F FP sl l B):c1.block<w.heap.size∧c2.block<w.heap.size∧c3.block<w.heap.size∧c4.block<w.heap.size :=
 ⟨World.block_lt_of_cell? w _ h.prf.a1,World.block_lt_of_cell? w _ h.prf.a2,World.block_lt_of_cell? w _ h.prf.a3,World.block_lt_of_cell? w _ h.prf.a4⟩
theorem PrfAt.bar (h:PrfAt w k c1 c2 c3 c4 c5 ma mb sl l B) (t:Int):∃w',(Instr.mapUpdate 246 (.map (some mb)) (.int .i64 t) (.bool true)).run prog w=.ok () w'∧(∃B',(B'=B∨B'=B++[t])∧PrfAt w' k c1 c2 c3 c4 c5 ma mb sl l B')∧Ext (·=mb) w w':=by
 have hd:=h.d mb (.inr (.inl rfl));have back:∀{w':World} {B':List Int},IMap tru w' mb (jUZ B')→Ext (·=mb) w w'→PrfAt w' k c1 c2 c3 c4 c5 ma mb sl l B':=fun hI hE =>
  ⟨hE.cell h.a1 (fun e=>hd.1 e.symm),hE.cell h.a2 (fun e=>hd.2.1 e.symm),hE.cell h.a3 (fun e=>hd.2.2.1 e.symm),hE.cell h.a4 (fun e=>hd.2.2.2 e.symm),h.a5.ext hE (fun e=>h.n3 e.symm),h.am.ext hE h.n1,hI,h.ls.ext hE (fun b hb e=>h.n5 (e▸hb)),h.d,h.n1,h.n2,h.n3,h.n4,h.n5,h.n6⟩
 cases hl:SE.look (jUZ B) t with
 | none =>
  obtain ⟨w',h1,h2,h3⟩:=h.bm.put (P:=prog) (T:=246) underlying246 underlying78 hl ()
  exact ⟨w',h1,⟨_,.inr rfl,back (by rw [jSN];exact h2) h3⟩,h3⟩
 | some v =>
  cases v
  obtain ⟨w',h1,h2,h3⟩:=h.bm.again (P:=prog) (T:=246) underlying246 underlying78 hl
  exact ⟨w',h1,⟨_,.inl rfl,back h2 h3⟩,h3⟩
theorem PrfAt.barred (h:PrfAt w k c1 c2 c3 c4 c5 ma mb sl l B) (t:Int):(Instr.lookup 246 (.map (some mb)) (.int .i64 t) false).run prog w=.ok (.bool (decide (t∈B))) w:=by
 rcases h.bm.get (P:=prog) (T:=246) underlying246 underlying78 (zeroValue4 _) t false with ⟨h1,h2⟩ | ⟨v,h1,h2⟩
 ·have hn:t ∉ B:=by have:=yX.1 h1;rwa [jKM] at this
  rw [decide_eq_false hn];exact h2
 ·have hy:t∈B:=by have:=uW h1;rw [← jKM B];exact List.mem_map.2 ⟨_,this,rfl⟩
  rw [decide_eq_true hy];exact h2
end
structure SaysRet (w0:World) (k p:Addr) (c1 c2 c3 c4 c5:Addr) (ma mb:Nat) (L:Sp.Pool) (G:List Int) (S:List Sp.Way) (F FP:NP) (sl:Sl) (l:List Sp.Step) (t r:Int) (ok:Bool) (w':World) (sl':Sl) (M:List Sp.Step) (B':List Int):Prop where
 st:SaysAt w' k p c1 c2 c3 c4 c5 ma mb L G S F FP sl' (l++M) B'
 prf:Sp.PrfOk L G (fun x=>x∈Sp.zO S) (l++M) B'
 new:∀s∈M,Sp.jDB S s.t≤Sp.jDB S t∧(Sp.Sub L t s.t∨s.t∈Sp.zO S)
 idx:ok=true→∃i,r=((i:Nat):Int)∧∃hi:i<(l++M).length,(l++M)[i].t=t
 drv:ok=true↔Sp.Drv L (fun x=>x∈Sp.zO S) t
 ext:Ext (PW ma mb c5 sl) w0 w'
 own:∀b,sl'.blk b→sl.blk b∨w0.heap.size≤b
 last:ok=true→M=[]∨Sp.tAt (l++M) (((l++M).length:Int) - 1)=t
 dp:∀s∈M,Sp.Dp L S t s.t
 cl:∀s∈M,∀y,Sp.Dep L S s.t y→y∈(l++M).map Sp.Step.t
structure SaysCur (w0:World) (H:NP) (w:World) (k p:Addr) (c1 c2 c3 c4 c5:Addr) (ma mb:Nat) (L:Sp.Pool) (G:List Int) (S:List Sp.Way) (F FP:NP) (sl:Sl) (l:List Sp.Step) (t:Int) (sl1:Sl) (M B:_):Prop where
 st:SaysAt w k p c1 c2 c3 c4 c5 ma mb L G S F FP sl1 (l++M) B
 prf:Sp.PrfOk L G (fun x=>x∈Sp.zO S) (l++M) B
 new:∀s∈M,Sp.jDB S s.t<Sp.jDB S t∧(Sp.Sub L t s.t∨s.t∈Sp.zO S)
 ext:Ext (PW ma mb c5 sl) w0 w
 own:∀b,sl1.blk b→sl.blk b∨w0.heap.size≤b
 vis:∀b,sl1.blk b→¬ H b
 hs:Hst w0 H w H w
 dp:∀s∈M,Sp.Dp L S t s.t
 cl:∀s∈M,∀y,Sp.Dep L S s.t y→y∈(l++M).map Sp.Step.t
section
variable {w0 w w':World} {H H':NP} {k p c1 c2 c3 c4 c5:Addr} {ma mb:Nat} {L:Sp.Pool} {G:List Int} {S:List Sp.Way} {F FP:NP} {sl sl1 sl2:Sl} {l M M2:List Sp.Step} {B0 B B2:List Int} {t:Int}
theorem PW.old (h:SaysAt w0 k p c1 c2 c3 c4 c5 ma mb L G S F FP sl l B0) (ho:∀b,sl1.blk b→sl.blk b∨w0.heap.size≤b):∀b,PW ma mb c5 sl1 b→b<w0.heap.size→PW ma mb c5 sl b:=by
 rintro b (hb | hb | hb | hb) hlt
 ·exact .inl hb
 ·exact .inr (.inl hb)
 ·exact .inr (.inr (.inl hb))
 ·exact (ho b hb).elim (fun h=>.inr (.inr (.inr h))) (fun h=>by omega)
theorem SaysCur.nh (h:SaysCur w0 H w k p c1 c2 c3 c4 c5 ma mb L G S F FP sl l t sl1 M B) (h0:SaysAt w0 k p c1 c2 c3 c4 c5 ma mb L G S F FP sl l B0):∀b,PW ma mb c5 sl1 b→¬ H b:=by
 have old:∀b,b<w0.heap.size→¬ H b:=fun b hb hh=>by have:=h.hs.old b hh;omega
 rintro b (rfl | rfl | rfl | hb)
 ·exact old _ (h0.prf.lt (.inl rfl))
 ·exact old _ (h0.prf.lt (.inr (.inl rfl)))
 ·exact old _ (h0.prf.lt (.inr (.inr (.inl rfl))))
 ·exact h.vis b hb
theorem SaysCur.hst (h:SaysCur w0 H w k p c1 c2 c3 c4 c5 ma mb L G S F FP sl l t sl1 M B) (h0:SaysAt w0 k p c1 c2 c3 c4 c5 ma mb L G S F FP sl l B0) (hs:Hst w0 H w H' w'):SaysCur w0 H' w' k p c1 c2 c3 c4 c5 ma mb L G S F FP sl l t sl1 M B:=by
 have dj:=hs.disj (G:=PW ma mb c5 sl1) (fun b hb=>⟨h.st.prf.lt hb,h.nh h0 b hb⟩);exact ⟨h.st.ext hs.ext hs.old (fun b hb=>.inr (dj b hb)) h0.zc (fun b hb=>h0.know.lt hb) (fun b hb=>h0.pool.lt hb),h.prf,h.new,h.ext.hst hs,h.own,fun b hb=>dj b (.inr (.inr (.inr hb))),hs.here,h.dp,h.cl⟩
theorem SaysCur.step {u r:Int} {ok:Bool} (h:SaysCur w0 H w k p c1 c2 c3 c4 c5 ma mb L G S F FP sl l t sl1 M B) (h0:SaysAt w0 k p c1 c2 c3 c4 c5 ma mb L G S F FP sl l B0) (hr:SaysRet w k p c1 c2 c3 c4 c5 ma mb L G S F FP sl1 (l++M) u r ok w' sl2 M2 B2) (hu:Sp.jDB S u<Sp.jDB S t) (hsub:Sp.Sub L t u∨u∈Sp.zO S) (hcl:∀x,u∈Sp.zO S→Sp.jDB S x≤Sp.jDB S u→x∈Sp.zO S) (hdep:Sp.Dep L S t u) :
  Kept H w w'∧SaysCur w0 H w' k p c1 c2 c3 c4 c5 ma mb L G S F FP sl l t sl2 (M++M2) B2:=by
 have hk:Kept H w w':=hr.ext.kept (fun b hb hx=>h.nh h0 b hx hb)
 refine ⟨hk,by rw [← List.append_assoc];exact hr.st,by rw [← List.append_assoc];exact hr.prf,fun s hs=>?_,h.ext.trans' hr.ext (fun i hi hb=>PW.old h0 h.own i hb hi),fun b hb=>?_,fun b hb hh=>?_,h.hs.again hk,fun s hs=>?_,fun s hs y hy=>?_⟩
 ·rcases List.mem_append.1 hs with hs | hs
  ·exact h.new s hs
  ·obtain ⟨q1,q2⟩:=hr.new s hs
   refine ⟨by omega,?_⟩
   rcases q2 with q2 | q2
   ·rcases hsub with h1 | h1
    ·exact .inl (h1.trans q2)
    ·exact .inr (hcl _ h1 q1)
   ·exact .inr q2
 ·rcases hr.own b hb with h1 | h1
  ·exact h.own b h1
  ·right;have:=h.ext.size;omega
 ·rcases hr.own b hb with h1 | h1
  ·exact h.vis b h1 hh
  ·have:=h.hs.lt b hh;omega
 ·rcases List.mem_append.1 hs with hs | hs
  ·exact h.dp s hs
  ·exact .step hdep (hr.dp s hs)
 ·rw [← List.append_assoc]
  rcases List.mem_append.1 hs with hs | hs
  ·rw [List.map_append];exact List.mem_append_left _ (h.cl s hs y hy)
  ·exact hr.cl s hs y hy
end
theorem jIZ {S:List Sp.Way} {u x:Int} (hu:u∈Sp.zO S) (h:Sp.jDB S x≤Sp.jDB S u):x∈Sp.zO S:=by
 refine Classical.byContradiction fun hx=>?_;have:=Sp.jER hu;rw [Sp.jHF hx] at h;omega
end Go.Proofs
end
section
open Go Go.SE
namespace Go.Proofs
open Tryz
attribute [local irreducible] Calls
theorem c_says (k p c1 c2 c3 c4 c5:Addr) (ma mb:Nat) {L:Sp.Pool} {G:List Int} {S:List Sp.Way} {F FP:NP} (hW:Sp.Wf L) (hk:Sp.KnowOk L G S):∀(n:Nat) (t:Int) (w0:World) (sl:Sl) (l:List Sp.Step) (B:List Int),Sp.jDB S t<n →
  SaysAt w0 k p c1 c2 c3 c4 c5 ma mb L G S F FP sl l B→Sp.PrfOk L G (fun x=>x∈Sp.zO S) l B →
  Calls prog 171 #[.int .i64 t,.pointer (some c1),.pointer (some c2),.pointer (some c3),.pointer (some c4),.pointer (some c5)] w0 (fun e w'=>∃r:Int,∃ok:Bool,e=.returned (.tuple #[.int .i64 r,.bool ok])∧∃sl' M B',SaysRet w0 k p c1 c2 c3 c4 c5 ma mb L G S F FP sl l t r ok w' sl' M B'):=by
 intro n
 induction n with
 | zero=>intro t w0 sl l B h;omega
 | succ n ih =>
 intro t w0 sl l B hrk h0 hp0
 suffices key:∀K:Int→Bool→WP,(∀r ok w' sl' M B',SaysRet w0 k p c1 c2 c3 c4 c5 ma mb L G S F FP sl l t r ok w' sl' M B'→K r ok w')→m_L t c1 c2 c3 c4 c5 w0 K from
  w_L _ _ _ _ _ _ w0 _ (key _ (fun r ok w' sl' M B' h=>⟨sl',M,B',h⟩))
 intro K hK
 have hKs:∀r u t,u∈Sp.zO S→Sp.uB L r u t→t∈Sp.zO S:=fun r u t hu ha=>hk.closed u hu r t ha
 unfold m_L
 rcases h0.prf.am.get (P:=prog) (T:=245) underlying245 underlying78 (zeroValue3 _) t true with ⟨hl,hrun⟩ | ⟨v,hl,hrun⟩
 case inr =>
  obtain ⟨i,hi,rfl,hit⟩:=Sp.jSP hl
  refine ⟨_,h0.prf.a1,_,true,hrun,Br.t rfl (hK _ _ w0 sl [] B ⟨by simpa using h0,by simpa using hp0,by simp,fun _=>⟨i,rfl,by simpa using hi,by simpa using hit⟩,⟨fun _=>hit▸hp0.drv _ (List.getElem_mem hi),fun _=>rfl⟩,Ext.refl _,fun b hb=>.inl hb,fun _=>.inl rfl,by simp,by simp⟩)⟩
 case inl =>
 have htl:t ∉ l.map Sp.Step.t:=Sp.jKP.1 hl
 refine ⟨_,h0.prf.a1,_,false,hrun,Br.f rfl ?_⟩
 intro H1 w2 hs2
 have old:∀{H:NP} {w:World},Hst w0 H w H w→∀b,b<w0.heap.size→¬ H b:=fun hs b hb hh=>by have:=hs.old b hh;omega
 have C0:SaysCur w0 None w0 k p c1 c2 c3 c4 c5 ma mb L G S F FP sl l t sl [] B:=⟨by simpa using h0,by simpa using hp0,by simp,Ext.refl _,fun b hb=>.inl hb,fun b _ h=>h,Hst.start w0,by simp,by simp⟩
 have C2:=C0.hst h0 hs2
 have c5h:∀{H:NP} {w:World} {sl1:Sl} {M B1:_},SaysCur w0 H w k p c1 c2 c3 c4 c5 ma mb L G S F FP sl l t sl1 M B1→¬ H c5.block:=fun C=>C.nh h0 _ (.inr (.inr (.inl rfl)))
 have J1f:∀(r a b:Int) (H:NP) (w:World) (sl1:Sl) (M:List Sp.Step) (B1:List Int),SaysCur w0 H w k p c1 c2 c3 c4 c5 ma mb L G S F FP sl l t sl1 M B1→¬ Sp.Drv L (fun x=>x∈Sp.zO S) t→m_L_j1 t c1 c2 c5 false r a b t H w K:=by
  intro r a b H w sl1 M B1 C hnd;unfold m_L_j1;refine Br.t rfl ?_;obtain ⟨w5,hr5,⟨B',hB',P5⟩,E5⟩:=C.st.prf.bar t;have hmb:=C.nh h0 mb (.inr (.inl rfl));have hpb:Sp.PrfOk L G (fun x=>x∈Sp.zO S) (l++M) B':=by
   rcases hB' with rfl | rfl
   ·exact C.prf
   ·exact C.prf.bars hnd
  refine ⟨_,C.st.prf.a2,w5,hr5,E5.kept (fun b hb e=>hmb (e▸hb)),hK 0 false w5 sl1 M B' ⟨⟨P5,C.st.know.ext E5 (fun b hb e=>C.st.dF b hb (.inr (.inl e))),C.st.pool.ext E5 (fun b hb e=>C.st.dP b hb (.inr (.inl e))),C.st.dF,C.st.dP⟩,hpb,fun s hs=>⟨Nat.le_of_lt (C.new s hs).1,(C.new s hs).2⟩,(fun h=>by cases h),⟨(fun h=>by cases h),fun h=>absurd h hnd⟩,C.ext.trans' E5 (fun i hi e=>.inr (.inl e)),C.own,(fun h=>by cases h),C.dp,C.cl⟩⟩
 have J1t:∀(r a b:Int) (H:NP) (w:World) (sl1:Sl) (M:List Sp.Step) (B1:List Int),SaysCur w0 H w k p c1 c2 c3 c4 c5 ma mb L G S F FP sl l t sl1 M B1→Sp.fol L G (l++M) ⟨r,a,b,t⟩=true→Sp.Drv L (fun x=>x∈Sp.zO S) t→(∀y,Sp.Dep L S t y→y∈(l++M).map Sp.Step.t)→m_L_j1 t c1 c2 c5 true r a b t H w K:=by
  intro r a b H w sl1 M B1 C hfol hdt hdp;unfold m_L_j1;refine Br.f rfl ?_;have hsl:sl1.len=(l++M).length:=by rw [C.st.prf.ls.len];simp
  have hfew:=C.prf.few;have hL6:=hW.ok.few;have htn:t ∉ (l++M).map Sp.Step.t:=by
   rw [List.map_append,List.mem_append];rintro (h | h)
   ·exact htl h
   ·obtain ⟨s,hs,e⟩:=List.mem_map.1 h;have:=(C.new s hs).1;rw [e] at this;omega
  have hlk:=Sp.jKP.2 htn;obtain ⟨w5,hr5,I5,E5⟩:=C.st.prf.am.put (P:=prog) (T:=245) underlying245 underlying78 hlk ((l++M).length:Int);have hma:=C.nh h0 ma (.inl rfl);have da:=C.st.prf.d ma (.inl rfl);have b5:Box w5 c5 [sl1.v] 181:=C.st.prf.a5.ext E5 (fun e=>C.st.prf.n2 e.symm);refine ⟨_,C.st.prf.a1,sl1,C.st.prf.a5.cell0,w5,by rw [hsl];exact hr5,E5.kept (fun b hb e=>hma (e▸hb)),sl1,b5.cell0,?_⟩;intro p3 w7 h7;have E7:Pure w5 w7:=Ext.new h7;have ls7:=(C.st.prf.ls.ext E5 (fun b hb e=>C.st.prf.n4 (e▸hb))).pure E7;obtain ⟨s1,w8,hr8,R8,X8,f8⟩:=ls7.append (P:=prog) (ty:=181) (c:=1) jSY (r:=jPZ ⟨r,a,b,t⟩) (Box.of_new h7).row rfl rfl (by simp at hfew ⊢;omega) (by simp [maxLen] at hfew ⊢;omega);have b8:Box w8 c5 [sl1.v] 181:=(b5.pure E7).ext X8 C.st.prf.n6;refine ⟨s1,w8,hr8,X8.kept (fun b hb hx=>C.vis b hx hb),b8.canW0 (by simp),c5h C,?_⟩;rintro _ rfl;have E9:=Ext.setCell (w:=w8) c5 s1.v;have z5:w.heap.size≤w7.heap.size:=by have:=E5.size;have:=E7.size;omega
  have f8':∀b,s1.blk b→sl1.blk b∨w.heap.size≤b:=fun b hb=>(f8 b hb).imp_right (fun h=>by omega);have X:Ext (PW ma mb c5 sl1) w (w8.setCell c5 s1.v):=(((E5.mono (fun b _ e=>.inl e)).trans (E7.pure (F:=PW ma mb c5 sl1))).trans (X8.mono (fun b _ h=>.inr (.inr (.inr h))))).trans (E9.mono (fun b _ e=>.inr (.inr (.inl e))));have nx:∀{b},(b=c1.block∨b=c2.block∨b=c3.block∨b=c4.block)→¬ PW ma mb c5 sl1 b:=fun hb hx=>by
   obtain ⟨d1,d2,d3,d4⟩:=C.st.prf.d _ hx;rcases hb with h | h | h | h
   ·exact d1 h
   ·exact d2 h
   ·exact d3 h
   ·exact d4 h
  have lt1:∀{b},PW ma mb c5 sl1 b→b<w.heap.size:=fun hb=>C.st.prf.lt hb;have I9:IMap jKV (w8.setCell c5 s1.v) ma (Sp.jSR ((l++M)++[⟨r,a,b,t⟩])):=by
   rw [Sp.jKO];exact ((I5.pure E7).ext X8 C.st.prf.n4).ext E9 C.st.prf.n2
  have P9:PrfAt (w8.setCell c5 s1.v) k c1 c2 c3 c4 c5 ma mb s1 ((l++M)++[⟨r,a,b,t⟩]) B1:=by
   refine ⟨X.cell C.st.prf.a1 (nx (.inl rfl)),X.cell C.st.prf.a2 (nx (.inr (.inl rfl))),X.cell C.st.prf.a3 (nx (.inr (.inr (.inl rfl)))),X.cell C.st.prf.a4 (nx (.inr (.inr (.inr rfl)))),b8.set0,I9,?_,?_,?_,C.st.prf.n1,C.st.prf.n2,C.st.prf.n3,?_,?_,?_⟩
   ·have:=((C.st.prf.bm.ext E5 (fun e=>C.st.prf.n1 e.symm)).pure E7).ext X8 C.st.prf.n5;exact this.ext E9 C.st.prf.n3
   ·have hne : ∀ b, s1.blk b → b ≠ c5.block := fun b hb e => by
     rcases f8' b hb with h | h
     ·exact C.st.prf.n6 (e▸h)
     ·have:=lt1 (.inr (.inr (.inl rfl)));omega
    have:=R8.ext E9 hne;simpa using this
   ·rintro b (hb | hb | hb | hb)
    ·exact C.st.prf.d b (.inl hb)
    ·exact C.st.prf.d b (.inr (.inl hb))
    ·exact C.st.prf.d b (.inr (.inr (.inl hb)))
    ·rcases f8' b hb with h | h
     ·exact C.st.prf.d b (.inr (.inr (.inr h)))
     ·have:=C.st.zc;omega
   ·intro hb;rcases f8' _ hb with h | h
    ·exact C.st.prf.n4 h
    ·have:=lt1 (.inl rfl);omega
   ·intro hb;rcases f8' _ hb with h | h
    ·exact C.st.prf.n5 h
    ·have:=lt1 (.inr (.inl rfl));omega
   ·intro hb;rcases f8' _ hb with h | h
    ·exact C.st.prf.n6 h
    ·have:=lt1 (.inr (.inr (.inl rfl)));omega
  have hlk9:SE.look (Sp.jSR ((l++M)++[⟨r,a,b,t⟩])) t=some ((l++M).length:Int):=by
   rw [Sp.jKO,jJG (by rw [Sp.jKQ];exact htn),if_pos rfl]
  rcases I9.get (P:=prog) (T:=245) underlying245 underlying78 (zeroValue3 _) t false with ⟨hx,_⟩ | ⟨v,hv,hrun9⟩
  ·rw [hx] at hlk9;cases hlk9
  ·rw [hv] at hlk9;cases hlk9;have dg:∀{Z:NP},(∀b,Z b→b<w.heap.size)→(∀b,Z b→¬ PW ma mb c5 sl1 b)→∀b,Z b→¬ PW ma mb c5 s1 b:=fun hz h b hb hx=>by
    rcases hx with hx | hx | hx | hx
    ·exact h b hb (.inl hx)
    ·exact h b hb (.inr (.inl hx))
    ·exact h b hb (.inr (.inr (.inl hx)))
    ·rcases f8' b hx with h' | h'
     ·exact h b hb (.inr (.inr (.inr h')))
     ·have:=hz b hb;omega
   refine ⟨_,P9.a1,_,hrun9,hK _ true _ s1 (M++[⟨r,a,b,t⟩]) B1 ⟨⟨by rw [← List.append_assoc];exact P9,C.st.know.ext X (fun b hb=>C.st.dF b hb),C.st.pool.ext X (fun b hb=>C.st.dP b hb),dg (fun b hb=>C.st.know.lt hb) C.st.dF,dg (fun b hb=>C.st.pool.lt hb) C.st.dP⟩,by rw [← List.append_assoc];exact C.prf.snoc hfol htn hdt,fun s hs=>?_,fun _=>⟨(l++M).length,rfl,by simp,by simp⟩,⟨fun _=>hdt,fun _=>rfl⟩,C.ext.trans' X (fun i hi hb=>PW.old h0 C.own i hb hi),fun b hb=>?_,fun _=>.inr ?_,fun s hs=>?_,fun s hs y hy=>?_⟩⟩
   ·rcases List.mem_append.1 hs with hs | hs
    ·exact ⟨Nat.le_of_lt (C.new s hs).1,(C.new s hs).2⟩
    ·simp at hs;subst hs;exact ⟨Nat.le_refl _,.inl (.refl t)⟩
   ·rcases f8' b hb with h | h
    ·exact C.own b h
    ·right;have:=C.ext.size;omega
   ·rw [← List.append_assoc];have e:((((l++M)++[(⟨r,a,b,t⟩:Sp.Step)]).length:Int) - 1)=((l++M).length:Int):=by simp;omega
    rw [e,Sp.jFV (by simp)];simp
   ·rcases List.mem_append.1 hs with hs | hs
    ·exact C.dp s hs
    ·simp at hs;subst hs;exact .refl t
   ·rw [← List.append_assoc,List.map_append];refine List.mem_append_left _ ?_;rcases List.mem_append.1 hs with hs | hs
    ·exact C.cl s hs y hy
    ·simp at hs;subst hs;exact hdp y hy
 have hcall : ∀ (u : Int) (H : NP) (w : World) (sl1 : Sl) (M : List Sp.Step) (B1 : List Int), SaysCur w0 H w k p c1 c2 c3 c4 c5 ma mb L G S F FP sl l t sl1 M B1 → Sp.jDB S u < Sp.jDB S t → (Sp.Sub L t u ∨ u ∈ Sp.zO S) → Sp.Dep L S t u → ∀ (Q : Int → Bool → WP),
   (∀(r:Int) (ok:Bool) (w':World) (sl2:Sl) (M2:List Sp.Step) (B2:List Int),SaysCur w0 H w' k p c1 c2 c3 c4 c5 ma mb L G S F FP sl l t sl2 (M++M2) B2→(ok=true↔Sp.Drv L (fun x=>x∈Sp.zO S) u)→(ok=true→∃i,r=((i:Nat):Int)∧∃hi:i<(l++(M++M2)).length,(l++(M++M2))[i].t=u)→Kept H w w'→Q r ok w') →
   ∃v13:Value,w.cell? c4=some v13∧∃(f1:FuncId) (fs1 cs1:Array Value),v13=.func (.func f1) fs1 cs1∧(∀args w,(callFunc f1 args).run prog w=.ok (.enter f1 args) w)∧Calls prog f1 (fs1++#[(.int .i64 u)]++cs1) w (fun e w'=>∃r1:Int,∃r2:Bool,e=.returned (.tuple #[(.int .i64 r1),(.bool r2)])∧Kept H w w'∧Q r1 r2 w'):=by
  intro u H w sl1 M B1 C hu hsub hdep Q hQ
  refine ⟨_,C.st.prf.a4,171,#[],_,rfl,call171,?_⟩
  refine (ih u w sl1 (l++M) B1 (by omega) C.st C.prf).mono ?_
  rintro _ w' ⟨r,ok,rfl,sl2,M2,B2,hret⟩
  obtain ⟨hkp,C2⟩:=C.step h0 hret hu hsub (fun x hu hx=>jIZ hu hx) hdep
  refine ⟨r,ok,rfl,hkp,hQ r ok w' sl2 M2 B2 C2 hret.drv (fun h=>?_) hkp⟩
  obtain ⟨i,e,hi,hit⟩:=hret.idx h
  refine ⟨i,e,by rw [← List.append_assoc];exact hi,?_⟩
  simpa [List.append_assoc] using hit
 obtain ⟨sg,m,sk,k2,hF2⟩:=C2.st.know
 obtain ⟨vr,vf,hlook,hway⟩:=k2.look t
 refine ⟨_,C2.st.prf.a2,_,C2.st.prf.barred t,_,C2.st.prf.a3,k,rfl,_,k2.box.cell rfl,vr,vf,_,hlook,fun hc=>?_,fun hc=>?_⟩
 ·-- it is seen
  have hts:t∈Sp.zO S:=by simpa using hc
  have hdt:Sp.Drv L (fun x=>x∈Sp.zO S) t:=.seen hts
  have hnB:decide (t∈B)=false:=decide_eq_false (fun hb=>hp0.bar t hb hdt)
  have hin:=hk.inp t hts
  have hin':¬ Sp.inP L t=false:=by simp [hin]
  rw [hnB]
  rcases Sp.way_of hk.toWaysOk (uW (hway hts)) with ⟨rfl,rfl,hg⟩ | ⟨hne,hari,hfs,hrf⟩
  ·refine ⟨fun h=>by simp at h,fun _=>?_⟩
   intro H2 w10 hs10
   have C10:=C2.hst h0 hs10
   refine J1t 0 0 0 H2 w10 sl [] B C10 ?_ hdt (fun y hy=>absurd rfl ((Sp.Dep.way hk.nodup (hway hts)).1 hy).1)
   unfold Sp.fol;rw [if_neg hin',if_pos rfl];simp [hg]
  ·refine ⟨fun _=>?_,fun h=>absurd (by simpa using h) hne⟩
   intro H2 w10 hs10
   have C10:=C2.hst h0 hs10
   refine hcall vf H2 w10 sl [] B C10 hrf (.inr hfs) ((Sp.Dep.way hk.nodup (hway hts)).2 ⟨hne,rfl⟩) _ ?_
   intro r1 ok w11 sl2 M2 B2 C11 hd11 hi11 _ w12 hs12
   have C12:=C11.hst h0 hs12
   obtain ⟨i,rfl,hi,hit⟩:=hi11 (hd11.2 (.seen hfs))
   refine J1t vr i 0 H2 w12 sl2 _ B2 C12 ?_ hdt (fun y hy=>by rw [((Sp.Dep.way hk.nodup (hway hts)).1 hy).2];exact List.mem_map.2 ⟨_,List.getElem_mem hi,hit⟩)
   have hr:=hari.rule
   unfold Sp.fol
   rw [if_neg hin',if_neg hne,if_pos hr]
   have h1:=Sp.jAL hi
   have h2:=Sp.jFV hi
   rw [hit] at h2
   simp only [h1,h2,Bool.true_and,Bool.and_eq_true,beq_iff_eq,true_and]
   exact (Sp.jMK hr).2 hari
 ·-- it is not
  have hts:t ∉ Sp.zO S:=by simpa using hc
  refine ⟨fun hb=>?_,fun hb=>?_⟩
  ·intro H2 w4 hs4
   have C4:=C2.hst h0 hs4
   refine ⟨_,C4.st.prf.a3,?_⟩
   refine (jPH k p t w4 C4.st.know C4.st.pool hW).mono ?_
   rintro _ w13 ⟨r3,r4,r5,r6,rfl,hmade,E13⟩
   refine ⟨r3,r4,r5,r6,rfl,E13.keptP,?_⟩
   have C13:SaysCur w0 H2 w13 k p c1 c2 c3 c4 c5 ma mb L G S F FP sl l t sl [] B:=⟨C4.st.pure E13,C4.prf,C4.new,C4.ext.thenPure E13,C4.own,C4.vis,C4.hs.again E13.keptP,C4.dp,C4.cl⟩
   have J2 : ∀ (H : NP) (w : World) (sl1 : Sl) (M : List Sp.Step) (B1 : List Int) (ok4 : Bool) (rl a : Int), SaysCur w0 H w k p c1 c2 c3 c4 c5 ma mb L G S F FP sl l t sl1 M B1 →
     (ok4=false→¬ Sp.Drv L (fun x=>x∈Sp.zO S) t) →
     (ok4=true→r4≤0→Sp.fol L G (l++M) ⟨rl,a,0,t⟩=true∧Sp.Drv L (fun x=>x∈Sp.zO S) t) →
     (ok4=true→0<r4→Sp.jDB S r4<Sp.jDB S t∧(Sp.Sub L t r4∨r4∈Sp.zO S)∧(Sp.Drv L (fun x=>x∈Sp.zO S) r4→Sp.Drv L (fun x=>x∈Sp.zO S) t)∧(Sp.Drv L (fun x=>x∈Sp.zO S) t→Sp.Drv L (fun x=>x∈Sp.zO S) r4) ∧
      ∀M2 (i:Nat) (hi:i<(l++(M++M2)).length),(l++(M++M2))[i].t=r4→Sp.fol L G (l++(M++M2)) ⟨rl,a,i,t⟩=true) →
     (ok4=true→0<r3→r3∈(l++M).map Sp.Step.t) →
     m_L_j2 t c1 c2 c4 c5 r4 ok4 rl a 0 t w0 H w K:=by
    intro H w sl1 M B1 ok4 rl a C h1 h2 h3 h4
    unfold m_L_j2
    refine ⟨fun hc=>?_,fun hc=>?_⟩
    ·rw [Bool.and_eq_true] at hc
     obtain ⟨hok,hpos⟩:=hc
     have hpos:=of_decide_eq_true hpos
     obtain ⟨g1,g2,g3,g4,g5⟩:=h3 hok hpos
     intro H5 w19 hs19
     have C19:=C.hst h0 hs19
     refine hcall r4 H5 w19 sl1 M B1 C19 g1 g2 ((Sp.Dep.made hmade.symm hts).2 ⟨hpos,.inr rfl⟩) _ ?_
     intro r7 r8 w20 sl2 M2 B2 C20 hd20 hi20 _ w21 hs21
     have C21:=C20.hst h0 hs21
     cases r8 with
     | false=>exact J1f _ _ _ H5 w21 sl2 _ B2 C21 (fun hd=>by have:=hd20.2 (g4 hd);cases this)
     | true =>
      obtain ⟨i,rfl,hi,hit⟩:=hi20 rfl
      refine J1t _ _ _ H5 w21 sl2 _ B2 C21 (g5 M2 i hi hit) (g3 (hd20.1 rfl)) (fun y hy=>?_)
      rcases (Sp.Dep.made hmade.symm hts).1 hy with ⟨hy0,e | e⟩
      ·subst e
       rw [← List.append_assoc,List.map_append]
       exact List.mem_append_left _ (h4 hok hy0)
      ·subst e
       exact List.mem_map.2 ⟨_,List.getElem_mem hi,hit⟩
    ·intro H5 w19 hs19
     have C19:=C.hst h0 hs19
     cases ok4 with
     | false=>exact J1f _ _ _ H5 w19 sl1 M B1 C19 (h1 rfl)
     | true =>
      have hle:r4≤0:=by simpa using hc
      obtain ⟨q1,q2⟩:=h2 rfl hle
      refine J1t _ _ _ H5 w19 sl1 M B1 C19 q1 q2 (fun y hy=>?_)
      rcases (Sp.Dep.made hmade.symm hts).1 hy with ⟨hy0,e | e⟩
      ·subst e;exact h4 rfl hy0
      ·omega
   cases hin:Sp.inP L t with
   | false =>
    have hm:Sp.jAU L S t=(0,0,false,false):=by unfold Sp.jAU;rw [if_pos hin]
    rw [hm] at hmade;cases hmade
    have hnd:¬ Sp.Drv L (fun x=>x∈Sp.zO S) t:=fun hd=>by
     have hnode:Sp.nodeOf L t=Sp.jNC:=by unfold Sp.nodeOf;rw [Sp.uX hin];rfl
     rcases hd.inv with h | h | ⟨h,_⟩ | ⟨h,_⟩ | ⟨h,_⟩
     ·exact hts h
     all_goals (rw [hnode] at h;exact absurd h (by decide))
    refine ⟨fun h=>by simp at h,fun _=>?_⟩
    intro H4 w18 hs18
    exact J2 H4 w18 sl [] B false _ _ (C13.hst h0 hs18) (fun _=>hnd) (fun h=>by cases h) (fun h=>by cases h) (fun h=>by cases h)
   | true =>
   have hin':¬ Sp.inP L t=false:=by simp [hin]
   have ht1:=(Sp.zX.1 hin).1
   generalize hn:Sp.nodeOf L t=n at *
   have hm:=hmade
   unfold Sp.jAU at hm
   rw [if_neg hin',hn] at hm
   have kx:∀x∈Sp.zG n,Sp.inP L x=true∧x<t:=by have:=(hW.node hin).2.2.2.2.1;rw [hn] at this;exact this
   rcases Sp.uG hW hin with hk1 | hk4 | hk5 | hk6 | hk7
   ·rw [hn] at hk1
    rw [if_pos hk1] at hm;cases hm
    refine ⟨fun h=>by simp at h,fun _=>?_⟩
    intro H4 w18 hs18
    have hd:Sp.Drv L (fun x=>x∈Sp.zO S) t:=.free (by rw [hn];exact hk1)
    refine J2 H4 w18 sl [] B true _ _ (C13.hst h0 hs18) (fun h=>by cases h) (fun _ _=>⟨?_,hd⟩) (fun _ h=>by omega) (fun _ h=>by omega)
    unfold Sp.fol;rw [if_neg hin',hn];simp [hk1]
   ·rw [hn] at hk4
    rw [if_neg (by rw [hk4];decide),if_pos hk4] at hm;cases hm
    have ha:=kx n.a (Sp.jDF (.inl hk4))
    have hb':=kx n.b (Sp.jRK hk4)
    have ha1:=(Sp.zX.1 ha.1).1
    have hb1:=(Sp.zX.1 hb'.1).1
    have sa:Sp.Sub L t n.a:=.kid (.refl t) (by rw [hn];exact Sp.jDF (.inl hk4))
    have sb:Sp.Sub L t n.b:=.kid (.refl t) (by rw [hn];exact Sp.jRK hk4)
    have inv:Sp.Drv L (fun x=>x∈Sp.zO S) t→Sp.Drv L (fun x=>x∈Sp.zO S) n.a∧Sp.Drv L (fun x=>x∈Sp.zO S) n.b:=fun hd=>by
     rcases hd.inv with h | h | ⟨_,h1,h2⟩ | ⟨h,_⟩ | ⟨h,_⟩
     ·exact absurd h hts
     ·rw [hn,hk4] at h;exact absurd h (by decide)
     ·rw [hn] at h1 h2;exact ⟨h1,h2⟩
     ·rw [hn,hk4] at h;cases h
     ·rw [hn,hk4] at h;exact absurd h (by decide)
    refine ⟨fun _=>?_,fun h=>by simp at h;omega⟩
    intro H4 w18 hs18
    refine hcall n.a H4 w18 sl [] B (C13.hst h0 hs18) (Sp.jDU hts ha1 ha.2) (.inl sa) ((Sp.Dep.made hmade.symm hts).2 ⟨by omega,.inl rfl⟩) _ ?_
    intro r9 r10 w22 sl2 M2 B2 C22 hd22 hi22 _ w23 hs23
    have C23:=C22.hst h0 hs23
    refine J2 H4 w23 sl2 _ B2 r10 _ _ C23 (fun h hd=>by have:=hd22.2 (inv hd).1;rw [h] at this;cases this) (fun _ h=>by omega) (fun h _=>⟨Sp.jDU hts hb1 hb'.2,.inl sb,fun hd=>.pair (by rw [hn];exact hk4) (by rw [hn];exact hd22.1 h) (by rw [hn];exact hd),fun hd=>(inv hd).2,?_⟩) (fun h _=>by obtain ⟨i1,_,hi1,hit1⟩:=hi22 h;exact List.mem_map.2 ⟨_,List.getElem_mem hi1,hit1⟩)
    intro M3 i hi hit
    obtain ⟨i1,rfl,hi1,hit1⟩:=hi22 h
    have hi1':i1<(l++(([]++M2)++M3)).length:=by simp at hi1 ⊢;omega
    have e1:Sp.tAt (l++(([]++M2)++M3)) (i1:Int)=n.a:=by
     rw [← List.append_assoc,Sp.jPY hi1];exact hit1
    have e2:=Sp.jFV hi
    rw [hit] at e2
    clear hit
    generalize l++(([]++M2)++M3)=l' at *
    unfold Sp.fol;rw [if_neg hin',hn]
    simp [hk4,Sp.jAL hi,Sp.jAL hi1',e1,e2]
   ·rw [hn] at hk5
    rw [if_neg (by rw [hk5];decide),if_neg (by rw [hk5];decide),if_pos hk5] at hm;cases hm
    have ha:=kx n.a (Sp.jDF (.inr (.inl hk5)))
    have ha1:=(Sp.zX.1 ha.1).1
    have sa:Sp.Sub L t n.a:=.kid (.refl t) (by rw [hn];exact Sp.jDF (.inr (.inl hk5)))
    have inv:Sp.Drv L (fun x=>x∈Sp.zO S) t→Sp.Drv L (fun x=>x∈Sp.zO S) n.a:=fun hd=>by
     rcases hd.inv with h | h | ⟨h,_⟩ | ⟨_,h⟩ | ⟨h,_⟩
     ·exact absurd h hts
     ·rw [hn,hk5] at h;exact absurd h (by decide)
     ·rw [hn,hk5] at h;cases h
     ·rw [hn] at h;exact h
     ·rw [hn,hk5] at h;exact absurd h (by decide)
    refine ⟨fun _=>?_,fun h=>by simp at h;omega⟩
    intro H4 w18 hs18
    refine hcall n.a H4 w18 sl [] B (C13.hst h0 hs18) (Sp.jDU hts ha1 ha.2) (.inl sa) ((Sp.Dep.made hmade.symm hts).2 ⟨by omega,.inl rfl⟩) _ ?_
    intro r9 r10 w22 sl2 M2 B2 C22 hd22 hi22 _ w23 hs23
    have C23:=C22.hst h0 hs23
    refine J2 H4 w23 sl2 _ B2 r10 _ _ C23 (fun h hd=>by have:=hd22.2 (inv hd);rw [h] at this;cases this) (fun h _=>⟨?_,.hash (by rw [hn];exact hk5) (by rw [hn];exact hd22.1 h)⟩) (fun _ h=>by omega) (fun h _=>by obtain ⟨i1,_,hi1,hit1⟩:=hi22 h;exact List.mem_map.2 ⟨_,List.getElem_mem hi1,hit1⟩)
    obtain ⟨i1,rfl,hi1,hit1⟩:=hi22 h
    have e1:=Sp.jFV hi1
    rw [hit1] at e1
    clear hit1
    have q1:=Sp.jAL hi1
    generalize l++([]++M2)=l' at *
    unfold Sp.fol;rw [if_neg hin',hn]
    simp [hk5,q1,e1]
   ·rw [hn] at hk6
    rw [if_neg (by rw [hk6];decide),if_neg (by rw [hk6];decide),if_neg (by rw [hk6];decide),if_pos hk6] at hm;cases hm
    have hnd:¬ Sp.Drv L (fun x=>x∈Sp.zO S) t:=fun hd=>by
     rcases hd.inv with h | h | ⟨h,_⟩ | ⟨h,_⟩ | ⟨h,_⟩
     ·exact hts h
     all_goals (rw [hn,hk6] at h;exact absurd h (by decide))
    refine ⟨fun h=>by simp at h,fun _=>?_⟩
    intro H4 w18 hs18
    exact J2 H4 w18 sl [] B false _ _ (C13.hst h0 hs18) (fun _=>hnd) (fun h=>by cases h) (fun h=>by cases h) (fun h=>by cases h)
   ·rw [hn] at hk7
    obtain ⟨x4,x5,x6,xf⟩:=Sp.jTA hk7
    rw [if_neg (by rw [xf];decide),if_neg x4,if_neg x5,if_neg x6] at hm
    generalize hko:Sp.lT L (Sp.xK n)=ko at *
    obtain ⟨key,kok⟩:=ko
    simp only [Prod.mk.injEq] at hm
    obtain ⟨rfl,rfl,rfl,rfl⟩:=hm
    have ha:=kx n.a (Sp.jDF (.inr (.inr hk7)))
    have ha1:=(Sp.zX.1 ha.1).1
    have sa:Sp.Sub L t n.a:=.kid (.refl t) (by rw [hn];exact Sp.jDF (.inr (.inr hk7)))
    have inv:Sp.Drv L (fun x=>x∈Sp.zO S) t→Sp.Drv L (fun x=>x∈Sp.zO S) n.a∧kok=true∧r4∈Sp.zO S:=fun hd=>by
     rcases hd.inv with h | h | ⟨h,_⟩ | ⟨h,_⟩ | ⟨_,h1,h2,h3⟩
     ·exact absurd h hts
     ·rw [hn,xf] at h;cases h
     ·rw [hn] at h;exact absurd h x4
     ·rw [hn] at h;exact absurd h x5
     ·rw [hn] at h1 h2 h3;rw [hko] at h2 h3;exact ⟨h1,h2,h3⟩
    refine ⟨fun hc=>?_,fun hc=>?_⟩
    ·rw [Bool.and_eq_true,Bool.and_eq_true] at hc
     obtain ⟨⟨hkok,hkey⟩,_⟩:=hc
     have hkey:=of_decide_eq_true hkey
     have hkn:=Sp.jHK (L:=L) (n:=Sp.xK n) (by rw [hko];exact hkok)
     rw [hko] at hkn
     have hk1:=(Sp.zX.1 hkn.1).1
     intro H4 w18 hs18
     refine hcall n.a H4 w18 sl [] B (C13.hst h0 hs18) (Sp.jDU hts ha1 ha.2) (.inl sa) ((Sp.Dep.made hmade.symm hts).2 ⟨by omega,.inl rfl⟩) _ ?_
     intro r9 r10 w22 sl2 M2 B2 C22 hd22 hi22 _ w23 hs23
     have C23:=C22.hst h0 hs23
     refine J2 H4 w23 sl2 _ B2 r10 _ _ C23 (fun h hd=>by have:=hd22.2 (inv hd).1;rw [h] at this;cases this) (fun _ h=>by simp only at hk1;omega) (fun h _=>⟨Sp.jTK hts ht1 hkey,.inr hkey,fun _=>.signed (by rw [hn];exact hk7) (by rw [hn];exact hd22.1 h) (by rw [hn,hko];exact hkok) (by rw [hn,hko];exact hkey),fun _=>.seen hkey,?_⟩) (fun h _=>by obtain ⟨i1,_,hi1,hit1⟩:=hi22 h;exact List.mem_map.2 ⟨_,List.getElem_mem hi1,hit1⟩)
     intro M3 i hi hit
     obtain ⟨i1,rfl,hi1,hit1⟩:=hi22 h
     have hi1':i1<(l++(([]++M2)++M3)).length:=by simp at hi1 ⊢;omega
     have e1:Sp.tAt (l++(([]++M2)++M3)) (i1:Int)=n.a:=by
      rw [← List.append_assoc,Sp.jPY hi1];exact hit1
     have e2:Sp.tAt (l++(([]++M2)++M3)) (i:Int)=r4:=by rw [Sp.jFV hi];exact hit
     clear hit
     generalize l++(([]++M2)++M3)=l' at *
     unfold Sp.fol;rw [if_neg hin',hn]
     have hkey2:=hkn.2.1
     simp only at hkey2
     simp [hk7,x4,x5,Sp.jAL hi,Sp.jAL hi1',e1,e2,hkey2,Sp.vL]
    ·intro H4 w18 hs18
     have hnk:(kok && decide (r4∈Sp.zO S))=false:=by
      have:decide (n.a>0)=true:=by simp;omega
      rw [this] at hc;simpa using hc
     refine J2 H4 w18 sl [] B _ _ _ (C13.hst h0 hs18) (fun _ hd=>?_) (fun h=>by rw [hnk] at h;cases h) (fun h=>by rw [hnk] at h;cases h) (fun h=>by rw [hnk] at h;cases h)
     obtain ⟨_,i2,i3⟩:=inv hd
     rw [i2,decide_eq_true i3] at hnk;cases hnk
  ·have htB:t∈B:=by simpa using hb
   intro H2 w4 hs4
   have C4:=C2.hst h0 hs4
   have hnB:(!decide (t∈B))=false:=by simp [htB]
   rw [hnB]
   exact J1f 0 0 0 H2 w4 sl [] B C4 (hp0.bar t htB)
theorem jKI (k p:Addr) (t:Int) (w0:World) {L:Sp.Pool} {G:List Int} {S:List Sp.Way} {F FP:NP} (hW:Sp.Wf L) (hk:Sp.KnowOk L G S) (h:qA w0 k p G S F) (hP:zR w0 p L FP) :
  Calls prog 116 #[.pointer (some k),.int .i64 t] w0 (fun e w'=>∃r:Sl,∃ok:Bool,e=.returned (.tuple #[r.v,.bool ok])∧∃l:List Sp.Step,RetO w0 185 4 (l.map jPZ) r w'∧(ok=true↔Sp.Drv L (fun x=>x∈Sp.zO S) t)∧(ok=false→l=[])∧(ok=true→l≠[]∧(∀i (hi:i<l.length),Sp.fol L G (l.take i) l[i]=true)∧(l.map Sp.Step.t).Nodup∧Sp.tAt l ((l.length:Int) - 1)=t∧∀s∈l,Sp.Sub L t s.t∨s.t∈Sp.zO S)∧(ok=true→∀x,x∈l.map Sp.Step.t↔Sp.Dp L S t x)):=by
 suffices key:∀K:Sl→Bool→WP,(∀r ok w' l,RetO w0 185 4 (l.map jPZ) r w'→(ok=true↔Sp.Drv L (fun x=>x∈Sp.zO S) t)→(ok=false→l=[])→(ok=true→l≠[]∧(∀i (hi:i<l.length),Sp.fol L G (l.take i) l[i]=true)∧(l.map Sp.Step.t).Nodup∧Sp.tAt l ((l.length:Int) - 1)=t∧∀s∈l,Sp.Sub L t s.t∨s.t∈Sp.zO S)→(ok=true→∀x,x∈l.map Sp.Step.t↔Sp.Dp L S t x)→K r ok w')→m_H2 (some k) t w0 K from
  w_H2 _ _ w0 _ (key _ (fun r ok w' l a b c d e=>⟨l,a,b,c,d,e⟩))
 intro K hK
 unfold m_H2
 intro p1 w1 h1
 have B1:=Box.of_new h1
 refine ⟨_,B1.cell0,Br.f rfl ?_⟩
 intro p2 w2 h2 p3 w3 h3 p4 w4 h4
 have B4:=Box.of_new h4
 refine ⟨B4.canW0 (by simp),?_⟩
 rintro _ rfl
 have X4:=Ext.setCell (w:=w4) p4 (.map (some p3.block))
 have B4':=B4.set0 (v:=.map (some p3.block))
 have s1:=h1.at_size;have s2:=h2.at_size;have s3:=h3.at_size;have s4:=h4.at_size
 have E1:Pure w0 w1:=Ext.new h1
 have E2:Pure w1 w2:=Ext.new h2
 have E3:Pure w2 w3:=Ext.new h3
 have E4:Pure w3 w4:=Ext.new h4
 have l1:=B1.lt
 have l2:=(Box.of_new h2).lt
 have l3:=(IMap.of_new (f:=jKV) h3).lt
 have l4:=B4.lt
 have z4:=X4.size
 generalize hw5:w4.setCell p4 (.map (some p3.block))=w5 at *
 intro p5 w6 h6 p6 w7 h7
 have B7:=Box.of_new h7
 refine ⟨B7.canW0 (by simp),?_⟩
 rintro _ rfl
 have X7:=Ext.setCell (w:=w7) p6 (.map (some p5.block))
 have B7':=B7.set0 (v:=.map (some p5.block))
 have s6:=h6.at_size;have s7:=h7.at_size
 have E6:Pure w5 w6:=Ext.new h6
 have E7:Pure w6 w7:=Ext.new h7
 have l6:=(IMap.of_new (f:=tru) h6).lt
 have l7:=B7.lt
 have z7:=X7.size
 generalize hw8:w7.setCell p6 (.map (some p5.block))=w8 at *
 intro p7 w9 h9
 have B9:=Box.of_new h9
 refine ⟨B9.canW0 (by simp),?_⟩
 rintro _ rfl
 have X9:=Ext.setCell (w:=w9) p7 (.func (.func 171) #[] #[.pointer (some p4),.pointer (some p6),.pointer (some p1),.pointer (some p7),.pointer (some p2)])
 have B9':=B9.set0 (v:=.func (.func 171) #[] #[.pointer (some p4),.pointer (some p6),.pointer (some p1),.pointer (some p7),.pointer (some p2)])
 have s9:=h9.at_size
 have E9:Pure w8 w9:=Ext.new h9
 have l9:=B9.lt
 have z9:=X9.size
 have g1:=E1.size;have g2:=E2.size;have g3:=E3.size;have g4:=E4.size;have g6:=E6.size;have g7:=E7.size;have g9:=E9.size
 generalize hw10:w9.setCell p7 (.func (.func 171) #[] #[.pointer (some p4),.pointer (some p6),.pointer (some p1),.pointer (some p7),.pointer (some p2)])=w10 at *
 have hnil:∀b,¬ Sl.nil.blk b:=fun b hb=>by obtain ⟨a,h,_⟩:=hb;cases h
 have T5:Pure w0 w5:=(((E1.trans E2).trans E3).trans E4).trans' X4 (fun i hi e=>by omega)
 have T8:Pure w5 w8:=(E6.trans E7).trans' X7 (fun i hi e=>by omega)
 have T10:Pure w8 w10:=E9.trans' X9 (fun i hi e=>by omega)
 have T:Pure w0 w10:=(T5.trans T8).trans T10
 have T2:Pure w2 w5:=(E3.trans E4).trans' X4 (fun i hi e=>by omega)
 have T1:Pure w1 w5:=E2.trans T2
 have T3:Pure w3 w5:=E4.trans' X4 (fun i hi e=>by omega)
 have T6:Pure w6 w8:=E7.trans' X7 (fun i hi e=>by omega)
 have T5':Pure w5 w10:=T8.trans T10
 have h0:SaysAt w10 k p p4 p6 p1 p7 p2 p3.block p5.block L G S F FP Sl.nil [] []:=by
  refine ⟨⟨(B4'.pure T5').cell0,(B7'.pure T10).cell0,(B1.pure (T1.trans T5')).cell0,B9'.cell0,(Box.of_new h2).pure (T2.trans T5'),(IMap.of_new h3).pure (T3.trans T5'),(IMap.of_new h6).pure (T6.trans T10),Rws.nil _ _ _,?_,by omega,by omega,by omega,hnil _,hnil _,hnil _⟩,h.pure T,hP.pure T,?_,?_⟩
  ·rintro b (rfl | rfl | rfl | hb)
   ·omega
   ·omega
   ·omega
   ·exact (hnil b hb).elim
  ·rintro b hb (rfl | rfl | rfl | hx)
   ·have:=h.lt hb;omega
   ·have:=h.lt hb;omega
   ·have:=h.lt hb;omega
   ·exact hnil b hx
  ·rintro b hb (rfl | rfl | rfl | hx)
   ·have:=hP.lt hb;omega
   ·have:=hP.lt hb;omega
   ·have:=hP.lt hb;omega
   ·exact hnil b hx
 refine ⟨_,h0.prf.a4,171,#[],_,rfl,call171,?_⟩
 refine (c_says k p p4 p6 p1 p7 p2 p3.block p5.block hW hk _ t w10 Sl.nil [] [] (Nat.lt_succ_self _) h0 (Sp.PrfOk.nil _ _ _)).mono ?_
 rintro _ w11 ⟨r1,ok,rfl,sl',M,B',hret⟩
 refine ⟨r1,ok,rfl,fun hc=>?_,fun hc=>?_⟩
 ·have hf:ok=false:=by simpa using hc
  subst hf
  refine hK Sl.nil false w11 [] ⟨Rws.nil _ _ _,fun b hb=>(hnil b hb).elim,T.trans' hret.ext (fun i hi hx=>?_)⟩ hret.drv (fun _=>rfl) (fun h=>by cases h) (fun h=>by cases h)
  rcases hx with rfl | rfl | rfl | hx
  ·omega
  ·omega
  ·omega
  ·exact (hnil _ hx).elim
 ·have ht:ok=true:=by simpa using hc
  subst ht
  have hst:=hret.st
  have hpf:=hret.prf
  have hidx:=hret.idx rfl
  simp only [List.nil_append] at hst hpf hidx
  obtain ⟨i,_,hi,hit⟩:=hidx
  refine ⟨sl',hst.prf.a5.cell0,?_⟩
  refine hK sl' true w11 M ⟨hst.prf.ls,fun b hb=>?_,T.trans' hret.ext (fun i hi hx=>?_)⟩ hret.drv (fun h=>by cases h) (fun _=>⟨?_,hpf.fol,hpf.nd,?_,fun s hs=>(hret.new s hs).2⟩) (fun _ x=>⟨fun hx=>?_,fun hx=>?_⟩)
  ·rcases hret.own b hb with h | h
   ·exact (hnil b h).elim
   ·have:=T.size;omega
  ·rcases hx with rfl | rfl | rfl | hx
   ·omega
   ·omega
   ·omega
   ·exact (hnil _ hx).elim
  ·intro e;subst e;simp at hi
  ·have:=hret.last rfl
   simp only [List.nil_append] at this
   rcases this with rfl | h
   ·simp at hi
   ·exact h
  ·obtain ⟨s,hs,rfl⟩:=List.mem_map.1 hx
   exact hret.dp s hs
  ·have hcl:=hret.cl
   simp only [List.nil_append] at hcl
   exact Sp.Dp.all hcl (List.mem_map.2 ⟨_,List.getElem_mem hi,hit⟩) hx
theorem jMH (k p:Addr) (t:Int) (w0:World) {L:Sp.Pool} {G:List Int} {S:List Sp.Way} {F FP:NP} (hW:Sp.Wf L) (hk:Sp.KnowOk L G S) (h:qA w0 k p G S F) (hP:zR w0 p L FP) :
  Calls prog 116 #[.pointer (some k),.int .i64 t] w0 (fun e w'=>∃r:Sl,∃ok:Bool,e=.returned (.tuple #[r.v,.bool ok])∧∃l:List Sp.Step,RetO w0 185 4 (l.map jPZ) r w'∧(ok=true↔Sp.Drv L (fun x=>x∈Sp.zO S) t)∧(ok=false→l=[])∧(ok=true→l≠[]∧(∀i (hi:i<l.length),Sp.fol L G (l.take i) l[i]=true)∧(l.map Sp.Step.t).Nodup∧Sp.tAt l ((l.length:Int) - 1)=t∧∀s∈l,Sp.Sub L t s.t∨s.t∈Sp.zO S)):=by
 refine (jKI k p t w0 hW hk h hP).mono ?_
 rintro _ w' ⟨r,ok,rfl,l,a,b,c,d,_⟩
 exact ⟨r,ok,rfl,l,a,b,c,d⟩
theorem jHY (k p:Addr) (t:Int) (w0:World) {L:Sp.Pool} {G:List Int} {S:List Sp.Way} {F FP:NP} (hW:Sp.Wf L) (hk:Sp.KnowOk L G S) (h:qA w0 k p G S F) (hP:zR w0 p L FP) :
  Calls prog 71 #[.pointer (some k),.int .i64 t] w0 (fun e w'=>∃r:Bool,e=.returned (.bool r)∧((r=true↔Sp.Drv L (fun x=>x∈Sp.zO S) t)∧Pure w0 w')):=by
 refine w_I4 _ _ w0 (fun r w'=>(r=true↔Sp.Drv L (fun x=>x∈Sp.zO S) t)∧Pure w0 w') ?_
 unfold m_I4
 refine (jMH k p t w0 hW hk h hP).mono ?_
 rintro _ w1 ⟨r,ok,rfl,l,hr,hd,_,_⟩
 exact ⟨r,ok,rfl,hd,hr.pure⟩
end Go.Proofs
end
